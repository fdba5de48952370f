/- 'for .. range f': what a round is, and the whole loop. -/
import Derived.Test.YtdmjloieldhlnaaCore24
namespace Go.Ab
open Go.RowKit
set_option linter.unusedVariables false
set_option linter.unusedSimpArgs false

/-- A round's temporaries. -/
def bindP : List Tmp → List AV → Env → Env
  | p :: ps, x :: xs, env => bindP ps xs ((p, x) :: env)
  | _, _, env => env
theorem bindP_sound {K : Wd} {nx : Nat} : ∀ (ps : List Tmp) (xs : List AV) (args : List Value) (env : Env) (tmps : Array Value), xs.length = args.length → (∀ p ∈ ps, p < tmps.size) → (∀ (i : Nat) (x : AV) (v : Value), xs[i]? = some x → args[i]? = some v → VR K nx x v) →
    EnvR K nx env tmps → EnvR K nx (bindP ps xs env) ((ps.zip args).foldl (fun t (p : Tmp × Value) => t.setIfInBounds p.1 p.2) tmps) ∧ ((ps.zip args).foldl (fun t (p : Tmp × Value) => t.setIfInBounds p.1 p.2) tmps).size = tmps.size
  | [], xs, args, env, tmps, _, _, _, he => ⟨he, rfl⟩
  | p :: ps, [], [], env, tmps, _, _, _, he => ⟨he, rfl⟩
  | p :: ps, x :: xs, v :: args, env, tmps, hl, hp, hx, he => by
    have := bindP_sound ps xs args ((p, x) :: env) (tmps.setIfInBounds p v) (by simpa using hl) (fun q hq => by simpa using hp q (by simp [hq])) (fun i y u h1 h2 => hx (i + 1) y u (by simpa using h1) (by simpa using h2)) (by
      intro t y hy
      rw [eget_cons] at hy
      split at hy
      · rename_i e; subst e
        injection hy with hy; subst hy
        exact ⟨v, by rw [Array.getElem?_setIfInBounds]; simp [hp p (by simp)], hx 0 x v rfl rfl⟩
      · rename_i e
        obtain ⟨u, h1, h2⟩ := he t y hy
        exact ⟨u, by rw [Array.getElem?_setIfInBounds, if_neg e]; exact h1, h2⟩)
    simpa [bindP] using this
  | p :: ps, [], v :: args, env, tmps, hl, _, _, he => by simp at hl
  | p :: ps, x :: xs, [], env, tmps, hl, _, _, he => by simp at hl

section
variable {P : Program} {own : Nat → Nat → Bool} {N : Nat}
/-- **A round of a loop 'for .. range f'.** -/
theorem AY_round {b : Nat} {fn : FuncId} {env : Env} {ps : Array Tmp} {as bd : Code} {dm : Nat} {aa ab : ACode} {xs : List AV} {h : Heap} {nx : Nat} {Q : AE → Heap → Nat → Prop}
    (ha : compile P own N as = some aa) (hb : compile P own N bd = some ab) (hl : hget h b = some (.loop false fn N env ps as bd dm)) (hsz : xs.length = ps.size) (hps : ∀ p ∈ ps.toList, p < N)
    (h1 : ∀ l, AW P own (some l) N aa (fun x s => x = .normal ∧ s.dm = [] ∧ hget s.heap b = some (.loop false fn N env ps as bd dm) ∧
      AW P own (some l) N ab (fun x s' => x = .normal ∧ s'.dm = [] ∧ hget s'.heap b = some (.loop true fn N env ps as bd dm) ∧ Q (.ret (.bool true)) (hset s'.heap b (.loop false fn N env ps as bd dm)) s'.nx)
        { s with heap := hset s.heap b (.loop true fn N env ps as bd dm) }) { env := bindP ps.toList xs env, heap := h, nx := nx }) : AY P b xs h nx Q := by
  intro w0 K args g har
  obtain ⟨hlt, _, _, ob, hob, hor⟩ := g.live b _ hl
  cases hor with
  | loop _ _ _ _ _ _ _ _ hdlt tmps hts D hD hen =>
  have hasz : args.size = ps.size := by rw [har.1, hsz]
  have hy := run_yield (P := P) (args := args) hob (by simpa using hasz)
  have hf : (fun (x1 : Array Value) (x2 : Tmp × Value) => x1.setIfInBounds x2.1 x2.2) = (fun t (p : Tmp × Value) => t.setIfInBounds p.1 p.2) := rfl
  refine ⟨fn, _, as, bd, hy, roundIn_of_wpIn trivial ?_⟩
  have hfold : (ps.zip args).foldl (fun tmps (x : Tmp × Value) => match x with | (t, a) => tmps.setIfInBounds t a) tmps = (ps.toList.zip args.toList).foldl (fun t (p : Tmp × Value) => t.setIfInBounds p.1 p.2) tmps := by
    rw [← Array.foldl_toList, Array.toList_zip]
  obtain ⟨e1, e2⟩ := bindP_sound (K := K) (nx := nx) ps.toList xs args.toList env tmps (by simpa using har.1.symm) (fun p hp => by rw [hts]; exact hps p hp) (fun i x v hx hv => har.2 i x v hx (by simpa using hv)) hen
  simp only [Bool.false_eq_true, if_false] at hob
  simp only [hfold]
  have hs : StR w0 N K { env := bindP ps.toList xs env, heap := h, nx := nx } { tmps := (ps.toList.zip args.toList).foldl (fun t (p : Tmp × Value) => t.setIfInBounds p.1 p.2) tmps, defers := [] } :=
    ⟨g, e1, by rw [e2, hts], rfl, fun b hb => by simp at hb⟩
  refine wpIn_mono (h1 (K.m b) as ha w0 K _ hs) ?_
  rintro e a1 w1 ⟨K1, st1, x, rfl, hx1, hs1, hxr, rfl, hdm1, hl1, hbody⟩
  cases e <;> simp only [AXR] at hxr <;> first | exact hxr.elim | skip
  obtain ⟨_, _, _, ob1, hob1, hor1⟩ := hs1.good.live b _ hl1
  cases hor1 with
  | loop _ _ _ _ _ _ _ _ hdlt1 tmps1 hts1 D1 hD1 hen1 =>
  simp only [Bool.false_eq_true, if_false] at hob1
  have hm1 : K1.m b = K.m b := hx1.m b hlt
  have hns1 : ∀ c e, K1.w.heap[K1.m b]? = some (.cells c e (0, 0)) → ∃ c' : Array Value, (Obj.loop { state := .busy, pending := none, fn := fn, tmps := tmps1, params := ps, assign := as, body := bd, defers := D1 }) = .cells c' e (0, 0) ∧ c'.size = c.size := by
    intro c e h; rw [hob1] at h; cases h
  have hb1 := run_beginRound (P := P) hob1 rfl
  rw [hm1] at hb1
  simp only [Exit.then]
  refine ⟨_, hb1, ?_⟩
  have he2 := Ext.putObj (ob := Obj.loop { state := .busy, pending := none, fn := fn, tmps := tmps1, params := ps, assign := as, body := bd, defers := D1 }) hs1.good hl1 hns1
  have hg2 := Good.putObj (o' := .loop true fn N env ps as bd dm) (ob := Obj.loop { state := .busy, pending := none, fn := fn, tmps := tmps1, params := ps, assign := as, body := bd, defers := D1 }) hs1.good hl1 hns1
    (by
      have := OR.loop (K := K1.putObj b (Obj.loop { state := .busy, pending := none, fn := fn, tmps := tmps1, params := ps, assign := as, body := bd, defers := D1 })) (nx := st1.nx) true fn N env ps as bd dm hdlt1 tmps1 hts1 D1 hD1 (fun t x hx => let ⟨v, h1, h2⟩ := hen1 t x hx; ⟨v, h1, h2.mono he2⟩)
      simpa using this)
  have hs2 : StR w0 N (K1.putObj b (Obj.loop { state := .busy, pending := none, fn := fn, tmps := tmps1, params := ps, assign := as, body := bd, defers := D1 })) { st1 with heap := hset st1.heap b (.loop true fn N env ps as bd dm) } a1 := by
    refine ⟨hg2, hs1.env.mono he2, hs1.size, ?_, hs1.dm⟩
    rw [hs1.defers]; simp only [marks, hdm1, List.map_nil]
  have hw2 : (K1.putObj b (Obj.loop { state := .busy, pending := none, fn := fn, tmps := tmps1, params := ps, assign := as, body := bd, defers := D1 })).w = K1.w.putObj (K.m b) (.loop { state := .busy, pending := none, fn := fn, tmps := tmps1, params := ps, assign := as, body := bd, defers := D1 }) := by simp [Wd.putObj, hm1]
  have := hbody bd hb w0 _ a1 hs2
  rw [hw2] at this
  refine wpIn_mono this ?_
  rintro e3 a3 w3 ⟨K3, st3, x3, rfl, hx3, hs3, hxr3, rfl, hdm3, hl3, hq⟩
  cases e3 <;> simp only [AXR] at hxr3 <;> first | exact hxr3.elim | skip
  obtain ⟨_, _, _, ob3, hob3, hor3⟩ := hs3.good.live b _ hl3
  cases hor3 with
  | loop _ _ _ _ _ _ _ _ hdlt3 tmps3 hts3 D3 hD3 hen3 =>
  simp only [if_true] at hob3
  have hlt2 : b < st1.nx := Nat.lt_of_lt_of_le hlt hx1.le
  have hm3 : K3.m b = K.m b := by
    rw [hx3.m b hlt2]
    show K1.m b = K.m b
    exact hm1
  have hns3 : ∀ c e, K3.w.heap[K3.m b]? = some (.cells c e (0, 0)) → ∃ c' : Array Value, (Obj.loop { state := .ready, pending := none, fn := fn, tmps := tmps3, params := ps, assign := as, body := bd, defers := D3 }) = .cells c' e (0, 0) ∧ c'.size = c.size := by
    intro c e h; rw [hob3] at h; cases h
  have hb3 := run_endRound (P := P) none hob3
  rw [hm3] at hb3
  have he4 := Ext.putObj (ob := Obj.loop { state := .ready, pending := none, fn := fn, tmps := tmps3, params := ps, assign := as, body := bd, defers := D3 }) hs3.good hl3 hns3
  have hg4 := Good.putObj (o' := .loop false fn N env ps as bd dm) (ob := Obj.loop { state := .ready, pending := none, fn := fn, tmps := tmps3, params := ps, assign := as, body := bd, defers := D3 }) hs3.good hl3 hns3
    (by
      have := OR.loop (K := K3.putObj b (Obj.loop { state := .ready, pending := none, fn := fn, tmps := tmps3, params := ps, assign := as, body := bd, defers := D3 })) (nx := st3.nx) false fn N env ps as bd dm hdlt3 tmps3 hts3 D3 hD3 (fun t x hx => let ⟨v, h1, h2⟩ := hen3 t x hx; ⟨v, h1, h2.mono he4⟩)
      simpa using this)
  have hw4 : (K3.putObj b (Obj.loop { state := .ready, pending := none, fn := fn, tmps := tmps3, params := ps, assign := as, body := bd, defers := D3 })).w = K3.w.putObj (K.m b) (.loop { state := .ready, pending := none, fn := fn, tmps := tmps3, params := ps, assign := as, body := bd, defers := D3 }) := by simp [Wd.putObj, hm3]
  refine ⟨_, _, hb3, ?_⟩
  refine ⟨_, _, _, _, hw4, ?_, hg4, ?_, hq⟩
  · exact ((hx1.trans he2).trans hx3).trans he4
  · exact .bool true

/-- **The loop.** -/
theorem AW_rangeF {st : ASt} {Q : AX → ASt → Prop} {g : Operand} {ps : Array Tmp} {aa ab : ACode} {gf : FuncId} {caps : List AV} (hg : oev st.env g = some (.fn (.func gf) caps))
    (hc : ∀ fn as bd, compile P own N as = some aa → compile P own N bd = some ab →
      AC P gf (.yl (st.nx + 1) :: caps) ((st.nx + 1, .loop false fn N st.env ps as bd st.nx) :: (st.nx, .dfd) :: st.heap) (st.nx + 2) fun y h' n' =>
        (∃ x, y = .ret x) ∧ hget h' (st.nx + 1) = some (.loop false fn N st.env ps as bd st.nx) ∧ Q .normal { st with heap := hdel h' (st.nx + 1), nx := n', dm := st.nx :: st.dm }) : AW P own none N (.rangeF g ps aa ab) Q st := by
  intro c hcc w0 K a hs
  obtain ⟨as, bd, rfl, ha, hb⟩ := inv_rangeF hcc
  refine wpIn_rangeFunc fun fn hfn => ?_
  have hcall := hc fn as bd ha hb
  have hfv := oev_sound hs.env hg
  generalize hcf : a.eval g = cf at hfv
  cases hfv with
  | fn _ _ lb hcs hcr =>
  obtain ⟨K1, hK1⟩ : ∃ K1, K1 = K.alloc st.nx (.deferred (some [])) := ⟨_, rfl⟩
  have g1 : Good w0 K1 ((st.nx, .dfd) :: st.heap) (st.nx + 1) := by rw [hK1]; exact hs.good.alloc .dfd
  have x1 : Ext K st.nx K1 (st.nx + 1) := by rw [hK1]; exact Ext.alloc hs.good _
  have hm1 : K1.m st.nx = K.w.heap.size := by rw [hK1]; simp [Wd.alloc]
  obtain ⟨rec, hrec⟩ : ∃ rec : Loop, rec = { state := .ready, pending := none, fn := fn, tmps := a.tmps, params := ps, assign := as, body := bd, defers := K.w.heap.size } := ⟨_, rfl⟩
  obtain ⟨K2, hK2⟩ : ∃ K2, K2 = K1.alloc (st.nx + 1) (.loop rec) := ⟨_, rfl⟩
  have x2 : Ext K1 (st.nx + 1) K2 (st.nx + 2) := by rw [hK2]; exact Ext.alloc g1 _
  have g2 : Good w0 K2 ((st.nx + 1, .loop false fn N st.env ps as bd st.nx) :: (st.nx, .dfd) :: st.heap) (st.nx + 2) := by
    rw [hK2]
    refine g1.alloc ?_
    have := OR.loop (K := K1.alloc (st.nx + 1) (.loop rec)) (nx := st.nx + 2) false fn N st.env ps as bd st.nx (by omega) a.tmps hs.size K.w.heap.size (by rw [← hK2, x2.m st.nx (by omega), hm1]) (fun t x hx => by
      obtain ⟨v, h1, h2⟩ := hs.env t x hx
      rw [← hK2]
      exact ⟨v, h1, (h2.mono x1).mono x2⟩)
    simpa [hrec] using this
  have hm2 : K2.m (st.nx + 1) = K.w.heap.size + 1 := by rw [hK2]; simp [Wd.alloc, hK1]
  have hw2 : K2.w = (K.w.alloc (.deferred (some []))).alloc (.loop rec) := by rw [hK2, hK1]; simp [Wd.alloc]
  have x02 := x1.trans x2
  have harg : ArgR K2 (st.nx + 2) (.yl (st.nx + 1) :: caps) (#[.func (.yield (K.w.heap.size + 1)) #[] #[]] ++ lb) := by
    refine ⟨by simp [hcs]; omega, fun i x v hx hv => ?_⟩
    cases i with
    | zero =>
      rw [Array.getElem?_append_left (by simp)] at hv
      simp at hx hv; subst hx; subst hv
      exact .yl _ (by omega) _ hm2.symm
    | succ i =>
      have h2 : lb[i]? = some v := by
        rw [Array.getElem?_append_right (by simp)] at hv
        simpa using hv
      exact (hcr i x v (by simpa using hx) h2).mono x02
  refine ⟨K.w.heap.size + 1, [{ target := .collected K.w.heap.size, args := #[] }], K2.w, { target := .fn (.func gf) lb, args := #[.func (.yield (K.w.heap.size + 1)) #[] #[]] }, K2.w, gf,
    #[.func (.yield (K.w.heap.size + 1)) #[] #[]] ++ lb, K2.w, ?_, ?_, ?_, ?_, fun hh => by simp [Fence.wide] at hh, ?_⟩
  · rw [hw2, hrec]; exact run_enterLoop_outer _ _ _ _ _
  · simp only [resolve, hcf]
    simp [go_sem]
  · intro f' hf'; trivial
  · simp [invoke, go_sem, hcall.1]
  · have hcalls := hcall.2 w0 K2 _ g2 harg
    have hcin : CallsIn Fence.wide (0 - 1) P gf (#[.func (.yield (K.w.heap.size + 1)) #[] #[]] ++ lb) K2.w _ := callsIn_wide.2 hcalls
    refine (show CallsIn { Fence.wide with round := none } (0 - 1) P gf (#[.func (.yield (K.w.heap.size + 1)) #[] #[]] ++ lb) K2.w _ from hcin).mono ?_
    rintro e w' ⟨K', h', nx', y, rfl, hext, hgood, her, ⟨x, rfl⟩, hl', hq⟩
    cases e <;> simp only [AER] at her <;> first | exact her.elim | skip
    obtain ⟨_, _, _, ob3, hob3, hor3⟩ := hgood.live _ _ hl'
    cases hor3 with
    | loop _ _ _ _ _ _ _ _ hdlt3 tmps3 hts3 D3 hD3 hen3 =>
    simp only [Bool.false_eq_true, if_false] at hob3
    have hm3 : K'.m (st.nx + 1) = K.w.heap.size + 1 := by rw [hext.m _ (by omega), hm2]
    rw [hm3] at hob3
    have hend := run_endLoop (P := P) hob3 (by simp)
    simp only [rangePost]
    refine ⟨_, _, hend, ?_⟩
    have hns : ∀ c e, K'.w.heap[K'.m (st.nx + 1)]? = some (.cells c e (0, 0)) → ∃ c' : Array Value, (Obj.loop { state := .exhausted, pending := none, fn := fn, tmps := tmps3, params := ps, assign := as, body := bd, defers := D3 }) = .cells c' e (0, 0) ∧ c'.size = c.size := by
      intro c e h; rw [hm3, hob3] at h; cases h
    obtain ⟨g4, x4⟩ := hgood.drop hl' (.loop { state := .exhausted, pending := none, fn := fn, tmps := tmps3, params := ps, assign := as, body := bd, defers := D3 }) hns
    have xx := (x02.trans hext).trans x4
    refine ⟨_, _, .normal, ?_, xx, ⟨g4, hs.env.mono xx, hs.size, ?_, ?_⟩, trivial, hq⟩
    · simp [Wd.putObj, hm3]
    · rw [hs.defers]
      simp only [marks, List.map_cons, List.cons_append, List.nil_append]
      congr 1
      · have : (K'.putObj (st.nx + 1) (.loop { state := .exhausted, pending := none, fn := fn, tmps := tmps3, params := ps, assign := as, body := bd, defers := D3 })).m st.nx = K.w.heap.size := by
          rw [x4.m st.nx (by have := hext.le; omega), hext.m st.nx (by omega), x2.m st.nx (by omega), hm1]
        rw [this]
      · apply List.map_congr_left
        intro b hb
        rw [xx.m b (hs.dm b hb)]
    · intro b hb
      have := hext.le
      rcases List.mem_cons.1 hb with rfl | hb
      · simp only; omega
      · have := hs.dm b hb; simp only; omega
end
end Go.Ab
