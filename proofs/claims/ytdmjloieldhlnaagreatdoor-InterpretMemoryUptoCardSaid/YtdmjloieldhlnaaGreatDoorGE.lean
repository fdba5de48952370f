/- Functions that defer a closure which recovers: their contracts from the pieces of their bodies. -/
import Derived.Test.YtdmjloieldhlnaaGreatDoorGD
import Derived.RecoverIn
namespace Go.Ab
open Go.RowKit
set_option linter.unusedVariables false
set_option linter.unusedSimpArgs false
def mdO : Option AV → Value → FrameMode
  | none, _ => .returning
  | some _, v => .panicking [{ v, recovered := false }]
def rcA : Option AV → AV
  | none => .nilI
  | some x => x
def ADf (P : Program) (f : FuncId) (xs : List AV) (h : Heap) (nx : Nat) (u : Option AV) (Q : Heap → Nat → Prop) : Prop :=
  (∀ args w, (callFunc f args).run P w = .ok (.enter f args) w) ∧
  ∀ (w0 : World) (K : Wd) (args : Array Value) (v : Value), K.ds = [] → Good w0 K h nx → ArgR K nx xs args → (∀ x, u = some x → VR K nx x v) →
    CallsDIn Fence.wide 0 P f args (mdO u v) K.w fun e u' w' => ∃ r K' h' nx', e = .returned r ∧ K'.w = w' ∧ Ext K nx K' nx' ∧ Good w0 K' h' nx' ∧ settle u' = .returning ∧ Q h' nx'
structure ClI where
  t : Tmp
  ss : List AStep
  ac : ACode
  deriving Inhabited
def isRec (o : Oper) : Option Tmp := match o.op, o.guard, o.dst with
  | .call c, none, some t => (match c.callee with
    | .builtin .recover => some t
    | _ => none)
  | _, _, _ => none
def compileCl (P : Program) (own : Nat → Nat → Bool) (N : Nat) : Code → Option ClI
  | .seq (.region id ops false) rest => (match ops.toList with
    | o :: os => (match isRec o with
      | some t => if t < N then (match compileSteps P (own id) N ops 1 os, compile P own N rest with
        | some ss, some ac => some ⟨t, ss, ac⟩
        | _, _ => none) else none
      | none => none)
    | [] => none)
  | _ => none
def IsCl (P : Program) (own : Nat → Nat → Bool) (f : FuncId) (N : Nat) (cl : ClI) : Prop :=
  ∃ fn, P.funcs[f]? = some fn ∧ fn.ntmps = N ∧ (fn.body.bind fun c => compileCl P own N c) = some cl ∧ compileRes P fn.results.toList = some [] ∧ ∀ args w, (callFunc f args).run P w = .ok (.enter f args) w
inductive StS : List AStep → ASt → ASt → Prop
  | nil (st : ASt) : StS [] st st
  | off {s : AStep} {ss : List AStep} {st st' : ASt} (hg : guardOk st.env s.guard = some false) (r : StS ss { st with env := dropE s.dst st.env } st') : StS (s :: ss) st st'
  | val {d : Option Tmp} {g : Option (Tmp × Bool)} {ao : AOp} {ss : List AStep} {st st' : ASt} {x : AV} {h : Heap} {n : Nat} (hg : guardOk st.env g = some true) (hev : opEv ao st.env st.heap st.nx = some (.val x, h, n))
      (r : StS ss { st with env := setE d x st.env, heap := h, nx := n } st') : StS (⟨d, g, .op ao⟩ :: ss) st st'
  | skp {d : Option Tmp} {g : Option (Tmp × Bool)} {ao : AOp} {ss : List AStep} {st st' : ASt} {h : Heap} {n : Nat} (hg : guardOk st.env g = some true) (hev : opEv ao st.env st.heap st.nx = some (.skip, h, n))
      (r : StS ss { st with env := dropE d st.env, heap := h, nx := n } st') : StS (⟨d, g, .op ao⟩ :: ss) st st'
section
variable {P : Program} {own : Nat → Bool} {N : Nat}
theorem wpOpsS_run {ops : Array Oper} {w0 : World} {cs : List Frame} {Q : Exit → Act → List Frame → World → Prop} {ss : List AStep} {st st' : ASt} (hr : StS ss st st') : ∀ (os : List Oper) (i : Nat) (K : Wd) (a : Act), compileSteps P own N ops i os = some ss → (∀ j, ops[i + j]? = os[j]?) →
    StR w0 N K st a → (∀ K' a', Ext K st.nx K' st'.nx → StR w0 N K' st' a' → Q .normal a' cs K'.w) → wpOpsSIn Fence.wide 0 P ops Q (List.range' i os.length) a cs K.w := by
  induction hr with
  | nil st =>
    intro os i K a hc ho hs hq
    cases os with
    | nil => exact hq K a (Ext.refl _ _) hs
    | cons o r => simp only [compileSteps] at hc; split at hc <;> cases hc
  | @off s ss st st' hg r ih =>
    intro os i K a hc ho hs hq
    obtain ⟨o, os', rfl, h1, h2, h3, h4, h5⟩ := inv_step hc
    have hw := wanted_of hs.env h2 hg
    have e0 : ops[i]? = some o := by simpa using ho 0
    simp only [List.length_cons, List.range'_succ, wpOpsSIn, e0, hw, Bool.false_eq_true, if_false]
    refine ⟨fun f _ => trivial, ?_⟩
    rw [h4]
    exact ih os' (i + 1) K _ h1 (fun j => by have := ho (j + 1); simpa [Nat.add_assoc, Nat.add_comm 1] using this) (drop_StR (st' := { st with env := dropE s.dst st.env }) hs (Ext.refl _ _) hs.good h5 rfl rfl) hq
  | val hg hev r ih =>
    intro os i K a hc ho hs hq
    obtain ⟨o, os', rfl, h1, h2, h3, h4, h5⟩ := inv_step hc
    have hw := wanted_of hs.env h2 hg
    have e0 : ops[i]? = some o := by simpa using ho 0
    obtain ⟨hsnd, hnd⟩ := op_sound (act_op h3)
    obtain ⟨K', rr, hrun, hext, hgood, hout⟩ := hsnd w0 K _ _ _ a _ _ _ hs.good hs.env hev
    cases rr <;> simp only [outR] at hout <;> first | exact hout.elim | skip
    simp only [List.length_cons, List.range'_succ, wpOpsSIn, e0, hw, if_true, hrun]
    refine ⟨fun f _ => trivial, ?_⟩
    rw [h4]
    exact ih os' (i + 1) K' _ h1 (fun j => by have := ho (j + 1); simpa [Nat.add_assoc, Nat.add_comm 1] using this) (put_StR hs hext hgood h5 hout rfl rfl) fun K2 a2 x2 s2 => hq K2 a2 (hext.trans x2) s2
  | skp hg hev r ih =>
    intro os i K a hc ho hs hq
    obtain ⟨o, os', rfl, h1, h2, h3, h4, h5⟩ := inv_step hc
    have hw := wanted_of hs.env h2 hg
    have e0 : ops[i]? = some o := by simpa using ho 0
    obtain ⟨hsnd, hnd⟩ := op_sound (act_op h3)
    obtain ⟨K', rr, hrun, hext, hgood, hout⟩ := hsnd w0 K _ _ _ a _ _ _ hs.good hs.env hev
    cases rr <;> simp only [outR] at hout <;> first | exact hout.elim | skip
    simp only [List.length_cons, List.range'_succ, wpOpsSIn, e0, hw, if_true, hrun]
    refine ⟨fun f _ => trivial, ?_⟩
    rw [h4]
    exact ih os' (i + 1) K' _ h1 (fun j => by have := ho (j + 1); simpa [Nat.add_assoc, Nat.add_comm 1] using this) (drop_StR hs hext hgood h5 rfl rfl) fun K2 a2 x2 s2 => hq K2 a2 (hext.trans x2) s2
end
theorem penv_StR {w0 : World} {K : Wd} {h : Heap} {nx N : Nat} {xs : List AV} {args : Array Value} (hds : K.ds = []) (hg : Good w0 K h nx) (ha : ArgR K nx xs args) (hl : xs.length ≤ N) :
    StR w0 N K { env := penv 0 xs, heap := h, nx := nx } { tmps := args ++ Array.replicate (N - args.size) undef, defers := [] } := by
  refine ⟨hg, fun t x hx => ?_, ?_, by simp [marks, hds], fun b hb => by simp at hb⟩
  · rw [eget_penv, if_pos (Nat.zero_le _)] at hx
    simp only [Nat.sub_zero] at hx
    have ht : t < args.size := by rw [ha.1]; exact (List.getElem?_eq_some_iff.1 hx).1
    refine ⟨args[t], ?_, ha.2 t x _ hx (Array.getElem?_eq_getElem ht)⟩
    rw [Array.getElem?_append_left ht]
    exact Array.getElem?_eq_getElem ht
  · simp only [Array.size_append, Array.size_replicate, ha.1]
    omega
theorem ADf_of {P : Program} {own : Nat → Nat → Bool} {f : FuncId} {N : Nat} {cl : ClI} {xs : List AV} {h : Heap} {nx : Nat} {u : Option AV} {Q : Heap → Nat → Prop} (hi : IsCl P own f N cl) (hl : xs.length ≤ N) {st1 : ASt}
    (hrun : StS cl.ss { env := (cl.t, rcA u) :: penv 0 xs, heap := h, nx := nx } st1) (hw : AW P own none N cl.ac (fun x s => (x = .normal ∨ x = .ret) ∧ s.dm = [] ∧ Q s.heap s.nx) st1) : ADf P f xs h nx u Q := by
  obtain ⟨fn, hf, hN, hbc, hres, hcall⟩ := hi
  refine ⟨hcall, fun w0 K args v hds hg ha hv => ?_⟩
  obtain ⟨c, hb, hc⟩ := Option.bind_eq_some_iff.1 hbc
  refine callsDIn_of_wpSIn hf hb trivial fun c0 cs hm => ?_
  unfold compileCl at hc
  split at hc
  · rename_i id ops rest
    split at hc
    · rename_i o os hos
      split at hc
      · rename_i t hrec
        split at hc
        · rename_i htN
          split at hc
          · rename_i ss ac hss hac
            cases hc
            refine wpSIn_seq (wpSIn_region ?_)
            have hsz : ops.size = os.length + 1 := by rw [← Array.length_toList, hos]; rfl
            have e0 : ops[0]? = some o := by rw [← Array.getElem?_toList, hos]; rfl
            have ho : ∀ j, ops[1 + j]? = os[j]? := fun j => by rw [← Array.getElem?_toList, hos, Nat.add_comm]; rfl
            have hs0 := penv_StR hds hg ha hl
            unfold isRec at hrec
            split at hrec
            · rename_i cc t' hop hgd hdst
              split at hrec
              · rename_i hcal
                cases hrec
                have hnw : Region.wanted o (yielded ops (args ++ Array.replicate (fn.ntmps - args.size) undef)) = true := by simp [Region.wanted, hgd]
                have hx : ∀ a : Act, (execOp a.eval o).run P K.w = .ok .recover K.w := fun a => by
                  simp [execOp, hop, hcal, resolve, builtin, invoke, Deferred.ofValue, go_sem]
                have key : ∀ (val : Value) (c1 : List Frame), VR K nx (rcA u) val → (∃ u', c1 = { c0 with mode := u' } :: cs ∧ settle u' = .returning) →
                    wpOpsSIn Fence.wide 0 P ops (Exit.thenS (rest.wpSIn Fence.wide 0 P (bodyPostS P fn c0 cs fun e u' w' => ∃ r K' h' nx', e = .returned r ∧ K'.w = w' ∧ Ext K nx K' nx' ∧ Good w0 K' h' nx' ∧ settle u' = .returning ∧ Q h' nx'))
                      (bodyPostS P fn c0 cs fun e u' w' => ∃ r K' h' nx', e = .returned r ∧ K'.w = w' ∧ Ext K nx K' nx' ∧ Good w0 K' h' nx' ∧ settle u' = .returning ∧ Q h' nx')) (List.range' 1 os.length)
                      (Act.put { tmps := args ++ Array.replicate (fn.ntmps - args.size) undef, defers := [] } o.dst val) c1 K.w := by
                  rintro val c1 hval ⟨u', rfl, hset⟩
                  have hs1 : StR w0 N K { env := (t, rcA u) :: penv 0 xs, heap := h, nx := nx } (Act.put { tmps := args ++ Array.replicate (fn.ntmps - args.size) undef, defers := [] } o.dst val) := by
                    rw [hN, hdst]
                    exact put_StR (st' := { env := (t, rcA u) :: penv 0 xs, heap := h, nx := nx }) hs0 (Ext.refl _ _) hs0.good (d := some t) (fun q hq => by cases hq; exact htN) hval rfl rfl
                  refine wpOpsS_run hrun os 1 K _ hss ho hs1 fun K1 a1 x1 s1 => ?_
                  simp only [Exit.thenS]
                  refine wpSIn_of_wpIn rfl ?_
                  refine wpIn_mono (hw rest hac w0 K1 a1 s1) ?_
                  rintro e a2 w2 ⟨K2, st2, x2, rfl, hx2, hs2, hxr, hcase, hdm, hq⟩
                  have hdf : a2.defers = [] := by rw [hs2.defers, hdm]; simp only [marks, List.map_nil, List.nil_append]; rw [hx2.ds, x1.ds, hds]
                  obtain ⟨rv, hrv, _⟩ := results_sound (P := P) (fn := fn) (ys := []) hs2.good hs2.env hres rfl
                  rcases hcase with rfl | rfl
                  · cases e <;> simp only [AXR] at hxr <;> first | exact hxr.elim | skip
                    exact ⟨hdf, u', rfl, rv, hrv, rv, K2, st2.heap, st2.nx, rfl, rfl, x1.trans hx2, hs2.good, hset, hq⟩
                  · cases e <;> simp only [AXR] at hxr <;> first | exact hxr.elim | skip
                    exact ⟨hdf, u', rfl, rv, hrv, rv, K2, st2.heap, st2.nx, rfl, rfl, x1.trans hx2, hs2.good, hset, hq⟩
                rw [hsz, List.range_eq_range', List.range'_succ]
                simp only [wpOpsSIn, e0, hnw, if_true, hx]
                refine ⟨fun f _ => trivial, ?_⟩
                cases u with
                | none =>
                  simp only [recoverD, hm, mdO]
                  exact key .nilIface _ .nilI ⟨c0.mode, rfl, by rw [hm]; rfl⟩
                | some x =>
                  simp only [recoverD, hm, mdO]
                  exact key v _ (hv x rfl) ⟨_, rfl, rfl⟩
              · cases hrec
            · cases hrec
          · cases hc
        · cases hc
      · cases hc
    · cases hc
  · cases hc
structure DfI where
  pre : List ACode
  t : Tmp
  cf : FuncId
  caps : List Operand
  post : ACode
  deriving Inhabited
def isDef (P : Program) (N : Nat) : Code → Option (Tmp × FuncId × List Operand)
  | .region _ ops false => (match ops.toList with
    | [o1, o2] => (match compileOp P false o1, o1.guard, o1.dst, o2.op, o2.guard, o2.dst with
      | some (.mkfn (.func f) caps), none, some t, .defer c, none, none => (match c.callee with
        | .value (.tmp u) => if u = t ∧ c.args = #[] ∧ t < N then some (t, f, caps) else none
        | _ => none)
      | _, _, _, _, _, _ => none)
    | _ => none)
  | _ => none
def compileDf (P : Program) (own : Nat → Nat → Bool) (N : Nat) : Code → Option DfI
  | .seq a b => (match isDef P N a with
    | some (t, f, caps) => (compile P own N b).map fun post => ⟨[], t, f, caps, post⟩
    | none => (match compile P own N a, compileDf P own N b with
      | some x, some d => some ⟨x :: d.pre, d.t, d.cf, d.caps, d.post⟩
      | _, _ => none))
  | _ => none
def IsDf (P : Program) (own : Nat → Nat → Bool) (f : FuncId) (N : Nat) (d : DfI) (rs : List RV) : Prop :=
  ∃ fn, P.funcs[f]? = some fn ∧ fn.ntmps = N ∧ (fn.body.bind fun c => compileDf P own N c) = some d ∧ compileRes P fn.results.toList = some rs ∧ ∀ args w, (callFunc f args).run P w = .ok (.enter f args) w
def FinD (P : Program) (cf : FuncId) (cs : List AV) (rs : List RV) (Q : AE → Heap → Nat → Prop) (x : AX) (st : ASt) : Prop :=
  dmOk st.heap st.dm ∧ match x with
      | .normal => ADf P cf cs (dels st.heap st.dm) st.nx none fun h' n' => ∃ ys, rvsEv st.env h' rs = some ys ∧ Q (.ret (resV ys)) h' n'
      | .ret => ADf P cf cs (dels st.heap st.dm) st.nx none fun h' n' => ∃ ys, rvsEv st.env h' rs = some ys ∧ Q (.ret (resV ys)) h' n'
      | .panic v => ADf P cf cs (dels st.heap st.dm) st.nx (some v) fun h' n' => ∃ ys, rvsEv st.env h' rs = some ys ∧ Q (.ret (resV ys)) h' n'
      | .exit _ => False
def WD (P : Program) (own : Nat → Nat → Bool) (N : Nat) (rs : List RV) (Q : AE → Heap → Nat → Prop) (t : Tmp) (cf : FuncId) (caps : List Operand) (post : ACode) : List ACode → ASt → Prop
  | [], st => st.dm = [] ∧ ∃ cs, oevs st.env caps = some cs ∧ AW P own none N post (FinD P cf cs rs Q) { st with env := (t, .fn (.func cf) cs) :: st.env }
  | a :: l, st => AW P own none N a (fun x s => match x with
    | .normal => WD P own N rs Q t cf caps post l s
    | x => Fin rs Q x s) st
section
variable {P : Program} {own : Nat → Nat → Bool} {f : FuncId} {fn : Func} {N : Nat} {rs : List RV} {h : Heap} {nx : Nat} {Q : AE → Heap → Nat → Prop}
theorem fin_post {w0 : World} {K K' : Wd} {st' : ASt} {a' : Act} {e : Exit} {x : AX} (hr : compileRes P fn.results.toList = some rs) (hext : Ext K nx K' st'.nx) (hds : K'.ds = []) (hs' : StR w0 N K' st' a') (hx : AXR K' st'.nx x e) (hq : Fin rs Q x st') :
    bodyPostM Fence.wide 0 P fn (fun e w' => ∃ K' h' nx' y, K'.w = w' ∧ Ext K nx K' nx' ∧ Good w0 K' h' nx' ∧ AER K' nx' y e ∧ Q y h' nx') e a' K'.w := by
  obtain ⟨hdm, hq⟩ := hq
  have hret : (∃ ys, rvsEv st'.env (dels st'.heap st'.dm) rs = some ys ∧ Q (.ret (resV ys)) (dels st'.heap st'.dm) st'.nx) → LeavesInM Fence.wide 0 P fn a'.tmps (fun e w' => ∃ K' h' nx' y, K'.w = w' ∧ Ext K nx K' nx' ∧ Good w0 K' h' nx' ∧ AER K' nx' y e ∧ Q y h' nx') a'.defers .returning K'.w := by
    rintro ⟨ys, hys, hQ⟩
    rw [hs'.defers]
    refine leaves_marks (w0 := w0) (nx := st'.nx) .returning (by simp) st'.dm K' st'.heap hs'.good hdm fun K2 g2 e2 => ?_
    obtain ⟨v, h1, h2⟩ := results_sound (P := P) g2 (hs'.env.mono e2) hr hys
    rw [e2.ds, hds]
    exact ⟨v, h1, K2, _, _, .ret (resV ys), rfl, hext.trans e2, g2, h2, hQ⟩
  cases x with
  | normal =>
    cases e <;> simp only [AXR] at hx <;> first | exact hx.elim | skip
    exact hret hq
  | exit i => exact hq.elim
  | ret =>
    cases e <;> simp only [AXR] at hx <;> first | exact hx.elim | skip
    exact hret hq
  | panic v =>
    cases e <;> simp only [AXR] at hx <;> first | exact hx.elim | skip
    rename_i ch
    obtain ⟨u, rfl, hu⟩ := hx
    show LeavesInM _ _ _ _ _ _ _ _ _
    rw [hs'.defers]
    refine leaves_marks (w0 := w0) (nx := st'.nx) _ (by simp) st'.dm K' st'.heap hs'.good hdm fun K2 g2 e2 => ?_
    rw [e2.ds, hds]
    exact ⟨K2, _, _, .panic v, rfl, hext.trans e2, g2, ⟨u, rfl, hu.mono e2⟩, hq⟩
theorem CallsDIn.mono' {F : Fence} {n : Nat} {g : FuncId} {args : Array Value} {u : FrameMode} {w : World} {R R' : Ending → FrameMode → World → Prop} (hc : CallsDIn F n P g args u w R) (hq : ∀ e u' w', R e u' w' → R' e u' w') : CallsDIn F n P g args u w R' :=
  ⟨hc.1, fun c cs hu hr => let ⟨e, u', w', fr, h1, h2⟩ := hc.2 c cs hu hr; ⟨e, u', w', fr, hq _ _ _ h1, h2⟩⟩
theorem EnvR.ds {K : Wd} {nx : Nat} {env : Env} {tmps : Array Value} (l : List Deferred) (h : EnvR K nx env tmps) : EnvR { K with ds := l } nx env tmps := fun t x hx => let ⟨v, h1, h2⟩ := h t x hx; ⟨v, h1, h2.ds l⟩
theorem Ext.dsL {K K' : Wd} {n n' : Nat} (l : List Deferred) (h : Ext K n K' n') : Ext { K with ds := l } n { K' with ds := l } n' := ⟨h.le, h.m, h.Z, h.ice, h.size, h.lo, h.Zn, rfl⟩
theorem finD_post {w0 : World} {K K' : Wd} {st' : ASt} {a' : Act} {e : Exit} {x : AX} {cf : FuncId} {cs : List AV} {lb : Array Value} (hr : compileRes P fn.results.toList = some rs) (hK : K.ds = []) (hext : Ext K nx { K' with ds := [] } st'.nx) (hds : K'.ds = [{ target := .fn (.func cf) lb, args := #[] }]) (hlb : ArgR K' st'.nx cs lb)
    (hs' : StR w0 N K' st' a') (hx : AXR K' st'.nx x e) (hq : FinD P cf cs rs Q x st') :
    bodyPostM Fence.wide 0 P fn (fun e w' => ∃ K' h' nx' y, K'.w = w' ∧ Ext K nx K' nx' ∧ Good w0 K' h' nx' ∧ AER K' nx' y e ∧ Q y h' nx') e a' K'.w := by
  obtain ⟨hdm, hq⟩ := hq
  have key : ∀ (u : Option AV) (v : Value), (∀ x, u = some x → VR K' st'.nx x v) → (ADf P cf cs (dels st'.heap st'.dm) st'.nx u fun h' n' => ∃ ys, rvsEv st'.env h' rs = some ys ∧ Q (.ret (resV ys)) h' n') →
      LeavesInM Fence.wide 0 P fn a'.tmps (fun e w' => ∃ K' h' nx' y, K'.w = w' ∧ Ext K nx K' nx' ∧ Good w0 K' h' nx' ∧ AER K' nx' y e ∧ Q y h' nx') a'.defers (mdO u v) K'.w := by
    intro u v hv hcl
    have hu : mdO u v ≠ .run := by cases u <;> simp [mdO]
    rw [hs'.defers]
    refine leaves_marks (w0 := w0) (nx := st'.nx) _ hu st'.dm K' st'.heap hs'.good hdm fun K2 g2 e2 => ?_
    rw [e2.ds, hds]
    refine ⟨hu, .inr ⟨fun hh => by simp [Fence.wide] at hh, .func cf, lb, cf, #[] ++ lb, rfl, by simp [invoke, go_sem, hcl.1], fun g hg => trivial, ?_⟩⟩
    have harg : ArgR { K2 with ds := [] } st'.nx cs (#[] ++ lb) := by
      refine ⟨by simp [hlb.1], fun i x v hx hv => ((hlb.2 i x v hx (by simpa using hv)).mono e2).ds _⟩
    refine CallsDIn.mono' (hcl.2 w0 { K2 with ds := [] } _ v rfl (g2.ds _) harg fun x hx => ((hv x hx).mono e2).ds _) ?_
    rintro e u' w' ⟨r, K4, h', nx', rfl, rfl, x4, g4, hset, ys, hys, hQ⟩
    simp only [hset]
    obtain ⟨w, h1, h2⟩ := results_sound (P := P) g4 (((hs'.env.mono e2).ds []).mono x4) hr hys
    exact ⟨w, h1, K4, h', nx', .ret (resV ys), rfl, (hext.trans (e2.dsL [])).trans x4, g4, h2, hQ⟩
  cases x with
  | normal =>
    cases e <;> simp only [AXR] at hx <;> first | exact hx.elim | skip
    exact key none default (fun _ h => by cases h) hq
  | exit i => exact hq.elim
  | ret =>
    cases e <;> simp only [AXR] at hx <;> first | exact hx.elim | skip
    exact key none default (fun _ h => by cases h) hq
  | panic v =>
    cases e <;> simp only [AXR] at hx <;> first | exact hx.elim | skip
    rename_i ch
    obtain ⟨u, rfl, hu⟩ := hx
    exact key (some v) u (fun x hx => by cases hx; exact hu) hq
theorem wd_sound {w0 : World} {K0 : Wd} (hr : compileRes P fn.results.toList = some rs) (hK0 : K0.ds = []) : ∀ (c : Code) (d : DfI), compileDf P own N c = some d → ∀ (st : ASt) (K : Wd) (a : Act), K.ds = [] → Ext K0 nx K st.nx → StR w0 N K st a → WD P own N rs Q d.t d.cf d.caps d.post d.pre st →
    c.wpIn Fence.wide 0 P (bodyPostM Fence.wide 0 P fn fun e w' => ∃ K' h' nx' y, K'.w = w' ∧ Ext K0 nx K' nx' ∧ Good w0 K' h' nx' ∧ AER K' nx' y e ∧ Q y h' nx') a K.w := by
  intro c
  induction c with
  | seq c1 c2 _ ih =>
    intro d hc st K a hds hext hs hw
    simp only [compileDf] at hc
    split at hc
    · rename_i t f caps hdf
      obtain ⟨post, hpost, rfl⟩ := Option.map_eq_some_iff.1 hc
      obtain ⟨hdm, cs, hcs, hw⟩ := hw
      unfold isDef at hdf
      split at hdf
      · rename_i id ops _
        split at hdf
        · rename_i o1 o2 hos
          split at hdf
          · rename_i f' caps' t' cc h1 h2 h3 h4 h5 h6
            split at hdf
            · rename_i u hcal
              split at hdf
              · rename_i hu
                obtain ⟨rfl, hargs, htN⟩ := hu
                cases hdf
                refine wpIn_seq (wpIn_region ?_)
                rw [List.range_eq_range', ← Array.length_toList, wpOpsIn_eq_wpListIn ops.toList 0 (by simp), hos]
                obtain ⟨hsnd, hnd⟩ := op_sound h1
                have hev : opEv (.mkfn (.func f) caps) st.env st.heap st.nx = some (.val (.fn (.func f) cs), st.heap, st.nx) := by simp only [opEv, hcs]
                obtain ⟨K', rr, hrun, hx1, hg1, hout⟩ := hsnd w0 K _ _ _ a _ _ _ hs.good hs.env hev
                cases rr <;> simp only [outR] at hout <;> first | exact hout.elim | skip
                rename_i v
                have hs1 : StR w0 N K' { st with env := (t, .fn (.func f) cs) :: st.env } (a.put o1.dst v) := by
                  rw [h3]
                  exact put_StR (st' := { st with env := (t, .fn (.func f) cs) :: st.env }) hs hx1 hg1 (d := some t) (fun q hq => by cases hq; exact htN) hout rfl rfl
                have hw1 : Region.wanted o1 (yielded ops a.tmps) = true := by simp [Region.wanted, h2]
                have hw2 : Region.wanted o2 (yielded ops (a.put o1.dst v).tmps) = true := by simp [Region.wanted, h5]
                simp only [wpListIn, hw1, if_true, Oper.wpIn]
                refine ⟨fun f _ => trivial, ?_⟩
                rw [Oper.semAt_eq _ _ _ hnd, hrun]
                simp only [Oper.uponIn]
                generalize ha1 : a.put o1.dst v = a1 at hs1 hw2 ⊢
                simp only [hw2, if_true]
                refine ⟨fun f _ => trivial, ?_⟩
                obtain ⟨v1, hv1, hvr1⟩ := hs1.env t (.fn (.func f) cs) (by rw [eget_cons, if_pos rfl])
                cases hvr1 with
                | fn _ _ lb hcsz hcr =>
                have htm : a1.eval (.tmp t) = .func (.func f) #[] lb := by simp [Act.eval, Array.getD_eq_getD_getElem?, hv1]
                have hdefer : (o2.semAt none a1.eval).run P K'.w = .ok (.defer { target := .fn (.func f) lb, args := #[] }) K'.w := by
                  simp [Oper.semAt, execOp, h4, resolve, hcal, htm, hv1, hargs, Deferred.ofValue, go_sem]
                have hdefer' : (o2.semAt Fence.wide.round a1.eval).run P K'.w = .ok (.defer { target := .fn (.func f) lb, args := #[] }) K'.w := hdefer
                rw [hdefer']
                simp only [Oper.uponIn, h6, Act.put]
                have hK1 : K'.ds = [] := by rw [hx1.ds, hds]
                have hs2 : StR w0 N { K' with ds := [{ target := .fn (.func f) lb, args := #[] }] } { st with env := (t, .fn (.func f) cs) :: st.env } { a1 with defers := { target := .fn (.func f) lb, args := #[] } :: a1.defers } :=
                  ⟨hs1.good.ds _, hs1.env.ds _, hs1.size, by rw [hs1.defers]; simp [marks, hdm, hK1], hs1.dm⟩
                have hh := hw c2 hpost w0 _ _ hs2
                refine wpIn_mono hh ?_
                rintro e a2 w2 ⟨K2, st2, x2, rfl, hx2, hs3, hxr, hq⟩
                have hlb : ArgR K2 st2.nx cs lb := ⟨hcsz, fun i x v hx hv => ((hcr i x v hx hv).ds _).mono hx2⟩
                exact finD_post hr hK0 ((hext.trans hx1).trans (by have := hx2.dsL ([] : List Deferred); rw [show ({ ({ K' with ds := [{ target := .fn (.func f) lb, args := #[] }] } : Wd) with ds := [] } : Wd) = K' by cases K'; simp at hK1 ⊢; exact hK1] at this; exact this)) hx2.ds hlb hs3 hxr hq
              · cases hdf
            · cases hdf
          · cases hdf
        · cases hdf
      · cases hdf
    · split at hc
      · rename_i x d' h1 h2
        cases hc
        refine wpIn_seq (wpIn_mono (hw c1 h1 w0 K a hs) ?_)
        rintro e a' w' ⟨K', st', x', rfl, hx1, hs', hxr, hq⟩
        have hds' : K'.ds = [] := by rw [hx1.ds, hds]
        cases x' with
        | normal =>
          cases e <;> simp only [AXR] at hxr <;> first | exact hxr.elim | skip
          exact ih d' h2 st' K' a' hds' (hext.trans hx1) hs' hq
        | exit i =>
          cases e <;> simp only [AXR] at hxr <;> first | exact hxr.elim | skip
          exact hq.2.elim
        | ret =>
          cases e <;> simp only [AXR] at hxr <;> first | exact hxr.elim | skip
          exact fin_post (e := .ret) (x := .ret) hr (hext.trans hx1) hds' hs' trivial hq
        | panic v =>
          cases e <;> simp only [AXR] at hxr <;> first | exact hxr.elim | skip
          exact fin_post (e := .panic _) (x := .panic v) hr (hext.trans hx1) hds' hs' hxr hq
      · cases hc
  | _ => intro d hc; simp [compileDf] at hc
theorem AC.df {d : DfI} {xs : List AV} (hi : IsDf P own f N d rs) (hl : xs.length ≤ N) (hw : WD P own N rs Q d.t d.cf d.caps d.post d.pre { env := penv 0 xs, heap := h, nx := nx }) : AC P f xs h nx Q := by
  obtain ⟨fn, hf, hN, hbc, hres, hcall⟩ := hi
  obtain ⟨c, hb, hc⟩ := Option.bind_eq_some_iff.1 hbc
  refine AC_fresh hcall fun w0 K args hds hg ha => ?_
  refine callsIn_wide.1 (callsIn_of_wp_marks (F := Fence.wide) (n := 0) hf hb trivial ?_)
  exact wd_sound hres hds c d hc _ K _ hds (Ext.refl _ _) (by rw [hN]; exact penv_StR hds hg ha hl) hw
end
end Go.Ab
namespace Go.Ab
open Go.RowKit
set_option linter.unusedVariables false
set_option linter.unusedSimpArgs false
inductive Tr (α : Type) where
  | nil
  | node (v : Option α) (l r : Tr α)
  deriving Inhabited
def Tr.get {α : Type} : Tr α → Nat → Option α
  | .nil, _ => none
  | .node v l r, t => match t with
    | 0 => v
    | t + 1 => match Nat.mod t 2 with
      | 0 => l.get (Nat.div t 2)
      | _ + 1 => r.get (Nat.div t 2)
def Tr.setT {α : Type} (x : Option α) : Nat → Tr α → Nat → Tr α
  | 0, _, _ => .nil
  | f + 1, .nil, t => match t with
    | 0 => .node x .nil .nil
    | t + 1 => match Nat.mod t 2 with
      | 0 => .node none (Tr.setT x f .nil (Nat.div t 2)) .nil
      | _ + 1 => .node none .nil (Tr.setT x f .nil (Nat.div t 2))
  | f + 1, .node v l r, t => match t with
    | 0 => .node x l r
    | t + 1 => match Nat.mod t 2 with
      | 0 => .node v (Tr.setT x f l (Nat.div t 2)) r
      | _ + 1 => .node v l (Tr.setT x f r (Nat.div t 2))
def Tr.set {α R : Type} (x : Option α) : Nat → Tr α → Nat → (Tr α → R) → R
  | 0, _, _, k => k .nil
  | f + 1, .nil, t, k => match t with
    | 0 => k (.node x .nil .nil)
    | t + 1 => match Nat.mod t 2 with
      | 0 => Tr.set x f .nil (Nat.div t 2) fun l => k (.node none l .nil)
      | _ + 1 => Tr.set x f .nil (Nat.div t 2) fun r => k (.node none .nil r)
  | f + 1, .node v l r, t, k => match t with
    | 0 => k (.node x l r)
    | t + 1 => match Nat.mod t 2 with
      | 0 => Tr.set x f l (Nat.div t 2) fun l => k (.node v l r)
      | _ + 1 => Tr.set x f r (Nat.div t 2) fun r => k (.node v l r)
theorem Tr.set_eq {α R : Type} (x : Option α) : ∀ (f : Nat) (tr : Tr α) (t : Nat) (k : Tr α → R), Tr.set x f tr t k = k (Tr.setT x f tr t) := by
  intro f
  induction f with
  | zero => intro tr t k; rfl
  | succ f ih =>
    intro tr t k
    cases tr with
    | nil =>
      cases t with
      | zero => rfl
      | succ t => simp only [Tr.set, Tr.setT]; cases Nat.mod t 2 <;> simp only [ih]
    | node v l r =>
      cases t with
      | zero => rfl
      | succ t => simp only [Tr.set, Tr.setT]; cases Nat.mod t 2 <;> simp only [ih]
theorem Tr.get_nil {α : Type} (t : Nat) : (Tr.nil : Tr α).get t = none := by cases t <;> rfl
theorem Tr.get_node {α : Type} (v : Option α) (l r : Tr α) (t : Nat) : (Tr.node v l r).get t = if t = 0 then v else if (t - 1) % 2 = 0 then l.get ((t - 1) / 2) else r.get ((t - 1) / 2) := by
  cases t with
  | zero => rfl
  | succ t =>
    have e1 : Nat.mod t 2 = t % 2 := rfl
    have e2 : Nat.div t 2 = t / 2 := rfl
    simp only [Tr.get, e1, e2, Nat.add_sub_cancel, Nat.succ_ne_zero, if_false]
    have := Nat.mod_lt t (show 0 < 2 by omega)
    split <;> simp_all
theorem Tr.setT_succ {α : Type} (x : Option α) (f : Nat) (tr : Tr α) (t : Nat) : ∃ v l r, (∀ u, tr.get u = (Tr.node v l r).get u) ∧ Tr.setT x (f + 1) tr t = if t = 0 then .node x l r else if (t - 1) % 2 = 0 then .node v (Tr.setT x f l ((t - 1) / 2)) r else .node v l (Tr.setT x f r ((t - 1) / 2)) := by
  cases tr with
  | nil =>
    refine ⟨none, .nil, .nil, fun u => ?_, ?_⟩
    · rw [get_nil, get_node, get_nil]; split <;> simp
    · cases t with
      | zero => rfl
      | succ t =>
        have e1 : Nat.mod t 2 = t % 2 := rfl
        have e2 : Nat.div t 2 = t / 2 := rfl
        simp only [Tr.setT, e1, e2, Nat.add_sub_cancel, Nat.succ_ne_zero, if_false]
        have := Nat.mod_lt t (show 0 < 2 by omega)
        split <;> simp_all
  | node v l r =>
    refine ⟨v, l, r, fun u => rfl, ?_⟩
    cases t with
    | zero => rfl
    | succ t =>
      have e1 : Nat.mod t 2 = t % 2 := rfl
      have e2 : Nat.div t 2 = t / 2 := rfl
      simp only [Tr.setT, e1, e2, Nat.add_sub_cancel, Nat.succ_ne_zero, if_false]
      have := Nat.mod_lt t (show 0 < 2 by omega)
      split <;> simp_all
theorem Tr.get_setT {α : Type} (x : Option α) : ∀ (f : Nat) (tr : Tr α) (t u : Nat) (y : α), (Tr.setT x f tr t).get u = some y → if u = t then x = some y else tr.get u = some y := by
  intro f
  induction f with
  | zero => intro tr t u y h; simp [Tr.setT, get_nil] at h
  | succ f ih =>
    intro tr t u y h
    obtain ⟨v, l, r, h1, h2⟩ := setT_succ x f tr t
    rw [h2] at h
    rw [h1 u, get_node]
    by_cases ht : t = 0
    · rw [if_pos ht, get_node] at h
      subst ht
      split
      · rename_i hu; rw [if_pos hu] at h; exact h
      · rename_i hu; rw [if_neg hu] at h; exact h
    · rw [if_neg ht] at h
      by_cases hp : (t - 1) % 2 = 0
      · rw [if_pos hp, get_node] at h
        by_cases hu : u = 0
        · rw [if_pos hu] at h
          rw [if_neg (by omega), if_pos hu]; exact h
        · rw [if_neg hu] at h ⊢
          by_cases hq : (u - 1) % 2 = 0
          · rw [if_pos hq] at h ⊢
            have := ih _ _ _ _ h
            by_cases e : u = t
            · rw [if_pos e]; subst e; rwa [if_pos rfl] at this
            · rw [if_neg e]; rwa [if_neg (by omega)] at this
          · rw [if_neg hq] at h ⊢
            rw [if_neg (by intro e; subst e; omega)]; exact h
      · rw [if_neg hp, get_node] at h
        by_cases hu : u = 0
        · rw [if_pos hu] at h
          rw [if_neg (by omega), if_pos hu]; exact h
        · rw [if_neg hu] at h ⊢
          by_cases hq : (u - 1) % 2 = 0
          · rw [if_pos hq] at h ⊢
            rw [if_neg (by intro e; subst e; omega)]; exact h
          · rw [if_neg hq] at h ⊢
            have := ih _ _ _ _ h
            by_cases e : u = t
            · rw [if_pos e]; subst e; rwa [if_pos rfl] at this
            · rw [if_neg e]; rwa [if_neg (by omega)] at this
def frcN {R : Type} (n : Nat) (k : Nat → R) : R := match n with
  | 0 => k 0
  | n + 1 => k (n + 1)
theorem frcN_eq {R : Type} (n : Nat) (k : Nat → R) : frcN n k = k n := by cases n <;> rfl
def frcI {R : Type} (n : Int) (k : Int → R) : R := match n with
  | .ofNat m => frcN m fun m => k (.ofNat m)
  | .negSucc m => frcN m fun m => k (.negSucc m)
theorem frcI_eq {R : Type} (n : Int) (k : Int → R) : frcI n k = k n := by cases n <;> simp [frcI, frcN_eq]
def frc0 {R : Type} (x : AV) (k : AV → R) : R := match x with
  | .int t n => frcI n fun n => k (.int t n)
  | .bool true => k (.bool true)
  | .bool false => k (.bool false)
  | .op b o => frcN b fun b => frcN o fun o => k (.op b o)
  | .os b o e s l => frcN b fun b => frcN o fun o => frcN l fun l => k (.os b o e s l)
  | .oc b o e s l c => frcN b fun b => frcN o fun o => frcN l fun l => k (.oc b o e s l c)
  | .mp b => frcN b fun b => k (.mp b)
  | x => k x
theorem frc0_eq {R : Type} (x : AV) (k : AV → R) : frc0 x k = k x := by
  cases x
  case bool b => cases b <;> rfl
  all_goals first | rfl | simp only [frc0, frcI_eq, frcN_eq]
def frcL {R : Type} (fx : AV → (AV → R) → R) : List AV → (List AV → R) → R
  | [], k => k []
  | x :: r, k => fx x fun x => frcL fx r fun r => k (x :: r)
theorem frcL_eq {R : Type} {fx : AV → (AV → R) → R} (hf : ∀ x k, fx x k = k x) : ∀ (l : List AV) (k : List AV → R), frcL fx l k = k l
  | [], _ => rfl
  | x :: r, k => by simp only [frcL, hf, frcL_eq hf r]
def frc1 {R : Type} (x : AV) (k : AV → R) : R := match x with
  | .agg cs => frcL frc0 cs fun cs => k (.agg cs)
  | .fp cs => frcL frc0 cs fun cs => k (.fp cs)
  | x => frc0 x k
theorem frc1_eq {R : Type} (x : AV) (k : AV → R) : frc1 x k = k x := by
  cases x
  case agg cs => simp only [frc1, frcL_eq frc0_eq]
  case fp cs => simp only [frc1, frcL_eq frc0_eq]
  all_goals simp only [frc1, frc0_eq]
def frc {R : Type} (x : AV) (k : AV → R) : R := match x with
  | .tup cs => frcL frc1 cs fun cs => k (.tup cs)
  | x => frc1 x k
theorem frc_eq {R : Type} (x : AV) (k : AV → R) : frc x k = k x := by
  cases x
  case tup cs => simp only [frc, frcL_eq frc1_eq]
  all_goals simp only [frc, frc1_eq]
def frcO {R : Type} (o : AO) (k : AO → R) : R := match o with
  | .cells cs => frcL frc0 cs fun cs => k (.cells cs)
  | o => k o
theorem frcO_eq {R : Type} (o : AO) (k : AO → R) : frcO o k = k o := by
  cases o
  case cells cs => simp only [frcO, frcL_eq frc0_eq]
  all_goals rfl
abbrev TE := Tr AV
abbrev TH := Tr AO
inductive EX where
  | fail
  | nor (e : TE) (h : TH) (n : Nat) (d : List Nat)
  | ext (i : Nat) (e : TE) (h : TH) (n : Nat) (d : List Nat)
  | rtn (e : TE) (h : TH) (n : Nat) (d : List Nat)
  | pan (x : AV) (e : TE) (h : TH) (n : Nat) (d : List Nat)
def SubT (h : TH) (H : Heap) : Prop := ∀ b o, h.get b = some o → hget H b = some o
def OutOk (O : Nat → Option AO) (h : TH) (H : Heap) (n : Nat) : Prop := ∀ b o, O b = some o → b < n ∧ h.get b = none ∧ hget H b = some o
structure Sim (O : Nat → Option AO) (e : TE) (h : TH) (n : Nat) (d : List Nat) (st : ASt) : Prop where
  env : ∀ t x, e.get t = some x → eget st.env t = some x
  heap : SubT h st.heap
  nx : st.nx = n
  dm : st.dm = d
  out : OutOk O h st.heap n
def EXR (O : Nat → Option AO) : EX → AX → ASt → Prop
  | .nor e h n d, .normal, st => Sim O e h n d st
  | .ext i e h n d, .exit j, st => i = j ∧ Sim O e h n d st
  | .rtn e h n d, .ret, st => Sim O e h n d st
  | .pan x e h n d, .panic y, st => x = y ∧ Sim O e h n d st
  | _, _, _ => False
def opE (e : TE) : Operand → Option AV
  | .tmp t => e.get t
  | .const v => ofV v
  | .func f => some (.fn (.func f) [])
  | .global _ => none
theorem opE_sound {O : Nat → Option AO} {e : TE} {h : TH} {n : Nat} {dl : List Nat} {st : ASt} (hs : Sim O e h n dl st) {o : Operand} {x : AV} (hx : opE e o = some x) : oev st.env o = some x := by
  cases o <;> first | exact hs.env _ _ hx | exact hx
def opsE (e : TE) : List Operand → Option (List AV)
  | [] => some []
  | o :: r => match opE e o with
    | some x => (match opsE e r with
      | some ys => some (x :: ys)
      | none => none)
    | none => none
theorem opsE_sound {O : Nat → Option AO} {e : TE} {h : TH} {n : Nat} {dl : List Nat} {st : ASt} (hs : Sim O e h n dl st) : ∀ {os : List Operand} {xs : List AV}, opsE e os = some xs → oevs st.env os = some xs
  | [], xs, hx => hx
  | o :: r, xs, hx => by
    simp only [opsE] at hx
    split at hx
    · rename_i x h1
      split at hx
      · rename_i ys h2
        simp only [oevs, opE_sound hs h1, opsE_sound hs h2]; exact hx
      · cases hx
    · cases hx
def pickE (e : TE) : List Operand → Option Env
  | [] => some []
  | .tmp t :: r => match e.get t with
    | some x => (match pickE e r with
      | some l => some ((t, x) :: l)
      | none => none)
    | none => none
  | _ :: r => pickE e r
theorem pickE_mem {e : TE} : ∀ {os : List Operand} {l : Env}, pickE e os = some l → ∀ t x, eget l t = some x → e.get t = some x ∧ (t, x) ∈ l
  | [], l, h, t, x, hx => by cases h; cases hx
  | o :: r, l, h, t, x, hx => by
    cases o <;> simp only [pickE] at h <;> first | exact pickE_mem h t x hx | skip
    split at h
    · rename_i u y hy
      split at h
      · rename_i l' hl
        cases h
        rw [eget_cons] at hx
        split at hx
        · rename_i e1; subst e1; cases hx; exact ⟨hy, by simp⟩
        · have := pickE_mem hl t x hx
          exact ⟨this.1, List.mem_cons_of_mem _ this.2⟩
      · cases h
    · cases h
theorem pickE_all {e : TE} : ∀ {os : List Operand} {l : Env}, pickE e os = some l → ∀ t, Operand.tmp t ∈ os → ∃ x, eget l t = some x
  | [], l, h, t, hx => by simp at hx
  | o :: r, l, h, t, hx => by
    cases o <;> simp only [pickE] at h
    case tmp u =>
      split at h
      · rename_i y hy
        split at h
        · rename_i l' hl
          cases h
          rw [eget_cons]
          split
          · exact ⟨_, rfl⟩
          · rename_i hne
            refine pickE_all hl t ?_
            rcases List.mem_cons.1 hx with he | he
            · cases he; exact absurd rfl hne
            · exact he
        · cases h
      · cases h
    all_goals exact pickE_all h t (by simpa using hx)
theorem pickE_oev {O : Nat → Option AO} {e : TE} {h : TH} {n : Nat} {dl : List Nat} {st : ASt} (hs : Sim O e h n dl st) {os : List Operand} {l : Env} (hl : pickE e os = some l) : ∀ o ∈ os, oev l o = oev st.env o := by
  intro o ho
  cases o with
  | tmp t =>
    obtain ⟨x, hx⟩ := pickE_all hl t ho
    show eget l t = eget st.env t
    rw [hx, hs.env t x (pickE_mem hl t x hx).1]
  | _ => rfl
end Go.Ab
namespace Go.Ab
open Go.RowKit
set_option linter.unusedVariables false
set_option linter.unusedSimpArgs false
def AV.blk : AV → Option Nat
  | .op b _ => some b
  | .os b _ _ _ _ => some b
  | .oc b _ _ _ _ _ => some b
  | .mp b => some b
  | _ => none
section
variable {sm H : Heap} (hsub : ∀ b o, hget sm b = some o → hget H b = some o)
include hsub
theorem ptr_sub {p : AV} {cs : List AV} (h : ptrCells sm p = some cs) : ptrCells H p = some cs := by
  cases p <;> simp only [ptrCells] at h ⊢ <;> first | exact h | skip
  split at h
  · rename_i h1; rw [hsub _ _ h1]; exact h
  · cases h
theorem sl_sub {x : AV} {r : Nat × List AV} (h : sliceCells sm x = some r) : sliceCells H x = some r := by
  cases x <;> simp only [sliceCells] at h ⊢ <;> first | exact h | skip
  all_goals
    split at h
    · rename_i h1; rw [hsub _ _ h1]; exact h
    · cases h
theorem src_sub {sz most : Nat} {x : AV} {r : Nat × List AV} (h : srcCells sz sm x most = some r) : srcCells sz H x most = some r := by
  cases x
  case oc b off e s m c =>
    simp only [srcCells] at h ⊢
    split at h
    · rename_i h1; simp only [hsub _ _ h1]; exact h
    · cases h
  all_goals
    simp only [srcCells] at h ⊢
    split at h
    · rename_i h1; rw [sl_sub hsub h1]; exact h
    · cases h
end
def Fw (bs : List Nat) (n : Nat) (h' H H' : Heap) : Prop := (∀ b o, hget h' b = some o → hget H' b = some o) ∧ ∀ b, b ∉ bs → b ≠ n → hget H' b = hget H b
section
variable {sm H : Heap} {bs : List Nat} {n : Nat} (hsub : ∀ b o, hget sm b = some o → hget H b = some o)
include hsub
theorem Fw.refl : Fw bs n sm H H := ⟨hsub, fun _ _ _ => rfl⟩
theorem Fw.new (o : AO) : Fw bs n ((n, o) :: sm) H ((n, o) :: H) := by
  refine ⟨fun b o' h => ?_, fun b _ hb => ?_⟩
  · rw [hget_cons] at h ⊢; split
    · rename_i e; rwa [if_pos e] at h
    · rename_i e; rw [if_neg e] at h; exact hsub _ _ h
  · rw [hget_cons, if_neg (fun e => hb e.symm)]
theorem Fw.set {b : Nat} (hb : b ∈ bs) (o : AO) : Fw bs n (hset sm b o) H (hset H b o) := by
  refine ⟨fun c o' h => ?_, fun c hc _ => ?_⟩
  · rw [hget_hset] at h ⊢; split
    · rename_i e; rwa [if_pos e] at h
    · rename_i e; rw [if_neg e] at h; exact hsub _ _ h
  · rw [hget_hset, if_neg (by intro e; subst e; exact hc hb)]
theorem Fw.move {b : Nat} (hb : b ∈ bs) (o : AO) : Fw bs n ((n, o) :: hdel sm b) H ((n, o) :: hdel H b) := by
  refine ⟨fun c o' h => ?_, fun c hc hn => ?_⟩
  · rw [hget_cons] at h ⊢; split
    · rename_i e; rwa [if_pos e] at h
    · rename_i e; rw [if_neg e] at h
      rw [hget_hdel] at h ⊢
      split at h
      · cases h
      · rename_i e2; rw [if_neg e2]; exact hsub _ _ h
  · rw [hget_cons, if_neg (fun e => hn e.symm), hget_hdel, if_neg (by intro e; subst e; exact hc hb)]
theorem storeH_sub {p : AV} {xs : List AV} {h' : Heap} (hb : ∀ b, p.blk = some b → b ∈ bs) (h : storeH sm p xs = some h') : ∃ H', storeH H p xs = some H' ∧ Fw bs n h' H H' := by
  cases p <;> simp only [storeH] at h ⊢ <;> first | (cases h; done) | skip
  rename_i b off
  split at h
  · rename_i cs h1
    rw [hsub _ _ h1]
    simp only
    split at h
    · rename_i h2; cases h; rw [if_pos h2]; exact ⟨_, rfl, Fw.set hsub (hb b rfl) _⟩
    · cases h
  · cases h
theorem clearA_sub {z : List AV} {x : AV} {h' : Heap} (hb : ∀ b, x.blk = some b → b ∈ bs) (h : clearA z sm x = some h') : ∃ H', clearA z H x = some H' ∧ Fw bs n h' H H' := by
  cases x <;> simp only [clearA] at h ⊢ <;> first | (cases h; done) | skip
  rename_i b off e s l c
  split at h
  · rename_i cs h1
    rw [hsub _ _ h1]
    simp only
    split at h
    · rename_i h2; cases h; rw [if_pos h2]; exact ⟨_, rfl, Fw.set hsub (hb b rfl) _⟩
    · cases h
  · cases h
theorem copyA_sub {sz k : Nat} {d x : AV} {h' : Heap} (hb : ∀ b, d.blk = some b → b ∈ bs) (h : copyA sz sm d x = some (k, h')) : ∃ H', copyA sz H d x = some (k, H') ∧ Fw bs n h' H H' := by
  cases d <;> simp only [copyA] at h ⊢ <;> first | (cases h; done) | skip
  all_goals
    rename_i b off _ _ _
    try rename_i b off _
    split at h
    · rename_i h0 h1
      rw [src_sub hsub h0, hsub _ _ h1]
      simp only
      split at h
      · rename_i h2; cases h; rw [if_pos h2]; exact ⟨_, rfl, Fw.set hsub (hb _ rfl) _⟩
      · cases h
    · cases h
theorem app0_sub {o : AO} {c : Prop} [Decidable c] {m : Nat} {s r v : AV} {h' : Heap} {n' : Nat} (h : (if m = 0 then some (s, sm, n) else if c then some (v, (n, o) :: sm, n + 1) else none) = some (r, h', n')) :
    ∃ H', (if m = 0 then some (s, H, n) else if c then some (v, (n, o) :: H, n + 1) else none) = some (r, H', n') ∧ Fw bs n h' H H' := by
  by_cases h1 : m = 0
  · rw [if_pos h1] at h ⊢; cases h; exact ⟨_, rfl, Fw.refl hsub⟩
  · rw [if_neg h1] at h ⊢
    by_cases h2 : c
    · rw [if_pos h2] at h ⊢; cases h; exact ⟨_, rfl, Fw.new hsub _⟩
    · rw [if_neg h2] at h; cases h
theorem app1_sub {o : AO} {m b : Nat} {s r v : AV} {h' : Heap} {n' : Nat} (hb : b ∈ bs) (h : (if m = 0 then some (s, sm, n) else some (v, (n, o) :: hdel sm b, n + 1)) = some (r, h', n')) :
    ∃ H', (if m = 0 then some (s, H, n) else some (v, (n, o) :: hdel H b, n + 1)) = some (r, H', n') ∧ Fw bs n h' H H' := by
  by_cases h1 : m = 0
  · rw [if_pos h1] at h ⊢; cases h; exact ⟨_, rfl, Fw.refl hsub⟩
  · rw [if_neg h1] at h ⊢; cases h; exact ⟨_, rfl, Fw.move hsub hb _⟩
theorem app2_sub {o : AO} {m b : Nat} {s r v : AV} {h' : Heap} {n' : Nat} (hb : b ∈ bs) (h : (if m = 0 then some (s, sm, n) else some (v, hset sm b o, n)) = some (r, h', n')) :
    ∃ H', (if m = 0 then some (s, H, n) else some (v, hset H b o, n)) = some (r, H', n') ∧ Fw bs n h' H H' := by
  by_cases h1 : m = 0
  · rw [if_pos h1] at h ⊢; cases h; exact ⟨_, rfl, Fw.refl hsub⟩
  · rw [if_neg h1] at h ⊢; cases h; exact ⟨_, rfl, Fw.set hsub hb _⟩
theorem appA_sub {e sz bytes : Nat} {s x r : AV} {h' : Heap} {n' : Nat} (hb : ∀ b, s.blk = some b → b ∈ bs) (h : appA e sz bytes sm n s x = some (r, h', n')) : ∃ H', appA e sz bytes H n s x = some (r, H', n') ∧ Fw bs n h' H H' := by
  unfold appA at h ⊢
  cases h0 : sliceCells sm x with
  | none => rw [h0] at h; cases h
  | some q =>
    obtain ⟨m, news⟩ := q
    rw [sl_sub hsub h0]
    simp only [h0] at h ⊢
    by_cases hz : slSz x sz = true
    · rw [if_pos hz] at h ⊢
      cases s
      case nilS => exact app0_sub hsub h
      case emp => exact app0_sub hsub h
      case os b off e' sz' len =>
        simp only at h ⊢
        cases h1 : hget sm b with
        | none => rw [h1] at h; cases h
        | some o =>
          rw [hsub _ _ h1]
          rw [h1] at h
          cases o
          case cells cs =>
            simp only at h ⊢
            by_cases c1 : off = 0 ∧ e' = e ∧ sz' = sz ∧ cs.length = len * sz ∧ (len + m) * bytes ≤ 140737488355328 ∧ len + m ≤ maxLen
            · rw [if_pos c1] at h ⊢; exact app1_sub hsub (hb b rfl) h
            · rw [if_neg c1] at h ⊢
              by_cases c2 : off = 0 ∧ e' = e ∧ sz' = sz ∧ (len + m) * sz ≤ cs.length
              · rw [if_pos c2] at h ⊢; exact app2_sub hsub (hb b rfl) h
              · rw [if_neg c2] at h; cases h
          all_goals cases h
      case oc b off e' sz' len cap =>
        simp only at h ⊢
        cases h1 : hget sm b with
        | none => rw [h1] at h; cases h
        | some o =>
          rw [hsub _ _ h1]
          rw [h1] at h
          cases o
          case cells cs =>
            simp only at h ⊢
            by_cases c2 : off = 0 ∧ e' = e ∧ sz' = sz ∧ len + m ≤ cap ∧ (len + m) * sz ≤ cs.length
            · rw [if_pos c2] at h ⊢; exact app2_sub hsub (hb b rfl) h
            · rw [if_neg c2] at h; cases h
          all_goals cases h
      all_goals cases h
    · rw [if_neg hz] at h; cases h
end
section
variable {sm H : Heap} {bs : List Nat} {n : Nat} (hsub : ∀ b o, hget sm b = some o → hget H b = some o)
include hsub
theorem mapOf_sub {m : AV} {es : List (AV × AV)} (h : mapOf sm m = some es) : mapOf H m = some es := by
  cases m <;> simp only [mapOf] at h ⊢ <;> first | exact h | (cases h; done) | skip
  split at h
  · rename_i h1; rw [hsub _ _ h1]; exact h
  · cases h
theorem setA_sub {k : FK} {m x v : AV} {h' : Heap} (hb : ∀ b, m.blk = some b → b ∈ bs) (h : setA sm k m x v = some h') : ∃ H', setA H k m x v = some H' ∧ Fw bs n h' H H' := by
  cases m <;> simp only [setA] at h ⊢ <;> first | (cases h; done) | skip
  split at h
  · rename_i h1
    rw [hsub _ _ h1]
    simp only
    split at h
    · rename_i hk
      rw [if_pos hk]
      split at h
      · cases h; exact ⟨_, rfl, Fw.set hsub (hb _ rfl) _⟩
      · cases h; exact ⟨_, rfl, Fw.set hsub (hb _ rfl) _⟩
      · cases h
    · cases h
  · cases h
theorem delA_sub {k : FK} {m x : AV} {h' : Heap} (hb : ∀ b, m.blk = some b → b ∈ bs) (h : delA sm k m x = some h') : ∃ H', delA H k m x = some H' ∧ Fw bs n h' H H' := by
  cases m <;> simp only [delA] at h ⊢ <;> first | (cases h; done) | skip
  split at h
  · rename_i h1
    rw [hsub _ _ h1]
    simp only
    split at h
    · rename_i hk
      rw [if_pos hk]
      split at h
      · cases h; exact ⟨_, rfl, Fw.set hsub (hb _ rfl) _⟩
      · cases h; exact ⟨_, rfl, Fw.refl hsub⟩
      · cases h
    · cases h
  · cases h
end
theorem rngA_sub {sm H : Heap} {bs : List Nat} {n : Nat} (hsub : ∀ b o, hget sm b = some o → hget H b = some o) {m : AV} {h' : Heap} (h : rngA sm n m = some h') : ∃ H', rngA H n m = some H' ∧ Fw bs n h' H H' := by
  unfold rngA at h ⊢
  split at h
  · split at h
    · rename_i h1; cases h; rw [hsub _ _ h1]; exact ⟨_, rfl, Fw.new hsub _⟩
    · cases h
  · cases h
theorem mopEv_frame {mo : MOp} {env : Env} {sm h' H : Heap} {n n' : Nat} {out : Out} {bs : List Nat} (hsub : ∀ b o, hget sm b = some o → hget H b = some o)
    (hbs : ∀ o ∈ mo.opnds, ∀ x b, oev env o = some x → x.blk = some b → b ∈ bs) (hev : mopEv mo env sm n = some (out, h', n')) : ∃ H', mopEv mo env H n = some (out, H', n') ∧ Fw bs n h' H H' := by
  cases mo <;> simp only [mopEv] at hev ⊢
  case mk => cases hev; exact ⟨_, rfl, Fw.new hsub _⟩
  case look k z ok m x =>
    split at hev
    · rename_i m' x' h1 h2
      split at hev
      · rename_i r hr
        cases hev
        have : lookA H k z ok m' x' = some r := by
          unfold lookA at hr ⊢
          split at hr
          · rename_i es he; rw [mapOf_sub hsub he]; exact hr
          · cases hr
        rw [this]; exact ⟨_, rfl, Fw.refl hsub⟩
      · cases hev
    · cases hev
  case set k m x v =>
    split at hev
    · rename_i m' x' v' h1 h2 h3
      split at hev
      · rename_i r hr
        cases hev
        obtain ⟨H', e1, e2⟩ := setA_sub (bs := bs) (n := n) hsub (fun b hb => hbs m (by simp [MOp.opnds]) _ b h1 hb) hr
        simp only [e1]; exact ⟨_, rfl, e2⟩
      · cases hev
    · cases hev
  case del k m x =>
    split at hev
    · rename_i m' x' h1 h2
      split at hev
      · rename_i r hr
        cases hev
        obtain ⟨H', e1, e2⟩ := delA_sub (bs := bs) (n := n) hsub (fun b hb => hbs m (by simp [MOp.opnds]) _ b h1 hb) hr
        simp only [e1]; exact ⟨_, rfl, e2⟩
      · cases hev
    · cases hev
  case len m =>
    split at hev
    · split at hev
      · rename_i hr; cases hev; rw [mapOf_sub hsub hr]; exact ⟨_, rfl, Fw.refl hsub⟩
      · cases hev
    · cases hev
  case tas t z x =>
    split at hev
    · split at hev
      · rename_i h2; cases hev; exact ⟨_, rfl, Fw.refl hsub⟩
      · cases hev
    · cases hev
  case glb x => cases hev; exact ⟨_, rfl, Fw.refl hsub⟩
  case mx3 x y z =>
    split at hev
    · split at hev
      · rename_i h2; rw [if_pos h2]; cases hev; exact ⟨_, rfl, Fw.refl hsub⟩
      · cases hev
    · cases hev
  case glx g l z i =>
    split at hev
    · split at hev
      · rename_i hc; cases hev; rw [if_pos hc]; exact ⟨_, rfl, Fw.refl hsub⟩
      · cases hev
    · cases hev
  case rng m =>
    split at hev
    · split at hev
      · rename_i h2
        cases hev
        obtain ⟨H', e1, e2⟩ := rngA_sub (bs := bs) hsub h2
        simp only [e1]; exact ⟨_, rfl, e2⟩
      · cases hev
    · cases hev
  case ent it =>
    split at hev
    · rename_i it' hit
      split at hev
      · rename_i r hr
        cases hev
        have : entH H it' = some r := by
          unfold entH at hr ⊢
          split at hr
          · split at hr
            · rename_i h2
              rw [hsub _ _ h2]
              simp only
              split at hr
              · rename_i h3 h4
                simp only [h3, hsub _ _ h4]; exact hr
              · cases hr
            · cases hr
          · cases hr
        rw [this]; exact ⟨_, rfl, Fw.refl hsub⟩
      · cases hev
    · cases hev
theorem opEv_frame {ao : AOp} {env : Env} {sm h' H : Heap} {n n' : Nat} {out : Out} {bs : List Nat} (hsub : ∀ b o, hget sm b = some o → hget H b = some o)
    (hbs : ∀ o ∈ ao.opnds, ∀ x b, oev env o = some x → x.blk = some b → b ∈ bs) (hev : opEv ao env sm n = some (out, h', n')) : ∃ H', opEv ao env H n = some (out, H', n') ∧ Fw bs n h' H H' := by
  by_cases hq : ao.quiet = true
  · rw [quiet_heap hq] at hev ⊢
    obtain ⟨r, hr, he⟩ := Option.map_eq_some_iff.1 hev
    simp only [Prod.mk.injEq] at he
    obtain ⟨rfl, rfl, rfl⟩ := he
    exact ⟨H, by rw [hr]; rfl, Fw.refl hsub⟩
  cases ao <;> first | (exact absurd rfl hq) | skip
  case alloc z => simp only [opEv] at hev ⊢; cases hev; exact ⟨_, rfl, Fw.new hsub _⟩
  case box x =>
    simp only [opEv] at hev ⊢
    cases hx : oev env x with
    | none => rw [hx] at hev; cases hev
    | some y =>
      simp only [hx] at hev ⊢
      by_cases hp : y.plain = true
      · rw [if_pos hp] at hev ⊢; cases hev; exact ⟨_, rfl, Fw.new hsub _⟩
      · rw [if_neg hp] at hev; cases hev
  case buildO e z len ps =>
    simp only [opEv] at hev ⊢
    split at hev
    · split at hev
      · cases hev; exact ⟨_, rfl, Fw.new hsub _⟩
      · cases hev
    · cases hev
  case load sz ag x =>
    simp only [opEv] at hev ⊢
    split at hev
    · split at hev
      · rename_i h1
        rw [ptr_sub hsub h1]
        split at hev
        · rename_i h2; cases hev; simp only [h2]; exact ⟨_, rfl, Fw.refl hsub⟩
        · cases hev
      · cases hev
    · cases hev
  case store sz p x =>
    simp only [opEv] at hev ⊢
    split at hev
    · rename_i p' x' h1 h2
      split at hev
      · rename_i hc
        split at hev
        · rename_i h3
          cases hev
          obtain ⟨H', e1, e2⟩ := storeH_sub (bs := bs) (n := n) hsub (fun b hb => hbs p (by simp [AOp.opnds]) _ b h1 hb) h3
          rw [if_pos hc, e1]; exact ⟨_, rfl, e2⟩
        · cases hev
      · cases hev
    · cases hev
  case mksl e z bytes l c =>
    simp only [opEv] at hev ⊢
    split at hev
    · split at hev
      · rename_i hc; cases hev; rw [if_pos hc]; exact ⟨_, rfl, Fw.new hsub _⟩
      · cases hev
    · cases hev
  case app e sz bytes s x =>
    simp only [opEv] at hev ⊢
    split at hev
    · rename_i s' x' h1 h2
      split at hev
      · rename_i h3
        cases hev
        obtain ⟨H', e1, e2⟩ := appA_sub (bs := bs) hsub (fun b hb => hbs s (by simp [AOp.opnds]) _ b h1 hb) h3
        simp only [e1]; exact ⟨_, rfl, e2⟩
      · cases hev
    · cases hev
  case appZ e z bytes s l =>
    simp only [opEv] at hev ⊢
    split at hev
    · split at hev
      · rename_i hc; cases hev; rw [if_pos hc]; exact ⟨_, rfl, Fw.new hsub _⟩
      · cases hev
    · split at hev
      · rename_i h1
        rw [hsub _ _ h1]
        simp only
        split at hev
        · rename_i hc; cases hev; rw [if_pos hc]; exact ⟨_, rfl, Fw.new hsub _⟩
        · cases hev
      · cases hev
    · cases hev
  case copy sz d x =>
    simp only [opEv] at hev ⊢
    split at hev
    · rename_i s' x' h1 h2
      split at hev
      · rename_i h3
        cases hev
        obtain ⟨H', e1, e2⟩ := copyA_sub (bs := bs) (n := n) hsub (fun b hb => hbs d (by simp [AOp.opnds]) _ b h1 hb) h3
        simp only [e1]; exact ⟨_, rfl, e2⟩
      · cases hev
    · cases hev
  case clear z x =>
    simp only [opEv] at hev ⊢
    split at hev
    · rename_i x' h1
      split at hev
      · rename_i h3
        cases hev
        obtain ⟨H', e1, e2⟩ := clearA_sub (bs := bs) (n := n) hsub (fun b hb => hbs x (by simp [AOp.opnds]) _ b h1 hb) h3
        simp only [e1]; exact ⟨_, rfl, e2⟩
      · cases hev
    · cases hev
  case convBS x =>
    simp only [opEv] at hev ⊢
    split at hev
    · split at hev
      · rename_i hc
        rw [if_pos hc]
        split at hev
        · rename_i h1
          rw [sl_sub hsub h1]
          simp only
          split at hev
          · cases hev; exact ⟨_, rfl, Fw.refl hsub⟩
          · cases hev
        · cases hev
      · cases hev
    · cases hev
  case ovl x y =>
    simp only [opEv] at hev ⊢
    split at hev
    · rename_i x' y' h1 h2
      split at hev
      · rename_i hc
        cases hev
        have : ovA H x' y' = true := by
          unfold ovA at hc ⊢
          split at hc
          · rename_i b b' _ _
            simp only [Bool.and_eq_true] at hc ⊢
            refine ⟨hc.1, ?_⟩
            have h4 := hc.2
            split at h4
            · rename_i h5 h6; rw [hsub _ _ h5, hsub _ _ h6]
            · cases h4
          · cases hc
        rw [if_pos this]; exact ⟨_, rfl, Fw.refl hsub⟩
      · cases hev
    · cases hev
  case m o => exact mopEv_frame hsub hbs hev
  case bad => simp [opEv] at hev
end Go.Ab
namespace Go.Ab
open Go.RowKit
set_option linter.unusedVariables false
set_option linter.unusedSimpArgs false
def foldN (M H r : Nat) : Int := match Nat.ble H r with
  | true => Int.negSucc (Nat.sub (Nat.sub M r) 1)
  | false => Int.ofNat r
def wrapN (M H : Nat) (n : Int) : Int := match n with
  | .ofNat m => foldN M H (Nat.mod m M)
  | .negSucc m => foldN M H (Nat.sub (Nat.sub M 1) (Nat.mod m M))
def fwrap (k : IntKind) (n : Int) : Int := match k with
  | .i8 => wrapN 256 128 n
  | .i16 => wrapN 65536 32768 n
  | .i32 => wrapN 4294967296 2147483648 n
  | .i64 => wrapN 18446744073709551616 9223372036854775808 n
  | .u8 => wrapN 256 256 n
  | .u16 => wrapN 65536 65536 n
  | .u32 => wrapN 4294967296 4294967296 n
  | .u64 => wrapN 18446744073709551616 18446744073709551616 n
theorem wrapN_u (M : Nat) (hM : 0 < M) (n : Int) : wrapN M M n = n % (M : Int) := by
  have e1 : ∀ a, Nat.mod a M = a % M := fun _ => rfl
  have e2 : ∀ a b, Nat.sub a b = a - b := fun _ _ => rfl
  have key : ∀ r, r < M → foldN M M r = (r : Int) := fun r hr => by
    unfold foldN
    have : Nat.ble M r = false := by
      cases h : Nat.ble M r
      · rfl
      · have := Nat.le_of_ble_eq_true h; omega
    simp only [this]; rfl
  cases n with
  | ofNat m =>
    have := Nat.mod_lt m hM
    simp only [wrapN, e1]
    rw [key _ this]; rfl
  | negSucc m =>
    have := Nat.mod_lt m hM
    simp only [wrapN, e1, e2]
    rw [key _ (by omega), Int.negSucc_emod _ (by omega)]
    omega
theorem wrapN_s (M H : Nat) (hM : 0 < M) (hH : M = 2 * H) (n : Int) : wrapN M H n = (n + (H : Int)) % (M : Int) - (H : Int) := by
  have e1 : ∀ a, Nat.mod a M = a % M := fun _ => rfl
  have e2 : ∀ a b, Nat.sub a b = a - b := fun _ _ => rfl
  have key : ∀ r, r < M → foldN M H r = ((r : Int) + H) % M - H := fun r hr => by
    unfold foldN
    cases h : Nat.ble H r
    · have : ¬ H ≤ r := fun h' => by rw [Nat.ble_eq_true_of_le h'] at h; cases h
      simp only
      rw [Int.emod_eq_of_lt (by omega) (by omega)]
      show (r : Int) = _
      omega
    · have := Nat.le_of_ble_eq_true h
      simp only [e2]
      have : ((r : Int) + H) % M = r + H - M := by
        rw [show (r : Int) + H = (r + H - M) + M by omega, Int.add_emod_right, Int.emod_eq_of_lt (by omega) (by omega)]
        omega
      rw [this, Int.negSucc_eq]
      omega
  have red : ∀ m : Nat, ((m : Int) + H) % M - H = (((m % M : Nat) : Int) + H) % M - H := fun m => by
    rw [Int.natCast_emod, Int.emod_add_emod]
  cases n with
  | ofNat m =>
    have := Nat.mod_lt m hM
    simp only [wrapN, e1]
    rw [key _ this, ← red]; rfl
  | negSucc m =>
    have hm := Nat.mod_lt m hM
    simp only [wrapN, e1, e2]
    rw [key _ (by omega)]
    congr 1
    have h1 : (Int.negSucc m : Int) = -(m : Int) - 1 := by rw [Int.negSucc_eq]; omega
    have h2 : ((M - 1 - m % M : Nat) : Int) = (M : Int) - 1 - ((m : Int) % M) := by
      rw [← Int.natCast_emod]; omega
    rw [h1, h2]
    have h3 : (-(m : Int) - 1 + H) % M = ((-(m : Int) - 1 + H) + M * ((m : Int) / M + 1)) % M := by rw [Int.add_mul_emod_self_left]
    rw [h3]
    congr 1
    have := Int.mul_ediv_add_emod (m : Int) M
    rw [Int.mul_add]
    omega
theorem fwrap_eq (k : IntKind) (n : Int) : fwrap k n = k.wrap n := by
  cases k
  · rw [fwrap, wrapN_s 256 128 (by omega) (by omega)]; simp [IntKind.wrap, IntKind.bits, IntKind.signed]; split <;> omega
  · rw [fwrap, wrapN_s 65536 32768 (by omega) (by omega)]; simp [IntKind.wrap, IntKind.bits, IntKind.signed]; split <;> omega
  · rw [fwrap, wrapN_s 4294967296 2147483648 (by omega) (by omega)]; simp [IntKind.wrap, IntKind.bits, IntKind.signed]; split <;> omega
  · rw [fwrap, wrapN_s 18446744073709551616 9223372036854775808 (by omega) (by omega)]; simp [IntKind.wrap, IntKind.bits, IntKind.signed]; split <;> omega
  · rw [fwrap, wrapN_u 256 (by omega)]; simp [IntKind.wrap, IntKind.bits, IntKind.signed]
  · rw [fwrap, wrapN_u 65536 (by omega)]; simp [IntKind.wrap, IntKind.bits, IntKind.signed]
  · rw [fwrap, wrapN_u 4294967296 (by omega)]; simp [IntKind.wrap, IntKind.bits, IntKind.signed]
  · rw [fwrap, wrapN_u 18446744073709551616 (by omega)]; simp [IntKind.wrap, IntKind.bits, IntKind.signed]
def ltI (x y : Int) : Bool := match x with
  | .ofNat a => (match y with
    | .ofNat b => Nat.ble (Nat.succ a) b
    | .negSucc _ => false)
  | .negSucc a => (match y with
    | .ofNat _ => true
    | .negSucc b => Nat.ble (Nat.succ b) a)
theorem ltI_eq (x y : Int) : ltI x y = decide (x < y) := by
  have hb : ∀ a b : Nat, Nat.ble (Nat.succ a) b = decide (a < b) := fun a b => by
    cases h : Nat.ble (Nat.succ a) b
    · symm; rw [decide_eq_false_iff_not]; intro h'; rw [Nat.ble_eq_true_of_le h'] at h; cases h
    · symm; rw [decide_eq_true_eq]; exact Nat.le_of_ble_eq_true h
  cases x <;> cases y <;> simp only [ltI, hb, Int.ofNat_eq_natCast, Int.negSucc_eq]
  all_goals first
    | (apply decide_eq_decide.2; omega)
    | (symm; rw [decide_eq_false_iff_not]; omega)
    | (symm; rw [decide_eq_true_eq]; omega)
def eqI (x y : Int) : Bool := match x with
  | .ofNat a => (match y with
    | .ofNat b => Nat.beq a b
    | .negSucc _ => false)
  | .negSucc a => (match y with
    | .ofNat _ => false
    | .negSucc b => Nat.beq b a)
theorem beq_dec (a b : Nat) : Nat.beq a b = decide (a = b) := by
  cases h : Nat.beq a b
  · symm; rw [decide_eq_false_iff_not]; intro e; subst e; simp at h
  · symm; rw [decide_eq_true_eq]; exact Nat.eq_of_beq_eq_true h
theorem eqI_eq (x y : Int) : eqI x y = decide (x = y) := by
  cases x <;> cases y <;> simp only [eqI, beq_dec, Int.ofNat_eq_natCast, Int.negSucc_eq]
  all_goals first
    | (apply decide_eq_decide.2; omega)
    | (symm; rw [decide_eq_false_iff_not]; omega)
    | (symm; rw [decide_eq_true_eq]; omega)
def kNo : IntKind → Nat
  | .i8 => 0 | .i16 => 1 | .i32 => 2 | .i64 => 3 | .u8 => 4 | .u16 => 5 | .u32 => 6 | .u64 => 7
def sameK (k k' : IntKind) : Bool := Nat.beq (kNo k) (kNo k')
theorem sameK_eq {k k' : IntKind} (h : sameK k k' = true) : k = k' := by
  cases k <;> cases k' <;> first | rfl | (cases h; done)
def fnum (op : BinOp) (k : IntKind) (x y : Int) : Option AV := match op with
  | .add => some (.int k (fwrap k (Int.add x y)))
  | .sub => some (.int k (fwrap k (Int.sub x y)))
  | .mul => some (.int k (fwrap k (Int.mul x y)))
  | .eql => some (.bool (eqI x y))
  | .neq => some (.bool (not (eqI x y)))
  | .lss => some (.bool (ltI x y))
  | .leq => some (.bool (not (ltI y x)))
  | .gtr => some (.bool (ltI y x))
  | .geq => some (.bool (not (ltI x y)))
  | op => numA op k x y
theorem fnum_eq (op : BinOp) (k : IntKind) (x y : Int) : fnum op k x y = numA op k x y := by
  have hn : ∀ a b : Int, (!decide (a < b)) = decide (b ≤ a) := fun a b => by
    cases h : decide (a < b)
    · have := of_decide_eq_false h; simp only [Bool.not_false]; symm; rw [decide_eq_true_eq]; omega
    · have := of_decide_eq_true h; simp only [Bool.not_true]; symm; rw [decide_eq_false_iff_not]; omega
  cases op <;> simp only [fnum, numA, cmpA, fwrap_eq, eqI_eq, ltI_eq, hn, Option.map_some] <;> rfl
def eqS : List UInt8 → List UInt8 → Bool
  | [], [] => true
  | x :: r, y :: s => (match Nat.beq x.toNat y.toNat with
    | true => eqS r s
    | false => false)
  | _, _ => false
theorem eqS_eq : ∀ (x y : List UInt8), eqS x y = (x == y)
  | [], [] => rfl
  | [], _ :: _ => rfl
  | _ :: _, [] => rfl
  | x :: r, y :: s => by
    simp only [eqS, beq_dec]
    by_cases h : x.toNat = y.toNat
    · have e : x = y := UInt8.toNat_inj.1 h
      subst e
      simp only [decide_true, eqS_eq r s]
      simp
    · have e : x ≠ y := fun e => h (by rw [e])
      simp only [h, decide_false]
      symm; simp [e]
def fstr (op : BinOp) (x y : List UInt8) : Option AV := match op with
  | .eql => some (.bool (eqS x y))
  | .neq => some (.bool (not (eqS x y)))
  | op => strA op x y
theorem fstr_eq (op : BinOp) (x y : List UInt8) : fstr op x y = strA op x y := by
  cases op <;> simp only [fstr, strA, eqS_eq]
def fshl (k : IntKind) (a : Nat) (y : Nat) : Option AV := some (.int k (fwrap k (Int.ofNat (Nat.mul a (Nat.pow 2 (match Nat.ble y k.bits with | true => y | false => k.bits))))))
def fshr (k : IntKind) (a : Nat) (y : Nat) : Option AV := some (.int k (Int.ofNat (Nat.div a (Nat.pow 2 (match Nat.ble y k.bits with | true => y | false => k.bits)))))
theorem min_ble (y b : Nat) : (match Nat.ble y b with | true => y | false => b) = min y b := by
  cases h : Nat.ble y b
  · have : ¬ y ≤ b := fun h' => by rw [Nat.ble_eq_true_of_le h'] at h; cases h
    simp only; omega
  · have := Nat.le_of_ble_eq_true h; simp only; omega
theorem fshl_eq (k : IntKind) (a y : Nat) : fshl k a y = shA .shl k (Int.ofNat a) (Int.ofNat y) := by
  have : ¬ (Int.ofNat y < 0) := by simp only [Int.ofNat_eq_natCast]; omega
  simp only [fshl, shA, if_neg this, min_ble, fwrap_eq]
  have e : Int.ofNat (Nat.mul a (Nat.pow 2 (min y k.bits))) = Int.ofNat a * 2 ^ (min (Int.ofNat y).toNat k.bits) := by
    show ((a * 2 ^ (min y k.bits) : Nat) : Int) = (a : Int) * 2 ^ (min y k.bits)
    simp
  rw [e]
theorem fshr_eq (k : IntKind) (a y : Nat) : fshr k a y = shA .shr k (Int.ofNat a) (Int.ofNat y) := by
  have : ¬ (Int.ofNat y < 0) := by simp only [Int.ofNat_eq_natCast]; omega
  simp only [fshr, shA, if_neg this, min_ble]
  congr 2
  show ((a / 2 ^ (min y k.bits) : Nat) : Int) = (a : Int).fdiv (2 ^ (min y k.bits))
  rw [Int.fdiv_eq_ediv_of_nonneg _ (Int.le_of_lt (Int.pow_pos (by decide)))]
  simp
def fbin (op : BinOp) (x y : AV) : Option AV := match x with
  | .int k a => (match y with
    | .int k' b => (match op with
      | .shl => (match a with
        | .ofNat a' => (match b with
          | .ofNat b' => fshl k a' b'
          | b => shA .shl k a b)
        | a => shA .shl k a b)
      | .shr => (match a with
        | .ofNat a' => (match b with
          | .ofNat b' => fshr k a' b'
          | b => shA .shr k a b)
        | a => shA .shr k a b)
      | op => (match sameK k k' with
        | true => fnum op k a b
        | false => none))
    | _ => none)
  | .str a => (match y with
    | .str b => fstr op a b
    | _ => none)
  | _ => none
theorem fbin_sound {op : BinOp} {x y r : AV} (h : fbin op x y = some r) : binA op x y = some r := by
  cases x <;> simp only [fbin] at h <;> first | (cases h; done) | skip
  case int k a =>
    cases y <;> simp only at h <;> first | (cases h; done) | skip
    rename_i k' b
    have gen : (match sameK k k' with
        | true => fnum op k a b
        | false => none) = some r → (if k = k' then numA op k a b else none) = some r := by
      intro h
      split at h
      · rename_i hk; rw [if_pos (sameK_eq hk), ← fnum_eq]; exact h
      · cases h
    cases op <;> simp only at h <;> simp only [binA]
    case shl => cases a <;> cases b <;> simp only at h <;> first | exact h | (rw [← fshl_eq]; exact h)
    case shr => cases a <;> cases b <;> simp only at h <;> first | exact h | (rw [← fshr_eq]; exact h)
    all_goals exact gen h
  case str a =>
    cases y <;> simp only at h <;> first | (cases h; done) | skip
    simp only [binA, ← fstr_eq]; exact h
def nthL {α : Type} : List α → Nat → Option α
  | [], _ => none
  | x :: r, n => match n with
    | 0 => some x
    | n + 1 => nthL r n
theorem nthL_eq {α : Type} : ∀ (l : List α) (n : Nat), nthL l n = l[n]?
  | [], _ => by simp [nthL]
  | x :: r, 0 => by simp [nthL]
  | x :: r, n + 1 => by simp [nthL, nthL_eq r n]
def lenL {α : Type} : List α → Nat → Nat
  | [], n => n
  | _ :: r, n => lenL r (Nat.succ n)
theorem lenL_eq {α : Type} : ∀ (l : List α) (n : Nat), lenL l n = l.length + n
  | [], n => by simp [lenL]
  | _ :: r, n => by simp only [lenL, lenL_eq r, List.length_cons]; omega
def fidx (sz : Nat) (x i : AV) : Option AV := match i with
  | .int _ i => (match i with
    | .ofNat i => (match x with
      | .lst s es => (match Nat.beq s sz with
        | true => (match nthL es i with
          | some cs => some (.fp cs)
          | none => none)
        | false => none)
      | .os b off _ s n => (match Nat.beq s sz with
        | true => (match Nat.ble (Nat.succ i) n with
          | true => some (.op b (Nat.add off (Nat.mul i s)))
          | false => none)
        | false => none)
      | x => idxA sz x (Int.ofNat i))
    | .negSucc _ => none)
  | _ => none
theorem fidx_sound {sz : Nat} {x i r : AV} (h : fidx sz x i = some r) : ∃ k n, i = .int k n ∧ idxA sz x n = some r := by
  cases i <;> simp only [fidx] at h <;> first | (cases h; done) | skip
  rename_i k n
  refine ⟨k, n, rfl, ?_⟩
  cases n <;> simp only at h <;> first | (cases h; done) | skip
  rename_i i
  cases x <;> simp only at h <;> first | exact h | skip
  · rename_i s es
    split at h
    · rename_i hs
      have hs := Nat.eq_of_beq_eq_true hs
      split at h
      · rename_i cs hc
        cases h
        rw [nthL_eq] at hc
        have : (0 : Int) ≤ Int.ofNat i ∧ s = sz := ⟨by simp only [Int.ofNat_eq_natCast]; omega, hs⟩
        simp only [idxA, if_pos this]
        show (es[i]?).map AV.fp = _
        rw [hc]; rfl
      · cases h
    · cases h
  · rename_i b off e s n
    split at h
    · rename_i hs
      have hs := Nat.eq_of_beq_eq_true hs
      split at h
      · rename_i hc
        have hc := Nat.le_of_ble_eq_true hc
        cases h
        have : (0 : Int) ≤ Int.ofNat i ∧ Int.ofNat i < (n : Int) ∧ s = sz := ⟨by simp only [Int.ofNat_eq_natCast]; omega, by simp only [Int.ofNat_eq_natCast]; omega, hs⟩
        simp only [idxA, if_pos this]; rfl
      · cases h
    · cases h
def flen (x : AV) : Option AV := match x with
  | .lst _ es => some (.int .i64 (Int.ofNat (lenL es 0)))
  | .os _ _ _ _ n => some (.int .i64 (Int.ofNat n))
  | .oc _ _ _ _ n _ => some (.int .i64 (Int.ofNat n))
  | .nilS => some (.int .i64 (Int.ofNat 0))
  | .emp => some (.int .i64 (Int.ofNat 0))
  | .ne0 => some (.int .i64 (Int.ofNat 0))
  | _ => none
theorem flen_sound {x r : AV} (h : flen x = some r) : ∃ n : Nat, lenA x = some n ∧ r = .int .i64 n := by
  cases x <;> simp only [flen] at h <;> first | (cases h; done) | skip
  all_goals
    cases h
    first
    | (rw [lenL_eq]; exact ⟨_, rfl, rfl⟩)
    | exact ⟨_, rfl, rfl⟩
end Go.Ab
namespace Go.Ab
open Go.RowKit
set_option linter.unusedVariables false
set_option linter.unusedSimpArgs false
def pickH (h : TH) : Env → Heap
  | [] => []
  | (_, x) :: r => match x.blk with
    | some b => (match h.get b with
      | some o => (b, o) :: pickH h r
      | none => pickH h r)
    | none => pickH h r
def blksE : Env → List Nat
  | [] => []
  | (_, x) :: r => match x.blk with
    | some b => b :: blksE r
    | none => blksE r
def putH {R : Type} : List Nat → Heap → TH → (TH → R) → R
  | [], _, h, k => k h
  | b :: r, h', h, k => match hget h' b with
    | some o => frcO o fun o => Tr.set (some o) 24 h b fun h => putH r h' h k
    | none => (match h.get b with
      | some _ => Tr.set none 24 h b fun h => putH r h' h k
      | none => putH r h' h k)
def reloadT (h : TH) (sz : Nat) (ag : Bool) (p : AV) : Option AV := match p with
  | .fp cs => takeV sz ag cs
  | .op b off => (match h.get b with
    | some (.cells cs) => takeV sz ag (cs.drop off)
    | _ => none)
  | _ => none
def q1 (f : AV → Option AV) (x : Option AV) : Option AV := match x with
  | some x => f x
  | none => none
def q2 (f : AV → AV → Option AV) (x y : Option AV) : Option AV := match x with
  | some x => (match y with
    | some y => f x y
    | none => none)
  | none => none
def qPick (e : TE) (c a b : Operand) : Option AV := match opE e c with
  | some (.bool true) => opE e a
  | some (.bool false) => opE e b
  | _ => none
def qLoad (h : TH) (sz : Nat) (ag : Bool) (x : Option AV) : Option AV := match x with
  | some p => reloadT h sz ag p
  | none => none
def fconv (k : IntKind) (x : AV) : Option AV := match x with
  | .int _ n => some (.int k (fwrap k n))
  | _ => none
def fext (i : Nat) (x : AV) : Option AV := match x with
  | .tup cs => nthL cs i
  | _ => none
def ffield (off sz : Nat) (ag : Bool) (x : AV) : Option AV := match x with
  | .agg cs => takeV sz ag (cs.drop off)
  | _ => none
def fidxs (x i : AV) : Option AV := match x with
  | .str s => (match i with
    | .int _ i => (match i with
      | .ofNat i => (match nthL s i with
        | some b => some (.int .u8 (Int.ofNat b.toNat))
        | none => none)
      | .negSucc _ => none)
    | _ => none)
  | _ => none
def flens (x : AV) : Option AV := match x with
  | .str s => some (.int .i64 (Int.ofNat (lenL s 0)))
  | _ => none
def feqN (neg : Bool) (k : NK) (x : AV) : Option AV := match nilA k x with
  | some r => some (.bool (if neg then !r else r))
  | none => none
def feqB (neg : Bool) (x y : AV) : Option AV := match x with
  | .bool a => (match y with
    | .bool b => some (.bool (if neg then !(a == b) else a == b))
    | _ => none)
  | _ => none
def xV {R : Type} (r : Option AV) (h : TH) (n : Nat) (no : R) (k : Out → TH → Nat → R) : R := match r with
  | some y => k (.val y) h n
  | none => no
def evAlloc (z : List AV) (h : Heap) (nx : Nat) : Option (Out × Heap × Nat) := some (.val (.op nx 0), (nx, .cells z) :: h, nx + 1)
def evBox (x : Operand) (env : Env) (h : Heap) (nx : Nat) : Option (Out × Heap × Nat) := match oev env x with
  | some y => if y.plain = true then some (.val (.op nx 0), (nx, .cells (cellsOf y)) :: h, nx + 1) else none
  | none => none
def evStore (sz : Nat) (p x : Operand) (env : Env) (h : Heap) (nx : Nat) : Option (Out × Heap × Nat) := match oev env p, oev env x with
  | some p, some x => if x.plain = true ∧ (cellsOf x).length = sz then (match storeH h p (cellsOf x) with
      | some h' => some (.skip, h', nx)
      | none => none) else none
  | _, _ => none
def evApp (e sz bytes : Nat) (s x : Operand) (env : Env) (h : Heap) (nx : Nat) : Option (Out × Heap × Nat) := match oev env s, oev env x with
  | some s, some x => (match appA e sz bytes h nx s x with
    | some (r, h', n') => some (.val r, h', n')
    | none => none)
  | _, _ => none
def evSlc (sz : Nat) (x : Operand) (lo hi mx : Option Operand) (env : Env) (h : Heap) (nx : Nat) : Option (Out × Heap × Nat) := match oev env x with
  | some x => (match lenA x with
    | some n => (match bnd env lo 0, bnd env hi n with
      | some l, some hh => (match mx with
        | none => (match slcA sz x l hh none with
          | some r => some (.val r, h, nx)
          | none => none)
        | some m => (match bnd env (some m) 0 with
          | some m => (match slcA sz x l hh (some m) with
            | some r => some (.val r, h, nx)
            | none => none)
          | none => none))
      | _, _ => none)
    | none => none)
  | none => none
def evSlcs (x : Operand) (lo hi : Option Operand) (env : Env) (h : Heap) (nx : Nat) : Option (Out × Heap × Nat) := match oev env x with
  | some (.str s) => (match bnd env lo 0, bnd env hi s.length with
    | some l, some hh => if l ≤ hh ∧ hh ≤ s.length then some (.val (.str ((s.take hh).drop l)), h, nx) else none
    | _, _ => none)
  | _ => none
def evBuild (z : List AV) (ps : List (Nat × Nat × Operand)) (env : Env) (h : Heap) (nx : Nat) : Option (Out × Heap × Nat) := match partsE3 env ps with
  | some qs => (match fillA z qs with
    | some r => some (.val (.agg r), h, nx)
    | none => none)
  | none => none
def evBuildF (z : List AV) (len : Nat) (ps : List (Nat × Operand)) (env : Env) (h : Heap) (nx : Nat) : Option (Out × Heap × Nat) := match partsE env ps with
  | some qs => (match fillE z.length (List.replicate len z) qs with
    | some es => some (.val (if len = 0 then .emp else .lst z.length es), h, nx)
    | none => none)
  | none => none
def evMkfn (f : Fn) (caps : List Operand) (env : Env) (h : Heap) (nx : Nat) : Option (Out × Heap × Nat) := match oevs env caps with
  | some cs => some (.val (.fn f cs), h, nx)
  | none => none
def opEvF (o : AOp) (env : Env) (h : Heap) (nx : Nat) : Option (Out × Heap × Nat) := match o with
  | .alloc z => evAlloc z h nx
  | .box x => evBox x env h nx
  | .store sz p x => evStore sz p x env h nx
  | .app e sz bytes s x => evApp e sz bytes s x env h nx
  | .slc sz x lo hi mx => evSlc sz x lo hi mx env h nx
  | .slcs x lo hi => evSlcs x lo hi env h nx
  | .build z ps => evBuild z ps env h nx
  | .buildF z len ps => evBuildF z len ps env h nx
  | .mkfn f caps => evMkfn f caps env h nx
  | o => opEv o env h nx
theorem opEvF_eq (o : AOp) (env : Env) (h : Heap) (nx : Nat) : opEvF o env h nx = opEv o env h nx := by
  cases o <;> rfl
def allK (h : TH) : List Nat → Bool
  | [] => true
  | b :: r => (match h.get b with
    | some _ => allK h r
    | none => false)
def xGen {R : Type} (ao : AOp) (e : TE) (h : TH) (n : Nat) (no : R) (k : Out → TH → Nat → R) : R := match pickE e ao.opnds with
  | none => no
  | some env => (match ao.quiet with
    | true => (match opEvF ao env [] 0 with
      | some (out, _, _) => k out h n
      | none => no)
    | false => (match allK h (blksE env) with
      | false => no
      | true => (match opEvF ao env (pickH h env) n with
        | some (out, h', n') => (match Nat.ble n n' with
          | false => no
          | true => putH (n :: blksE env) h' h fun h => frcN n' fun n' => k out h n')
        | none => no)))
def xOp {R : Type} (ao : AOp) (e : TE) (h : TH) (n : Nat) (no : R) (k : Out → TH → Nat → R) : R :=
  match ao with
  | .move x => xV (opE e x) h n no k
  | .pick c a b => xV (qPick e c a b) h n no k
  | .load sz ag x => xV (qLoad h sz ag (opE e x)) h n no k
  | .bin op x y => xV (q2 (fbin op) (opE e x) (opE e y)) h n no k
  | .idxA sz x i => xV (q2 (fidx sz) (opE e x) (opE e i)) h n no k
  | .fieldA off x => xV (q1 (addA off) (opE e x)) h n no k
  | .len x => xV (q1 flen (opE e x)) h n no k
  | .conv k' x => xV (q1 (fconv k') (opE e x)) h n no k
  | .ext x i => xV (q1 (fext i) (opE e x)) h n no k
  | .field off sz ag x => xV (q1 (ffield off sz ag) (opE e x)) h n no k
  | .idxs x i => xV (q2 fidxs (opE e x) (opE e i)) h n no k
  | .lens x => xV (q1 flens (opE e x)) h n no k
  | .eqN neg k' x => xV (q1 (feqN neg k') (opE e x)) h n no k
  | .eqB neg x y => xV (q2 (feqB neg) (opE e x) (opE e y)) h n no k
  | .un op x => xV (q1 (unA op) (opE e x)) h n no k
  | ao => xGen ao e h n no k
def guardE (e : TE) : Option (Tmp × Bool) → Option Bool
  | none => some true
  | some (t, b) => match e.get t with
    | some (.bool c) => some (c == b)
    | some (.tup []) => some false
    | _ => none
def putE {R : Type} (d : Option Tmp) (x : AV) (e : TE) (k : TE → R) : R := match d with
  | none => k e
  | some d => Tr.set (some x) 20 e d k
inductive XR where
  | fail
  | ok (x : AV) (h : TH) (n : Nat)
  | pan (x : AV) (h : TH) (n : Nat)
structure YI where
  b : Nat
  N : Nat
  ps : List Nat
  aa : ACode
  ab : ACode
  e : TE
structure Calls' where
  call : List YI → FuncId → List AV → TH → Nat → XR
  yld : List YI → YI → List AV → TH → Nat → XR
def findY : List YI → Nat → Option YI
  | [], _ => none
  | y :: r, b => match Nat.beq y.b b with
    | true => some y
    | false => findY r b
def isPanM : List Operand → Bool
  | [.const (.tuple ⟨[]⟩), .const (.tuple ⟨[]⟩)] => true
  | _ => false
def isNxM : List Operand → Bool
  | [.const (.tuple ⟨[]⟩)] => true
  | _ => false
def leftOnes : List (AV × AV) → List Nat → List Nat → List (AV × AV × Nat)
  | q :: es, s :: sts, seen => if seen.contains s then leftOnes es sts seen else (q.1, q.2, s) :: leftOnes es sts seen
  | _, _, _ => []
def nxX {R : Type} (h : TH) (b : Nat) (no : R) (k : AV → TH → R) : R := match h.get b with
  | some (.mit mb since seen last) => (match h.get mb with
    | some (.map es sts ck) => (match Nat.beq (lenL es 0) (lenL sts 0) && sts.all (fun s => Nat.blt s since) && Nat.ble since last with
      | true => (match leftOnes es sts seen with
        | [] => k (.tup [.bool false]) h
        | [(q, x, s)] => Tr.set (some (.mit mb since (seen ++ [s]) ck)) 24 h b fun h => k (.tup [.bool true, q, x]) h
        | _ => no)
      | false => no)
    | _ => no)
  | _ => no
def xRes (r : XR) (no : EX) (kp : AV → TH → Nat → EX) (k : AV → TH → Nat → EX) : EX := match r with
  | .fail => no
  | .ok y h n => k y h n
  | .pan y h n => kp y h n
def xS (c : Calls') (ys : List YI) (dl : List Nat) : List AStep → TE → TH → Nat → EX
  | [], e, h, n => .nor e h n dl
  | s :: r, e, h, n => match guardE e s.guard with
    | none => .fail
    | some false => putE s.dst (.tup []) e fun e => xS c ys dl r e h n
    | some true => (match s.act with
      | .op ao => xOp ao e h n .fail fun out h n => (match out with
        | .val x => frc x fun x => putE s.dst x e fun e => xS c ys dl r e h n
        | .skip => putE s.dst (.tup []) e fun e => xS c ys dl r e h n)
      | .callZ _ _ => .fail
      | .call f xs => (match opE e f with
        | some (.fn (.func f) caps) => (match opsE e xs with
          | some vs => xRes (c.call ys f (vs ++ caps) h n) .fail (fun x h n => .pan x e h n dl) fun y h n => putE s.dst y e fun e => xS c ys dl r e h n
          | none => .fail)
        | some (.bm (.func f) fs caps) => (match opsE e xs with
          | some vs => xRes (c.call ys f (fs ++ (vs ++ caps)) h n) .fail (fun x h n => .pan x e h n dl) fun y h n => putE s.dst y e fun e => xS c ys dl r e h n
          | none => .fail)
        | some (.yl b) => (match findY ys b with
          | some y => (match opsE e xs with
            | some vs => xRes (c.yld ys y vs h n) .fail (fun x h n => .pan x e h n dl) fun y h n => putE s.dst y e fun e => xS c ys dl r e h n
            | none => .fail)
          | none => .fail)
        | some (.ifc t x) => (match isPanM xs with
          | true => .pan (.ifc t x) e h n dl
          | false => .fail)
        | some (.op b 0) => (match isNxM xs with
          | true => nxX h b .fail fun x h => putE s.dst x e fun e => xS c ys dl r e h n
          | false => .fail)
        | _ => .fail))
def all2 (f : AV → AV → Bool) : List AV → List AV → Bool
  | [], [] => true
  | x :: r, y :: s => f x y && all2 f r s
  | _, _ => false
def allL (f : AV → AV → Bool) : List (List AV) → List (List AV) → Bool
  | [], [] => true
  | x :: r, y :: s => all2 f x y && allL f r s
  | _, _ => false
def AV.same : Nat → AV → AV → Bool
  | 0, _, _ => false
  | f + 1, x, y => match x with
    | .int k a => (match y with | .int k' b => decide (k = k') && decide (a = b) | _ => false)
    | .bool a => (match y with | .bool b => a == b | _ => false)
    | .str a => (match y with | .str b => decide (a = b) | _ => false)
    | .agg a => (match y with | .agg b => all2 (AV.same f) a b | _ => false)
    | .tup a => (match y with | .tup b => all2 (AV.same f) a b | _ => false)
    | .fp a => (match y with | .fp b => all2 (AV.same f) a b | _ => false)
    | .lst s a => (match y with | .lst t b => Nat.beq s t && allL (AV.same f) a b | _ => false)
    | .nilS => (match y with | .nilS => true | _ => false)
    | .emp => (match y with | .emp => true | _ => false)
    | .nilP => (match y with | .nilP => true | _ => false)
    | .nilI => (match y with | .nilI => true | _ => false)
    | .nilF => (match y with | .nilF => true | _ => false)
    | .nilM => (match y with | .nilM => true | _ => false)
    | .op b o => (match y with | .op b' o' => Nat.beq b b' && Nat.beq o o' | _ => false)
    | .mp b => (match y with | .mp b' => Nat.beq b b' | _ => false)
    | .os b o e s l => (match y with | .os b' o' e' s' l' => Nat.beq b b' && Nat.beq o o' && decide (e = e') && Nat.beq s s' && Nat.beq l l' | _ => false)
    | .oc b o e s l c => (match y with | .oc b' o' e' s' l' c' => Nat.beq b b' && Nat.beq o o' && decide (e = e') && Nat.beq s s' && Nat.beq l l' && Nat.beq c c' | _ => false)
    | _ => false
def pendB (h : TH) : Pend → Bool
  | [] => true
  | (_, sz, ag, p, x) :: r => (match reloadT h sz ag p with
    | some y => AV.same 30 x y
    | none => false) && pendB h r
def xD (c : Calls') (ys : List YI) (dl : List Nat) : List DStep → Pend → TE → TH → Nat → EX
  | [], _, e, h, n => .nor e h n dl
  | d :: r, pd, e, h, n => match guardE e d.s.guard with
    | none => .fail
    | some false => putE d.s.dst (.tup []) e fun e => xD c ys dl r pd e h n
    | some true => (match d.s.act with
      | .op ao => (match ao.quiet with
        | true => xOp ao e h n .fail fun out h n => (match out with
          | .val x => frc x fun x => putE d.s.dst x e fun e => xD c ys dl r pd e h n
          | .skip => .fail)
        | false => (match ao with
          | .load sz ag o => (match opE e o with
            | some p => (match reloadT h sz ag p with
              | some x => frc x fun x => putE d.s.dst x e fun e => (match p.isFp with
                | true => xD c ys dl r pd e h n
                | false => xD c ys dl r ((d.i, sz, ag, p, x) :: pd) e h n)
              | none => .fail)
            | none => .fail)
          | ao => xOp ao e h n .fail fun out h n => (match pendB h (pendKeep d.late pd) with
            | false => .fail
            | true => (match out with
              | .val x => frc x fun x => putE d.s.dst x e fun e => xD c ys dl r (pendKeep d.late pd) e h n
              | .skip => putE d.s.dst (.tup []) e fun e => xD c ys dl r (pendKeep d.late pd) e h n))))
      | .callZ _ _ => .fail
      | .call f xs => (match opE e f with
        | some (.fn (.func f) caps) => (match opsE e xs with
          | some vs => xRes (c.call ys f (vs ++ caps) h n) .fail (fun x h n => (match pendB h (pendKeep d.late pd) with
              | false => .fail
              | true => .pan x .nil h n dl)) fun y h n => (match pendB h (pendKeep d.late pd) with
              | false => .fail
              | true => putE d.s.dst y e fun e => xD c ys dl r (pendKeep d.late pd) e h n)
          | none => .fail)
        | some (.bm (.func f) fs caps) => (match opsE e xs with
          | some vs => xRes (c.call ys f (fs ++ (vs ++ caps)) h n) .fail (fun x h n => (match pendB h (pendKeep d.late pd) with
              | false => .fail
              | true => .pan x .nil h n dl)) fun y h n => (match pendB h (pendKeep d.late pd) with
              | false => .fail
              | true => putE d.s.dst y e fun e => xD c ys dl r (pendKeep d.late pd) e h n)
          | none => .fail)
        | _ => .fail))
def loopX (step : TE → TH → Nat → List Nat → EX) : Nat → TE → TH → Nat → List Nat → EX
  | 0, _, _, _, _ => .fail
  | k + 1, e, h, n, d => match step e h n d with
    | .nor e h n d => loopX step k e h n d
    | r => r
def rngX (r : XR) (e : TE) (n0 : Nat) (d : List Nat) : EX := match r with
  | .ok _ h n => (match h.get (Nat.succ n0) with
    | none => .nor e h n (n0 :: d)
    | some _ => .fail)
  | _ => .fail
def runC (c : Calls') (lf N : Nat) (rd : Bool) (ys : List YI) : ACode → TE → TH → Nat → List Nat → EX
  | .skip, e, h, n, d => .nor e h n d
  | .label, e, h, n, d => .nor e h n d
  | .exit i, e, h, n, d => .ext i e h n d
  | .ret, e, h, n, d => .rtn e h n d
  | .region ss, e, h, n, d => xS c ys d ss e h n
  | .dregion l, e, h, n, d => xD c ys d l [] e h n
  | .tregion _, _, _, _, _ => .fail
  | .seq a b, e, h, n, d => (match runC c lf N rd ys a e h n d with
    | .nor e h n d => runC c lf N rd ys b e h n d
    | r => r)
  | .cond o a b, e, h, n, d => (match opE e o with
    | some (.bool true) => runC c lf N rd ys a e h n d
    | some (.bool false) => runC c lf N rd ys b e h n d
    | _ => .fail)
  | .block id b, e, h, n, d => (match runC c lf N rd ys b e h n d with
    | .ext i e h n d => (match Nat.beq i id with
      | true => .nor e h n d
      | false => .ext i e h n d)
    | r => r)
  | .loop b, e, h, n, d => loopX (runC c lf N rd ys b) lf e h n d
  | .rangeF g ps aa ab, e, h, n, d => (match rd with
    | true => .fail
    | false => (match opE e g with
      | some (.fn (.func gf) caps) => (match ps.toList.all fun p => Nat.blt p N with
        | false => .fail
        | true => Tr.set (some .dfd) 24 h n fun h => rngX (c.call (⟨Nat.succ n, N, ps.toList, aa, ab, e⟩ :: ys) gf (.yl (Nat.succ n) :: caps) h (Nat.succ (Nat.succ n))) e n d)
      | _ => .fail))
inductive FI where
  | code (N : Nat) (ac : ACode) (rs : List RV)
  | pure (g : List AV → Option AV)
  | dfr (N : Nat) (df : DfI) (rs : List RV)
  | clo (N : Nat) (cl : ClI)
  deriving Inhabited
def rvX (e : TE) (h : TH) : RV → Option AV
  | .tmp t => e.get t
  | .cell t sz ag => match e.get t with
    | some p => reloadT h sz ag p
    | none => none
def rvsX (e : TE) (h : TH) : List RV → Option (List AV)
  | [] => some []
  | r :: rs => match rvX e h r with
    | some x => (match rvsX e h rs with
      | some xs => some (x :: xs)
      | none => none)
    | none => none
def resX (rs : List RV) (e : TE) (h : TH) (n : Nat) : XR := match rvsX e h rs with
  | some ys => frc (resV ys) fun y => .ok y h n
  | none => .fail
def penvX {R : Type} : Nat → List AV → TE → (TE → R) → R
  | _, [], e, k => k e
  | i, x :: r, e, k => Tr.set (some x) 20 e i fun e => penvX (i + 1) r e k
def bindX {R : Type} : List Nat → List AV → TE → (TE → R) → R
  | p :: ps, x :: xs, e, k => Tr.set (some x) 20 e p fun e => bindX ps xs e k
  | _, _, e, k => k e
def delsX : List Nat → TH → (TH → XR) → XR
  | [], h, k => k h
  | b :: r, h, k => match h.get b with
    | some .dfd => Tr.set none 24 h b fun h => delsX r h k
    | _ => .fail
def finX (rs : List RV) : EX → XR
  | .rtn e h n d => delsX d h fun h => resX rs e h n
  | .nor e h n d => delsX d h fun h => resX rs e h n
  | .pan x _ h n d => delsX d h fun h => .pan x h n
  | _ => .fail
def dropY (b : Nat) : List YI → List YI
  | [] => []
  | y :: r => match Nat.beq y.b b with
    | true => dropY b r
    | false => y :: dropY b r
def yldF (c : Calls') (lf : Nat) (ys : List YI) (y : YI) (xs : List AV) (h : TH) (n : Nat) : XR := match Nat.beq (lenL xs 0) (lenL y.ps 0) with
  | false => .fail
  | true => bindX y.ps xs y.e fun e => (match runC c lf y.N true (dropY y.b ys) y.aa e h n [] with
    | .nor e h n [] => (match runC c lf y.N true (dropY y.b ys) y.ab e h n [] with
      | .nor _ h n [] => .ok (.bool true) h n
      | _ => .fail)
    | _ => .fail)
def xSC : List AStep → TE → TH → Nat → EX
  | [], e, h, n => .nor e h n []
  | s :: r, e, h, n => match guardE e s.guard with
    | none => .fail
    | some false => putE s.dst (.tup []) e fun e => xSC r e h n
    | some true => (match s.act with
      | .op ao => xOp ao e h n .fail fun out h n => (match out with
        | .val x => frc x fun x => putE s.dst x e fun e => xSC r e h n
        | .skip => putE s.dst (.tup []) e fun e => xSC r e h n)
      | _ => .fail)
def cloX (c : Calls') (tab : Tr FI) (lf : Nat) (cf : FuncId) (cs : List AV) (u : Option AV) (h : TH) (n : Nat) (k : TH → Nat → XR) : XR := match tab.get cf with
  | some (.clo N cl) => (match Nat.ble cs.length N with
    | false => .fail
    | true => penvX 0 cs .nil fun e => Tr.set (some (rcA u)) 20 e cl.t fun e => (match xSC cl.ss e h n with
      | .nor e h n [] => (match runC c lf N false [] cl.ac e h n [] with
        | .nor _ h n [] => k h n
        | .rtn _ h n [] => k h n
        | _ => .fail)
      | _ => .fail))
  | _ => .fail
def finDX (c : Calls') (tab : Tr FI) (lf : Nat) (cf : FuncId) (cs : List AV) (rs : List RV) : EX → XR
  | .rtn e h n d => delsX d h fun h => cloX c tab lf cf cs none h n fun h n => resX rs e h n
  | .nor e h n d => delsX d h fun h => cloX c tab lf cf cs none h n fun h n => resX rs e h n
  | .pan x e h n d => delsX d h fun h => cloX c tab lf cf cs (some x) h n fun h n => resX rs e h n
  | _ => .fail
def preX (c : Calls') (lf N : Nat) (ys : List YI) (rs : List RV) (k : TE → TH → Nat → XR) : List ACode → TE → TH → Nat → XR
  | [], e, h, n => k e h n
  | a :: l, e, h, n => match runC c lf N false ys a e h n [] with
    | .nor e h n d => (match d with
      | [] => preX c lf N ys rs k l e h n
      | _ :: _ => .fail)
    | r => finX rs r
def callF (c : Calls') (tab : Tr FI) (lf : Nat) (ys : List YI) (f : FuncId) (xs : List AV) (h : TH) (n : Nat) : XR := match tab.get f with
  | some (.code N ac rs) => (match Nat.ble xs.length N with
    | false => .fail
    | true => penvX 0 xs .nil fun e => finX rs (runC c lf N false ys ac e h n []))
  | some (.pure g) => (match g xs with
    | some y => frc y fun y => .ok y h n
    | none => .fail)
  | some (.dfr N df rs) => (match Nat.ble xs.length N with
    | false => .fail
    | true => penvX 0 xs .nil fun e => preX c lf N ys rs (fun e h n => (match opsE e df.caps with
      | some cs => Tr.set (some (.fn (.func df.cf) cs)) 20 e df.t fun e => finDX c tab lf df.cf cs rs (runC c lf N false ys df.post e h n [])
      | none => .fail)) df.pre e h n)
  | _ => .fail
def xAll (tab : Tr FI) (lf : Nat) : Nat → Calls'
  | 0 => ⟨fun _ _ _ _ _ => .fail, fun _ _ _ _ _ => .fail⟩
  | fu + 1 => ⟨callF (xAll tab lf fu) tab lf, yldF (xAll tab lf fu) lf⟩
end Go.Ab
namespace Go.Ab
open Go.RowKit
set_option linter.unusedVariables false
set_option linter.unusedSimpArgs false
theorem pickH_get {h : TH} : ∀ {env : Env} {b : Nat} {o : AO}, hget (pickH h env) b = some o → h.get b = some o
  | [], b, o, hh => by simp [pickH, hget] at hh
  | (t, x) :: r, b, o, hh => by
    simp only [pickH] at hh
    split at hh
    · split at hh
      · rename_i h1
        rw [hget_cons] at hh
        split at hh
        · rename_i e; subst e; cases hh; exact h1
        · exact pickH_get hh
      · exact pickH_get hh
    · exact pickH_get hh
theorem blksE_mem : ∀ {env : Env} {t : Nat} {x : AV} {b : Nat}, (t, x) ∈ env → x.blk = some b → b ∈ blksE env
  | [], t, x, b, hm, _ => by simp at hm
  | (u, y) :: r, t, x, b, hm, hb => by
    simp only [blksE]
    rcases List.mem_cons.1 hm with he | hm
    · cases he; rw [hb]; simp
    · have := blksE_mem hm hb
      split
      · exact List.mem_cons_of_mem _ this
      · exact this
theorem ofC_blk {v : Value} {x : AV} (h : ofC v = some x) : x.blk = none := by
  unfold ofC at h
  split at h <;> cases h <;> rfl
theorem ofV_blk {v : Value} {x : AV} (h : ofV v = some x) : x.blk = none := by
  unfold ofV at h
  split at h
  · obtain ⟨cs, _, rfl⟩ := Option.map_eq_some_iff.1 h; rfl
  · exact ofC_blk h
theorem putH_spec : ∀ (bs : List Nat) (h' : Heap) (h : TH), ∃ T : TH, (∀ (R : Type) (k : TH → R), putH bs h' h k = k T) ∧ ∀ b o, T.get b = some o → (b ∈ bs ∧ hget h' b = some o) ∨ (b ∉ bs ∧ h.get b = some o)
  | [], h', h => ⟨h, fun R k => rfl, fun b o hb => .inr ⟨by simp, hb⟩⟩
  | b :: r, h', h => by
    have key : ∀ (T1 : TH), (∀ c o, T1.get c = some o → if c = b then hget h' b = some o else h.get c = some o) → (∃ T : TH, (∀ (R : Type) (k : TH → R), putH r h' T1 k = k T) ∧ ∀ c o, T.get c = some o → (c ∈ b :: r ∧ hget h' c = some o) ∨ (c ∉ b :: r ∧ h.get c = some o)) := by
      intro T1 h1
      obtain ⟨T, hT, hs⟩ := putH_spec r h' T1
      refine ⟨T, hT, fun c o hc => ?_⟩
      rcases hs c o hc with ⟨hm, he⟩ | ⟨hm, he⟩
      · exact .inl ⟨List.mem_cons_of_mem _ hm, he⟩
      · have := h1 c o he
        by_cases e : c = b
        · rw [if_pos e] at this; subst e; exact .inl ⟨by simp, this⟩
        · rw [if_neg e] at this; exact .inr ⟨by simp [e, hm], this⟩
    cases hb : hget h' b with
    | some o =>
      obtain ⟨T, hT, hs⟩ := key (Tr.setT (some o) 24 h b) fun c o' hc => by
        have := Tr.get_setT _ _ _ _ _ _ hc
        by_cases e : c = b
        · rw [if_pos e] at this ⊢; rw [hb, this]
        · rw [if_neg e] at this ⊢; exact this
      exact ⟨T, fun R k => by simp only [putH, hb, frcO_eq, Tr.set_eq, hT], hs⟩
    | none =>
      cases hg : h.get b with
      | none =>
        obtain ⟨T, hT, hs⟩ := key h fun c o' hc => by
          by_cases e : c = b
          · subst e; rw [hg] at hc; cases hc
          · rw [if_neg e]; exact hc
        exact ⟨T, fun R k => by simp only [putH, hb, hg, hT], hs⟩
      | some o0 =>
        obtain ⟨T, hT, hs⟩ := key (Tr.setT none 24 h b) fun c o' hc => by
          have := Tr.get_setT _ _ _ _ _ _ hc
          by_cases e : c = b
          · rw [if_pos e] at this; cases this
          · rw [if_neg e] at this ⊢; exact this
        exact ⟨T, fun R k => by simp only [putH, hb, hg, Tr.set_eq, hT], hs⟩
theorem reloadT_sound {h : TH} {H : Heap} (hs : ∀ b o, h.get b = some o → hget H b = some o) {sz : Nat} {ag : Bool} {p x : AV} (hx : reloadT h sz ag p = some x) : reload H sz ag p = some x := by
  unfold reloadT at hx
  unfold reload ptrCells
  split at hx
  · exact hx
  · split at hx
    · rename_i h1; simp only [hs _ _ h1]; exact hx
    · cases hx
  · cases hx
theorem q1_some {f : AV → Option AV} {x : Option AV} {y : AV} (h : q1 f x = some y) : ∃ a, x = some a ∧ f a = some y := by
  cases x <;> simp only [q1] at h
  · cases h
  · exact ⟨_, rfl, h⟩
theorem q2_some {f : AV → AV → Option AV} {x y : Option AV} {z : AV} (h : q2 f x y = some z) : ∃ a b, x = some a ∧ y = some b ∧ f a b = some z := by
  cases x <;> cases y <;> simp only [q2] at h <;> first | (cases h; done) | exact ⟨_, _, rfl, rfl, h⟩
theorem xV_sound {O : Nat → Option AO} {ao : AOp} {h : TH} {n : Nat} {st : ASt} {r : Option AV} {k : Out → TH → Nat → EX} (hh : SubT h st.heap) (ho : OutOk O h st.heap n) (hr : xV r h n .fail k ≠ .fail)
    (hv : ∀ y, r = some y → opEv ao st.env st.heap st.nx = some (.val y, st.heap, n)) :
    ∃ out h' n' H', opEv ao st.env st.heap st.nx = some (out, H', n') ∧ xV r h n .fail k = k out h' n' ∧ SubT h' H' ∧ OutOk O h' H' n' := by
  cases r with
  | none => exact absurd rfl hr
  | some y => exact ⟨.val y, h, n, st.heap, hv y rfl, rfl, hh, ho⟩
theorem allK_mem {h : TH} : ∀ {bs : List Nat} {b : Nat}, allK h bs = true → b ∈ bs → ∃ o, h.get b = some o
  | [], b, _, hm => by simp at hm
  | c :: r, b, hk, hm => by
    simp only [allK] at hk
    split at hk
    · rename_i o ho
      rcases List.mem_cons.1 hm with rfl | hm
      · exact ⟨o, ho⟩
      · exact allK_mem hk hm
    · cases hk
theorem xGen_sound {ao : AOp} {O : Nat → Option AO} {e : TE} {h : TH} {n : Nat} {dl : List Nat} {st : ASt} (hs : Sim O e h n dl st) {k : Out → TH → Nat → EX} (hr : xGen ao e h n .fail k ≠ .fail) :
    ∃ out h' n' H', opEv ao st.env st.heap st.nx = some (out, H', n') ∧ xGen ao e h n .fail k = k out h' n' ∧ SubT h' H' ∧ OutOk O h' H' n' := by
  unfold xGen at hr ⊢
  cases hp : pickE e ao.opnds with
  | none => rw [hp] at hr; exact absurd rfl hr
  | some env =>
    simp only [hp, opEvF_eq] at hr ⊢
    have hcg := pickE_oev hs hp
    cases hq : ao.quiet with
    | true =>
      simp only [hq] at hr ⊢
      cases hev : opEv ao env [] 0 with
      | none => rw [hev] at hr; exact absurd rfl hr
      | some r =>
        obtain ⟨out, h1, n1⟩ := r
        refine ⟨out, h, n, st.heap, ?_, rfl, hs.heap, hs.out⟩
        rw [← opEv_congr hcg, quiet_heap hq, hev, ← hs.nx]; rfl
    | false =>
      simp only [hq] at hr ⊢
      cases hK : allK h (blksE env) with
      | false => rw [hK] at hr; exact absurd rfl hr
      | true =>
      simp only [hK] at hr ⊢
      cases hev : opEv ao env (pickH h env) n with
      | none => rw [hev] at hr; exact absurd rfl hr
      | some r =>
        obtain ⟨out, h1, n1⟩ := r
        simp only [hev] at hr ⊢
        cases hle : Nat.ble n n1 with
        | false => rw [hle] at hr; exact absurd rfl hr
        | true =>
        simp only [hle] at hr ⊢
        have hle := Nat.le_of_ble_eq_true hle
        obtain ⟨H', e1, e3⟩ := opEv_frame (H := st.heap) (bs := blksE env) (fun b o hb => hs.heap b o (pickH_get hb)) (fun o ho x b hx hb => by
          cases o with
          | tmp t => exact blksE_mem (pickE_mem hp t x hx).2 hb
          | const v => rw [ofV_blk hx] at hb; cases hb
          | func f => cases hx; cases hb
          | global g => cases hx) hev
        obtain ⟨T, hT, hsp⟩ := putH_spec (n :: blksE env) h1 h
        have hsub : SubT T H' := by
          intro b o hb
          rcases hsp b o hb with ⟨hm, he⟩ | ⟨hm, he⟩
          · exact e3.1 b o he
          · rw [e3.2 b (fun hc => hm (List.mem_cons_of_mem _ hc)) (fun hc => hm (by rw [hc]; exact List.mem_cons_self))]
            exact hs.heap b o he
        refine ⟨out, T, n1, H', ?_, ?_, hsub, ?_⟩
        · rw [← opEv_congr hcg, hs.nx]; exact e1
        · simp only [hT, frcN_eq]
        · intro b o hb
          obtain ⟨k1, k2, k3⟩ := hs.out b o hb
          have hn : b ≠ n := by omega
          have hbs : b ∉ blksE env := fun hm => by
            obtain ⟨o', ho'⟩ := allK_mem hK hm
            rw [k2] at ho'; cases ho'
          refine ⟨by omega, ?_, by rw [e3.2 b hbs hn]; exact k3⟩
          cases hg : T.get b with
          | none => rfl
          | some o' =>
            rcases hsp b o' hg with ⟨hm, _⟩ | ⟨_, he⟩
            · rcases List.mem_cons.1 hm with hm | hm
              · exact absurd hm hn
              · exact absurd hm hbs
            · rw [k2] at he; cases he
theorem xOp_sound {ao : AOp} {O : Nat → Option AO} {e : TE} {h : TH} {n : Nat} {dl : List Nat} {st : ASt} (hs : Sim O e h n dl st) {k : Out → TH → Nat → EX} (hr : xOp ao e h n .fail k ≠ .fail) :
    ∃ out h' n' H', opEv ao st.env st.heap st.nx = some (out, H', n') ∧ xOp ao e h n .fail k = k out h' n' ∧ SubT h' H' ∧ OutOk O h' H' n' := by
  have E : ∀ {o : Operand} {x : AV}, opE e o = some x → oev st.env o = some x := fun hx => opE_sound hs hx
  have hn := hs.nx
  cases ao with
  | move x => exact xV_sound hs.heap hs.out hr fun y hy => by simp only [opEv, E hy, hn]
  | pick c a b =>
    refine xV_sound hs.heap hs.out hr fun y hy => ?_
    unfold qPick at hy
    split at hy
    · rename_i hc; simp only [opEv, E hc, E hy, hn, if_true]
    · rename_i hc; simp [opEv, E hc, E hy, hn]
    · cases hy
  | load sz ag x =>
    refine xV_sound hs.heap hs.out hr fun y hy => ?_
    unfold qLoad at hy
    split at hy
    · rename_i p hp; rw [load_reload (E hp) (reloadT_sound hs.heap hy), hn]
    · cases hy
  | bin op x y =>
    refine xV_sound hs.heap hs.out hr fun z hz => ?_
    obtain ⟨a, b, ha, hb, hf⟩ := q2_some hz
    simp only [opEv, E ha, E hb, fbin_sound hf, hn]
  | idxA sz x i =>
    refine xV_sound hs.heap hs.out hr fun z hz => ?_
    obtain ⟨a, b, ha, hb, hf⟩ := q2_some hz
    obtain ⟨k', m, rfl, hi⟩ := fidx_sound hf
    simp only [opEv, E ha, E hb, hi, hn]
  | fieldA off x =>
    refine xV_sound hs.heap hs.out hr fun z hz => ?_
    obtain ⟨a, ha, hf⟩ := q1_some hz
    simp only [opEv, E ha, hf, hn]
  | len x =>
    refine xV_sound hs.heap hs.out hr fun z hz => ?_
    obtain ⟨a, ha, hf⟩ := q1_some hz
    obtain ⟨m, h1, rfl⟩ := flen_sound hf
    simp only [opEv, E ha, h1, hn]
  | conv k' x =>
    refine xV_sound hs.heap hs.out hr fun z hz => ?_
    obtain ⟨a, ha, hf⟩ := q1_some hz
    cases a <;> simp only [fconv] at hf <;> first | (cases hf; done) | skip
    cases hf
    simp only [opEv, E ha, fwrap_eq, hn]
  | ext x i =>
    refine xV_sound hs.heap hs.out hr fun z hz => ?_
    obtain ⟨a, ha, hf⟩ := q1_some hz
    cases a <;> simp only [fext] at hf <;> first | (cases hf; done) | skip
    rw [nthL_eq] at hf
    simp only [opEv, E ha, hf, hn]
  | field off sz ag x =>
    refine xV_sound hs.heap hs.out hr fun z hz => ?_
    obtain ⟨a, ha, hf⟩ := q1_some hz
    cases a <;> simp only [ffield] at hf <;> first | (cases hf; done) | skip
    simp only [opEv, E ha, hf, hn]
  | idxs x i =>
    refine xV_sound hs.heap hs.out hr fun z hz => ?_
    obtain ⟨a, b, ha, hb, hf⟩ := q2_some hz
    cases a <;> simp only [fidxs] at hf <;> first | (cases hf; done) | skip
    cases b <;> simp only at hf <;> first | (cases hf; done) | skip
    rename_i k' m
    cases m <;> simp only at hf <;> first | (cases hf; done) | skip
    rename_i i'
    split at hf
    · rename_i c hc
      rw [nthL_eq] at hc
      cases hf
      have h0 : (0 : Int) ≤ Int.ofNat i' := by simp only [Int.ofNat_eq_natCast]; omega
      have h1 : (Int.ofNat i').toNat = i' := rfl
      simp only [opEv, E ha, E hb, if_pos h0, h1, hc, hn]
      rfl
    · cases hf
  | lens x =>
    refine xV_sound hs.heap hs.out hr fun z hz => ?_
    obtain ⟨a, ha, hf⟩ := q1_some hz
    cases a <;> simp only [flens] at hf <;> first | (cases hf; done) | skip
    cases hf
    simp only [opEv, E ha, lenL_eq, hn]
    rfl
  | eqN neg k' x =>
    refine xV_sound hs.heap hs.out hr fun z hz => ?_
    obtain ⟨a, ha, hf⟩ := q1_some hz
    unfold feqN at hf
    split at hf
    · rename_i r h1; cases hf; simp only [opEv, E ha, h1, hn]
    · cases hf
  | eqB neg x y =>
    refine xV_sound hs.heap hs.out hr fun z hz => ?_
    obtain ⟨a, b, ha, hb, hf⟩ := q2_some hz
    cases a <;> simp only [feqB] at hf <;> first | (cases hf; done) | skip
    cases b <;> simp only at hf <;> first | (cases hf; done) | skip
    cases hf
    simp only [opEv, E ha, E hb, hn]
  | un op x =>
    refine xV_sound hs.heap hs.out hr fun z hz => ?_
    obtain ⟨a, ha, hf⟩ := q1_some hz
    simp only [opEv, E ha, hf, hn]
  | _ => exact xGen_sound hs hr
theorem guardE_sound {O : Nat → Option AO} {e : TE} {h : TH} {n : Nat} {dl : List Nat} {st : ASt} (hs : Sim O e h n dl st) {g : Option (Tmp × Bool)} {b : Bool} (hg : guardE e g = some b) : guardOk st.env g = some b := by
  unfold guardE at hg
  unfold guardOk
  split at hg
  · exact hg
  · split at hg
    · rename_i h1; simp only [hs.env _ _ h1]; exact hg
    · rename_i h1; simp only [hs.env _ _ h1]; exact hg
    · cases hg
def putT (d : Option Tmp) (x : AV) (e : TE) : TE := match d with
  | none => e
  | some d => Tr.setT (some x) 20 e d
theorem putE_eq {R : Type} (d : Option Tmp) (x : AV) (e : TE) (k : TE → R) : putE d x e k = k (putT d x e) := by
  cases d <;> simp only [putE, putT, Tr.set_eq]
theorem Sim.put {O : Nat → Option AO} {e : TE} {h h' : TH} {n n' : Nat} {dl : List Nat} {st : ASt} (hs : Sim O e h n dl st) (d : Option Tmp) (x : AV) {H' : Heap} (hh : SubT h' H') (ho : OutOk O h' H' n') : Sim O (putT d x e) h' n' dl { st with env := setE d x st.env, heap := H', nx := n' } := by
  refine ⟨fun t y hy => ?_, hh, rfl, hs.dm, ho⟩
  cases d with
  | none => exact hs.env t y hy
  | some d =>
    have := Tr.get_setT _ _ _ _ _ _ hy
    show eget ((d, x) :: st.env) t = some y
    rw [eget_cons]
    by_cases e1 : t = d
    · rw [if_pos e1] at this; rw [if_pos e1.symm]; exact this
    · rw [if_neg e1] at this; rw [if_neg (fun e => e1 e.symm)]; exact hs.env t y this
theorem Sim.let {O : Nat → Option AO} {e : TE} {h : TH} {n : Nat} {dl : List Nat} {st : ASt} (hs : Sim O e h n dl st) (d : Option Tmp) (x : AV) : Sim O (putT d x e) h n dl { st with env := setE d x st.env } := by
  have := hs.put (n' := n) d x hs.heap hs.out
  rw [← hs.nx] at this ⊢
  exact this
def XRR (O : Nat → Option AO) : XR → AE → Heap → Nat → Prop
  | .ok y h n, .ret x, H, m => x = y ∧ m = n ∧ SubT h H ∧ OutOk O h H n
  | .pan y h n, .panic x, H, m => x = y ∧ m = n ∧ SubT h H ∧ OutOk O h H n
  | _, _, _, _ => False
def YsOk (P : Program) (O : Nat → Option AO) (ys : List YI) : Prop := ∀ y ∈ ys, ∃ (own : Nat → Nat → Bool) (fn : FuncId) (env : Env) (ps : Array Tmp) (as bd : Code) (dm : Nat),
  O y.b = some (.loop false fn y.N env ps as bd dm) ∧ ps.toList = y.ps ∧ (∀ p ∈ ps.toList, p < y.N) ∧ compile P own y.N as = some y.aa ∧ compile P own y.N bd = some y.ab ∧ ∀ t x, y.e.get t = some x → eget env t = some x
structure COk (P : Program) (c : Calls') : Prop where
  call : ∀ ys f xs h n, c.call ys f xs h n ≠ .fail → ∀ O H, YsOk P O ys → SubT h H → OutOk O h H n → AC P f xs H n (XRR O (c.call ys f xs h n))
  yld : ∀ ys y xs h n, c.yld ys y xs h n ≠ .fail → y ∈ ys → ∀ O H, YsOk P O ys → SubT h H → OutOk O h H n → AY P y.b xs H n (XRR O (c.yld ys y xs h n))
theorem findY_some : ∀ {ys : List YI} {b : Nat} {y : YI}, findY ys b = some y → y ∈ ys ∧ y.b = b
  | [], b, y, h => by cases h
  | z :: r, b, y, h => by
    simp only [findY] at h
    split at h
    · rename_i hb; cases h; exact ⟨List.mem_cons_self, Nat.eq_of_beq_eq_true hb⟩
    · have := findY_some h; exact ⟨List.mem_cons_of_mem _ this.1, this.2⟩
theorem xRes_cases {r : XR} {kp k : AV → TH → Nat → EX} (hr : xRes r .fail kp k ≠ .fail) : (∃ y h n, r = .ok y h n ∧ xRes r .fail kp k = k y h n) ∨ ∃ y h n, r = .pan y h n ∧ xRes r .fail kp k = kp y h n := by
  cases r with
  | fail => exact absurd rfl hr
  | ok y h n => exact .inl ⟨y, h, n, rfl, rfl⟩
  | pan y h n => exact .inr ⟨y, h, n, rfl, rfl⟩
theorem leftOnes_mem : ∀ {es : List (AV × AV)} {sts seen : List Nat} {i : Nat} {k x : AV} {s : Nat}, es[i]? = some (k, x) → sts[i]? = some s → s ∉ seen → (k, x, s) ∈ leftOnes es sts seen
  | [], _, seen, i, k, x, s, h1, _, _ => by simp at h1
  | q :: es, [], seen, i, k, x, s, _, h2, _ => by simp at h2
  | q :: es, s0 :: sts, seen, 0, k, x, s, h1, h2, h3 => by
    simp at h1 h2; subst h1; subst h2
    simp [leftOnes, h3]
  | q :: es, s0 :: sts, seen, i + 1, k, x, s, h1, h2, h3 => by
    simp only [List.getElem?_cons_succ] at h1 h2
    have := leftOnes_mem h1 h2 h3
    simp only [leftOnes]
    split
    · exact this
    · exact List.mem_cons_of_mem _ this
theorem leftOnes_not : ∀ {es : List (AV × AV)} {sts seen : List Nat} {k x : AV} {s : Nat}, (k, x, s) ∈ leftOnes es sts seen → s ∈ seen → False
  | [], _, seen, k, x, s, h, _ => by simp [leftOnes] at h
  | q :: es, [], seen, k, x, s, h, _ => by simp [leftOnes] at h
  | q :: es, s0 :: sts, seen, k, x, s, h, hs => by
    simp only [leftOnes] at h
    split at h
    · exact leftOnes_not h hs
    · rename_i hc
      rcases List.mem_cons.1 h with he | h
      · simp only [Prod.mk.injEq] at he; obtain ⟨_, _, rfl⟩ := he; exact hc (by simpa using hs)
      · exact leftOnes_not h hs
theorem leftOnes_sts : ∀ {es : List (AV × AV)} {sts seen : List Nat} {k x : AV} {s : Nat}, (k, x, s) ∈ leftOnes es sts seen → s ∈ sts
  | [], _, seen, k, x, s, h => by simp [leftOnes] at h
  | q :: es, [], seen, k, x, s, h => by simp [leftOnes] at h
  | q :: es, s0 :: sts, seen, k, x, s, h => by
    simp only [leftOnes] at h
    split at h
    · exact List.mem_cons_of_mem _ (leftOnes_sts h)
    · rcases List.mem_cons.1 h with he | h
      · simp only [Prod.mk.injEq] at he; obtain ⟨_, _, rfl⟩ := he; simp
      · exact List.mem_cons_of_mem _ (leftOnes_sts h)
theorem isPanM_eq {xs : List Operand} (h : isPanM xs = true) : xs = [nxM, nxM] := by
  unfold isPanM at h
  split at h
  · rfl
  · cases h
theorem isNxM_eq {xs : List Operand} (h : isNxM xs = true) : xs = [nxM] := by
  unfold isNxM at h
  split at h
  · rfl
  · cases h
theorem SubT.set {h : TH} {H : Heap} (hs : SubT h H) (f b : Nat) (o : AO) : SubT (Tr.setT (some o) f h b) (hset H b o) := by
  intro c o' hc
  have := Tr.get_setT _ _ _ _ _ _ hc
  rw [hget_hset]
  by_cases e : c = b
  · rw [if_pos e] at this; rw [if_pos e.symm]; exact this
  · rw [if_neg e] at this; rw [if_neg (fun h => e h.symm)]; exact hs c o' this
theorem SubT.del {h : TH} {H : Heap} (hs : SubT h H) (f b : Nat) : SubT (Tr.setT none f h b) (hdel H b) := by
  intro c o' hc
  have := Tr.get_setT _ _ _ _ _ _ hc
  rw [hget_hdel]
  by_cases e : c = b
  · rw [if_pos e] at this; cases this
  · rw [if_neg e] at this; rw [if_neg (fun h => e h.symm)]; exact hs c o' this
theorem Tr.get_setT_none {α : Type} {x : Option α} {f : Nat} {tr : Tr α} {t u : Nat} (hu : u ≠ t) (h : tr.get u = none) : (Tr.setT x f tr t).get u = none := by
  cases hg : (Tr.setT x f tr t).get u with
  | none => rfl
  | some y =>
    have := Tr.get_setT _ _ _ _ _ _ hg
    rw [if_neg hu, h] at this; cases this
theorem OutOk.set {O : Nat → Option AO} {h : TH} {H : Heap} {n b : Nat} {o' : AO} (ho : OutOk O h H n) (hb : h.get b = some o') (f : Nat) (o : AO) : OutOk O (Tr.setT (some o) f h b) (hset H b o) n := by
  intro c oc hc
  obtain ⟨k1, k2, k3⟩ := ho c oc hc
  have hne : c ≠ b := by intro e; subst e; rw [hb] at k2; cases k2
  exact ⟨k1, Tr.get_setT_none hne k2, by rw [hget_hset, if_neg (fun e => hne e.symm)]; exact k3⟩
theorem OutOk.del {O : Nat → Option AO} {h : TH} {H : Heap} {n b : Nat} {o' : AO} (ho : OutOk O h H n) (hb : h.get b = some o') (f : Nat) : OutOk O (Tr.setT none f h b) (hdel H b) n := by
  intro c oc hc
  obtain ⟨k1, k2, k3⟩ := ho c oc hc
  have hne : c ≠ b := by intro e; subst e; rw [hb] at k2; cases k2
  exact ⟨k1, Tr.get_setT_none hne k2, by rw [hget_hdel, if_neg (fun e => hne e.symm)]; exact k3⟩
theorem nxX_cases {h : TH} {b : Nat} {k : AV → TH → EX} (hr : nxX h b .fail k ≠ .fail) : ∃ (mb since last ck : Nat) (seen sts : List Nat) (es : List (AV × AV)), h.get b = some (.mit mb since seen last) ∧ h.get mb = some (.map es sts ck) ∧ sts.length = es.length ∧ (∀ s ∈ sts, s < since) ∧ since ≤ last ∧
    ((leftOnes es sts seen = [] ∧ nxX h b .fail k = k (.tup [.bool false]) h) ∨ ∃ q x s, leftOnes es sts seen = [(q, x, s)] ∧ nxX h b .fail k = k (.tup [.bool true, q, x]) (Tr.setT (some (.mit mb since (seen ++ [s]) ck)) 24 h b)) := by
  unfold nxX at hr ⊢
  split at hr
  · rename_i mb since seen last h1
    try simp only [h1]
    split at hr
    · rename_i es sts ck h2
      try simp only [h2]
      split at hr
      · rename_i hc
        simp only [Bool.and_eq_true, List.all_eq_true] at hc
        have hl := Nat.eq_of_beq_eq_true hc.1.1
        rw [lenL_eq, lenL_eq] at hl
        refine ⟨mb, since, last, ck, seen, sts, es, rfl, h2, by omega, fun s hs => Nat.le_of_ble_eq_true (hc.1.2 s hs), Nat.le_of_ble_eq_true hc.2, ?_⟩
        split at hr
        · rename_i hlo
          left; exact ⟨hlo, by first | rfl | simp only [hlo]⟩
        · rename_i q x s hlo
          right; exact ⟨q, x, s, hlo, by simp only [hlo, Tr.set_eq]⟩
        · exact absurd rfl hr
      · exact absurd rfl hr
    · exact absurd rfl hr
  · exact absurd rfl hr
section
variable {P : Program} {ro : Option Nat} {N : Nat} {c : Calls'} (hc : COk P c)
include hc
theorem xS_sound {own : Nat → Bool} {O : Nat → Option AO} {ys : List YI} (hy : YsOk P O ys) {dl : List Nat} : ∀ (ss : List AStep) (e : TE) (h : TH) (n : Nat) (st : ASt), Sim O e h n dl st → xS c ys dl ss e h n ≠ .fail → AWs P own ro N ss (EXR O (xS c ys dl ss e h n)) st
  | [], e, h, n, st, hs, hr => AWs_nil hs
  | ⟨d, g, act⟩ :: r, e, h, n, st, hs, hr => by
    simp only [xS] at hr ⊢
    cases hg : guardE e g with
    | none => rw [hg] at hr; exact absurd rfl hr
    | some b =>
      simp only [hg] at hr ⊢
      cases b with
      | false =>
        simp only [putE_eq] at hr ⊢
        refine AWs_skip (guardE_sound hs hg) ?_
        exact xS_sound hy r _ _ _ _ (hs.let d (.tup [])) hr
      | true =>
        simp only at hr ⊢
        cases act with
        | callZ fo xs => exact absurd rfl hr
        | op ao =>
          simp only at hr ⊢
          obtain ⟨out, h', n', H', e1, e2, e3, e4⟩ := xOp_sound hs hr
          rw [e2] at hr ⊢
          cases out with
          | val x =>
            simp only [frc_eq, putE_eq] at hr ⊢
            exact AWs_val (guardE_sound hs hg) e1 (xS_sound hy r _ _ _ _ (hs.put d x e3 e4) hr)
          | skip =>
            simp only [putE_eq] at hr ⊢
            exact AWs_skp (guardE_sound hs hg) e1 (xS_sound hy r _ _ _ _ (hs.put d (.tup []) e3 e4) hr)
        | call fo xs =>
          have hn := hs.nx
          subst hn
          simp only at hr ⊢
          split at hr
          · rename_i f caps hf
            try simp only [hf]
            split at hr
            · rename_i vs hv
              try simp only [hv]
              have hne : c.call ys f (vs ++ caps) h st.nx ≠ .fail := by intro hx; rw [hx] at hr; exact hr rfl
              refine AWs_call (guardE_sound hs hg) (opE_sound hs hf) (opsE_sound hs hv) ?_
              refine (hc.call ys f (vs ++ caps) h _ hne O st.heap hy hs.heap hs.out).mono ?_
              intro ae H' m hxr
              rcases xRes_cases hr with ⟨y, h', n', e1, e2⟩ | ⟨y, h', n', e1, e2⟩
              · rw [e1] at hxr
                rw [e2] at hr ⊢
                cases ae <;> simp only [XRR] at hxr <;> first | exact hxr.elim | skip
                obtain ⟨rfl, rfl, k1, k2⟩ := hxr
                simp only [putE_eq] at hr ⊢
                exact xS_sound hy r _ _ _ _ (hs.put d _ k1 k2) hr
              · rw [e1] at hxr
                rw [e2]
                cases ae <;> simp only [XRR] at hxr <;> first | exact hxr.elim | skip
                obtain ⟨rfl, rfl, k1, k2⟩ := hxr
                exact ⟨rfl, hs.env, k1, rfl, hs.dm, k2⟩
            · exact absurd rfl hr
          · rename_i f fs caps hf
            try simp only [hf]
            split at hr
            · rename_i vs hv
              try simp only [hv]
              have hne : c.call ys f (fs ++ (vs ++ caps)) h st.nx ≠ .fail := by intro hx; rw [hx] at hr; exact hr rfl
              refine AWs_callB (guardE_sound hs hg) (opE_sound hs hf) (opsE_sound hs hv) ?_
              refine (hc.call ys f (fs ++ (vs ++ caps)) h _ hne O st.heap hy hs.heap hs.out).mono ?_
              intro ae H' m hxr
              rcases xRes_cases hr with ⟨y, h', n', e1, e2⟩ | ⟨y, h', n', e1, e2⟩
              · rw [e1] at hxr
                rw [e2] at hr ⊢
                cases ae <;> simp only [XRR] at hxr <;> first | exact hxr.elim | skip
                obtain ⟨rfl, rfl, k1, k2⟩ := hxr
                simp only [putE_eq] at hr ⊢
                exact xS_sound hy r _ _ _ _ (hs.put d _ k1 k2) hr
              · rw [e1] at hxr
                rw [e2]
                cases ae <;> simp only [XRR] at hxr <;> first | exact hxr.elim | skip
                obtain ⟨rfl, rfl, k1, k2⟩ := hxr
                exact ⟨rfl, hs.env, k1, rfl, hs.dm, k2⟩
            · exact absurd rfl hr
          · rename_i b hf
            try simp only [hf]
            split at hr
            · rename_i y hfy
              try simp only [hfy]
              obtain ⟨hmem, rfl⟩ := findY_some hfy
              split at hr
              · rename_i vs hv
                try simp only [hv]
                have hne : c.yld ys y vs h st.nx ≠ .fail := by intro hx; rw [hx] at hr; exact hr rfl
                refine AWs_yield (guardE_sound hs hg) (opE_sound hs hf) (opsE_sound hs hv) ?_
                refine (hc.yld ys y vs h _ hne hmem O st.heap hy hs.heap hs.out).mono ?_
                intro ae H' m hxr
                rcases xRes_cases hr with ⟨y, h', n', e1, e2⟩ | ⟨y, h', n', e1, e2⟩
                · rw [e1] at hxr
                  rw [e2] at hr ⊢
                  cases ae <;> simp only [XRR] at hxr <;> first | exact hxr.elim | skip
                  obtain ⟨rfl, rfl, k1, k2⟩ := hxr
                  simp only [putE_eq] at hr ⊢
                  exact xS_sound hy r _ _ _ _ (hs.put d _ k1 k2) hr
                · rw [e1] at hxr
                  rw [e2]
                  cases ae <;> simp only [XRR] at hxr <;> first | exact hxr.elim | skip
                  obtain ⟨rfl, rfl, k1, k2⟩ := hxr
                  exact ⟨rfl, hs.env, k1, rfl, hs.dm, k2⟩
              · exact absurd rfl hr
            · exact absurd rfl hr
          · rename_i t x hf
            try simp only [hf]
            split at hr
            · rename_i hm
              try simp only [hm]
              obtain rfl := isPanM_eq hm
              exact AWs_panic (guardE_sound hs hg) (opE_sound hs hf) ⟨rfl, hs⟩
            · exact absurd rfl hr
          · rename_i b hf
            try simp only [hf]
            split at hr
            · rename_i hm
              try simp only [hm]
              obtain rfl := isNxM_eq hm
              obtain ⟨mb, since, last, ck, seen, sts, es, k1, k2, k3, k4, k5, k6⟩ := nxX_cases hr
              refine AWs_next (guardE_sound hs hg) (opE_sound hs hf) (hs.heap _ _ k1) (hs.heap _ _ k2) k4 k5 (fun hall => ?_) fun i k x s q1 q2 q3 => ?_
              · rcases k6 with ⟨k6, k7⟩ | ⟨q, x, s, k6, k7⟩
                · rw [k7] at hr ⊢
                  simp only [putE_eq] at hr ⊢
                  exact xS_sound hy r _ _ _ _ (hs.let d _) hr
                · exfalso
                  have hm : (q, x, s) ∈ leftOnes es sts seen := by rw [k6]; simp
                  exact leftOnes_not hm (hall s (leftOnes_sts hm))
              · have hm := leftOnes_mem q1 q2 q3
                rcases k6 with ⟨k6, k7⟩ | ⟨q, x', s', k6, k7⟩
                · rw [k6] at hm; simp at hm
                · rw [k6] at hm
                  simp only [List.mem_singleton, Prod.mk.injEq] at hm
                  obtain ⟨rfl, rfl, rfl⟩ := hm
                  rw [k7] at hr ⊢
                  simp only [putE_eq] at hr ⊢
                  have hsn := hs.put (n' := st.nx) d (.tup [.bool true, k, x]) (hs.heap.set 24 b (.mit mb since (seen ++ [s]) ck)) (hs.out.set k1 24 _)
                  exact xS_sound hy r _ _ _ _ hsn hr
            · exact absurd rfl hr
          · exact absurd rfl hr
end
end Go.Ab
