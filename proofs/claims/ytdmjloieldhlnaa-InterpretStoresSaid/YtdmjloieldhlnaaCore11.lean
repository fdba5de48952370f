/- Code over abstract states: what is claimed of a piece of code, and the rules. -/
import Derived.Test.YtdmjloieldhlnaaCore10
import Derived.RangeFuncMany
import Derived.RangeFuncLeaves
namespace Go.Ab
open Go.RowKit
set_option linter.unusedVariables false
set_option linter.unusedSimpArgs false

/-- A step of a region: an operation, or a call of a function value. -/
inductive AAct where
  | op (o : AOp)
  | call (f : Operand) (args : List Operand)
  deriving Inhabited
structure AStep where
  dst : Option Tmp
  guard : Option (Tmp × Bool)
  act : AAct
  deriving Inhabited
/-- A step of a region that draws its order: its number, and which ones before it may come behind it. -/
structure DStep where
  i : Nat
  s : AStep
  late : List Nat
  deriving Inhabited
inductive ACode where
  | skip
  | region (ops : List AStep)
  | dregion (ops : List DStep)
  | seq (a b : ACode)
  | cond (c : Operand) (t e : ACode)
  | block (id : Nat) (b : ACode)
  | loop (b : ACode)
  | exit (id : Nat)
  | ret
  | label
  | rangeF (g : Operand) (ps : Array Tmp) (as bd : ACode)
  deriving Inhabited

def compileGuard (ops : Array Oper) (o : Oper) : Option (Option (Tmp × Bool)) :=
  match o.guard with
  | none => some none
  | some (j, b) => ((ops[j]?).bind (·.dst)).map fun t => some (t, b)
def compileAct (P : Program) (own : Bool) (o : Oper) : Option AAct :=
  match compileOp P own o with
  | some x => some (.op x)
  | none => match o.op with
    | .call c => (match c.callee with
      | .value f => some (.call f c.args.toList)
      | _ => none)
    | _ => none
def compileStep (P : Program) (own : Bool) (N : Nat) (ops : Array Oper) (o : Oper) : Option AStep :=
  match compileGuard ops o, compileAct P own o with
  | some g, some x => (match o.dst with
    | none => some ⟨none, g, x⟩
    | some d => if d < N then some ⟨some d, g, x⟩ else none)
  | _, _ => none
def compileSteps (P : Program) (own : Nat → Bool) (N : Nat) (ops : Array Oper) : Nat → List Oper → Option (List AStep)
  | _, [] => some []
  | i, o :: r => match compileStep P (own i) N ops o, compileSteps P own N ops (i + 1) r with
    | some x, some xs => some (x :: xs)
    | _, _ => none
/-! ### Regions that draw their order -/
def AOp.opnds : AOp → List Operand
  | .move x => [x]
  | .pick c a b => [c, a, b]
  | .alloc _ => []
  | .box x => [x]
  | .build _ ps => ps.map (·.2.2)
  | .buildF _ _ ps => ps.map (·.2)
  | .buildO _ _ _ ps => ps.map (·.2)
  | .load _ _ x => [x]
  | .store _ p x => [p, x]
  | .nilck x => [x]
  | .bin _ x y => [x, y]
  | .eqS _ _ x y => [x, y]
  | .eqN _ _ x => [x]
  | .eqB _ x y => [x, y]
  | .un _ x => [x]
  | .conv _ x => [x]
  | .mkif _ x => [x]
  | .mkfn _ cs => cs
  | .mksl _ _ _ l c => [l, c]
  | .slc _ x lo hi top => x :: (lo.toList ++ (hi.toList ++ top.toList))
  | .slcs x lo hi => x :: (lo.toList ++ hi.toList)
  | .fieldA _ x => [x]
  | .field _ _ _ x => [x]
  | .idxA _ x i => [x, i]
  | .idxR _ _ x i => [x, i]
  | .idx _ _ _ x i => [x, i]
  | .idxs x i => [x, i]
  | .ext x _ => [x]
  | .len x => [x]
  | .lens x => [x]
  | .convS x => [x]
  | .convBS x => [x]
  | .mn x y => [x, y]
  | .mx x y => [x, y]
  | .app _ _ _ s x => [s, x]
  | .appZ _ _ _ s n => [s, n]
  | .cap x => [x]
  | .copy _ d x => [d, x]
  | .clear _ x => [x]
  | .ovl x y => [x, y]
  | .bad => []
/-- Neither reads nor writes the call's own blocks. -/
def AOp.quiet : AOp → Bool
  | .move _ | .pick .. | .build .. | .buildF .. | .nilck _ | .bin .. | .eqS .. | .eqN .. | .eqB .. | .un .. | .conv .. | .mkif .. | .mkfn .. | .slc .. | .slcs .. | .fieldA .. | .field .. | .idxA .. | .idxR .. | .idx .. | .idxs .. | .ext .. | .len _ | .lens _ | .convS _ | .mn .. | .mx .. | .cap _ => true
  | _ => false
def AOp.isLoad : AOp → Bool
  | .load .. => true
  | _ => false
def AAct.opnds : AAct → List Operand
  | .op o => o.opnds
  | .call f xs => f :: xs
/-- It may change the call's own blocks. -/
def AAct.isW : AAct → Bool
  | .op o => !o.quiet && !o.isLoad
  | .call .. => true
def AStep.looks (s : AStep) (t : Tmp) : Bool :=
  s.act.opnds.any (fun | .tmp u => u == t | _ => false) || (match s.guard with | some (g, _) => g == t | none => false)
/-- The second comes behind the first, in each order. -/
def before (ms : List Nat) (i j : Nat) : Bool := (ms.getD i 0).testBit j
def maskOf (ms : List Nat) : List Edge → Option Nat
  | [] => some 0
  | e :: r => match maskOf ms r with
    | none => none
    | some m => if Region.binds .any e then (match ms[e.on]? with
      | some k => some (m ||| k ||| (1 <<< e.on))
      | none => none) else some m
def masks : List Oper → List Nat → Option (List Nat)
  | [], ms => some ms
  | o :: r, ms => match maskOf ms o.after.toList with
    | some m => masks r (ms ++ [m])
    | none => none
/-- Must the second come behind the first? -/
def DStep.dep (d e : DStep) : Bool :=
  d.s.act.isW || (match d.s.dst with | some t => e.s.looks t || e.s.dst == some t | none => false) || (match e.s.dst with | some t => d.s.looks t | none => false) || (e.s.act.isW && !e.late.contains d.i)
def pairB (ms : List Nat) (d e : DStep) : Bool := d.i != e.i && (!d.dep e || before ms e.i d.i)
def pairsB (ms : List Nat) : List DStep → Bool
  | [] => true
  | d :: r => r.all (pairB ms d) && pairsB ms r
def firstB (p : Nat → Bool) : List Nat → Option Nat
  | [] => none
  | i :: r => if p i then some i else firstB p r
/-- An order: what changes the call's own blocks comes as late as it may. -/
def orderD (ms : List Nat) (w : Nat → Bool) : Nat → Nat → List Nat → List Nat
  | 0, _, _ => []
  | n + 1, done, pend =>
    match firstB (fun i => !w i && (ms.getD i 0 ||| done) == done) pend with
    | some i => i :: orderD ms w n (done ||| (1 <<< i)) (pend.erase i)
    | none => match firstB (fun i => (ms.getD i 0 ||| done) == done) pend with
      | some i => i :: orderD ms w n (done ||| (1 <<< i)) (pend.erase i)
      | none => []
def lateOf (ms : List Nat) (w : Nat → Bool) (i : Nat) (old : List Nat) : List Nat := if w i then old.filter fun j => !before ms i j && !w j else []
def compileD (P : Program) (own : Nat → Bool) (N : Nat) (ops : Array Oper) : Option (List DStep) :=
  match compileSteps P own N ops 0 ops.toList, masks ops.toList [] with
  | some ss, some ms =>
    let w := fun i => (ss.getD i default).act.isW
    let ord := orderD ms w ops.size 0 (List.range ops.size)
    let L := ord.map fun i => DStep.mk i (ss.getD i default) (lateOf ms w i (ord.takeWhile (· != i)))
    if ord.all (· < ops.size) && (List.range ops.size).all (fun i => ord.contains i) && pairsB ms L then some L else none
  | _, _ => none

def compile (P : Program) (own : Nat → Nat → Bool) (N : Nat) : Code → Option ACode
  | .skip => some .skip
  | .region id ops false => (compileSteps P (own id) N ops 0 ops.toList).map .region
  | .region id ops true => (compileD P (own id) N ops).map .dregion
  | .seq a b => match compile P own N a, compile P own N b with
    | some x, some y => some (.seq x y)
    | _, _ => none
  | .cond c a b => match compile P own N a, compile P own N b with
    | some x, some y => some (.cond c x y)
    | _, _ => none
  | .block id b => (compile P own N b).map (.block id)
  | .loop b => (compile P own N b).map .loop
  | .exit id => some (.exit id)
  | .ret => some .ret
  | .label _ => some .label
  | .rangeFunc g ps a b => match compile P own N a, compile P own N b with
    | some x, some y => some (.rangeF g ps x y)
    | _, _ => none
  | _ => none

/-- An abstract state: the temporaries that are known, the blocks of the call's own, the next number, the marks among the deferred calls. -/
structure ASt where
  env : Env
  heap : Heap
  nx : Nat
  dm : List Nat := []
  deriving Inhabited

inductive AX where
  | normal
  | exit (id : Nat)
  | ret
  | panic (x : AV)

def marks (K : Wd) (dm : List Nat) : List Deferred := dm.map fun b => { target := .collected (K.m b), args := #[] }

/-- The model's state is as the abstract one says. -/
structure StR (w0 : World) (N : Nat) (K : Wd) (st : ASt) (a : Act) : Prop where
  good : Good w0 K st.heap st.nx
  env : EnvR K st.nx st.env a.tmps
  size : a.tmps.size = N
  defers : a.defers = marks K st.dm
  dm : ∀ b ∈ st.dm, b < st.nx

def AXR (K : Wd) (nx : Nat) : AX → Exit → Prop
  | .normal, .normal => True
  | .exit i, .exit j => i = j
  | .ret, .ret => True
  | .panic x, .panic ch => ∃ v, ch = [{ v, recovered := false }] ∧ VR K nx x v
  | _, _ => False

/-- The post-condition of the model's code. -/
def Post (w0 : World) (N : Nat) (K : Wd) (nx : Nat) (Q : AX → ASt → Prop) (e : Exit) (a : Act) (w : World) : Prop :=
  ∃ K' st' x, K'.w = w ∧ Ext K nx K' st'.nx ∧ StR w0 N K' st' a ∧ AXR K' st'.nx x e ∧ Q x st'

/-- From each state of the model that is as 'st' says, the code comes to an end at which Q holds. -/
def AW (P : Program) (own : Nat → Nat → Bool) (ro : Option Nat) (N : Nat) (ac : ACode) (Q : AX → ASt → Prop) (st : ASt) : Prop :=
  ∀ (c : Code), compile P own N c = some ac → ∀ (w0 : World) (K : Wd) (a : Act), StR w0 N K st a → c.wpIn { Fence.wide with round := ro } 0 P (Post w0 N K st.nx Q) a K.w

section
variable {P : Program} {own : Nat → Nat → Bool} {ro : Option Nat} {N : Nat} {Q : AX → ASt → Prop} {st : ASt}

theorem Post.mono {w0 : World} {K : Wd} {nx : Nat} {Q' : AX → ASt → Prop} (hq : ∀ x s, Q x s → Q' x s) {e : Exit} {a : Act} {w : World} (h : Post w0 N K nx Q e a w) : Post w0 N K nx Q' e a w :=
  let ⟨K', st', x, h1, h2, h3, h4, h5⟩ := h; ⟨K', st', x, h1, h2, h3, h4, hq _ _ h5⟩
theorem Post.of_ext {w0 : World} {K K1 : Wd} {nx nx1 : Nat} (he : Ext K nx K1 nx1) {e : Exit} {a : Act} {w : World} (h : Post w0 N K1 nx1 Q e a w) : Post w0 N K nx Q e a w :=
  let ⟨K', st', x, h1, h2, h3, h4, h5⟩ := h; ⟨K', st', x, h1, he.trans h2, h3, h4, h5⟩

theorem AW.mono {ac : ACode} {Q' : AX → ASt → Prop} (h : AW P own ro N ac Q st) (hq : ∀ x s, Q x s → Q' x s) : AW P own ro N ac Q' st :=
  fun c hc w0 K a hs => wpIn_mono (h c hc w0 K a hs) fun e a w hp => hp.mono hq

/-- Less is known, more numbers are used. -/
structure ASt.le (st st' : ASt) : Prop where
  env : ∀ t x, eget st'.env t = some x → eget st.env t = some x
  heap : ∀ b o, hget st'.heap b = some o → hget st.heap b = some o
  nx : st.nx ≤ st'.nx
  dm : st'.dm = st.dm
theorem StR.weaken {w0 : World} {K : Wd} {a : Act} {st' : ASt} (h : StR w0 N K st a) (hl : st.le st') : StR w0 N K st' a :=
  ⟨h.good.weaken hl.nx hl.heap, fun t x hx => let ⟨v, h1, h2⟩ := h.env t x (hl.env t x hx); ⟨v, h1, h2.mono (Ext.more K hl.nx)⟩, h.size, by rw [hl.dm]; exact h.defers, fun b hb => Nat.lt_of_lt_of_le (h.dm b (by rw [← hl.dm]; exact hb)) hl.nx⟩
theorem AW.weaken {ac : ACode} {st' : ASt} (hl : st.le st') (h : AW P own ro N ac Q st') : AW P own ro N ac Q st :=
  fun c hc w0 K a hs => wpIn_mono (h c hc w0 K a (hs.weaken hl)) fun e a w hp => hp.of_ext (Ext.more K hl.nx)

end

section
variable {P : Program} {own : Nat → Nat → Bool} {N : Nat} {c : Code}
theorem inv_skip (h : compile P own N c = some .skip) : c = .skip := by
  unfold compile at h
  split at h <;> first | rfl | (cases h; done) | (split at h <;> cases h; done) | (simp at h; done)
theorem inv_region {ops : List AStep} (h : compile P own N c = some (.region ops)) : ∃ id os, c = .region id os false ∧ compileSteps P (own id) N os 0 os.toList = some ops := by
  unfold compile at h
  split at h <;> first | (cases h; done) | (split at h <;> cases h; done) | skip
  · rename_i id os
    obtain ⟨x, hx, he⟩ := Option.map_eq_some_iff.1 h
    cases he
    exact ⟨id, os, rfl, hx⟩
  all_goals simp at h
theorem inv_seq {x y : ACode} (h : compile P own N c = some (.seq x y)) : ∃ a b, c = .seq a b ∧ compile P own N a = some x ∧ compile P own N b = some y := by
  unfold compile at h
  split at h <;> first | (cases h; done) | (simp at h; done) | skip
  · split at h
    · rename_i h1 h2; cases h; exact ⟨_, _, rfl, h1, h2⟩
    · cases h
  · split at h <;> cases h
  · split at h <;> cases h
theorem inv_cond {o : Operand} {x y : ACode} (h : compile P own N c = some (.cond o x y)) : ∃ a b, c = .cond o a b ∧ compile P own N a = some x ∧ compile P own N b = some y := by
  unfold compile at h
  split at h <;> first | (cases h; done) | (simp at h; done) | skip
  · split at h <;> cases h
  · split at h
    · rename_i h1 h2; cases h; exact ⟨_, _, rfl, h1, h2⟩
    · cases h
  · split at h <;> cases h
theorem inv_rangeF {g : Operand} {ps : Array Tmp} {x y : ACode} (h : compile P own N c = some (.rangeF g ps x y)) : ∃ a b, c = .rangeFunc g ps a b ∧ compile P own N a = some x ∧ compile P own N b = some y := by
  unfold compile at h
  split at h <;> first | (cases h; done) | (simp at h; done) | skip
  · split at h <;> cases h
  · split at h <;> cases h
  · split at h
    · rename_i h1 h2; cases h; exact ⟨_, _, rfl, h1, h2⟩
    · cases h
theorem inv_block {id : Nat} {x : ACode} (h : compile P own N c = some (.block id x)) : ∃ a, c = .block id a ∧ compile P own N a = some x := by
  unfold compile at h
  split at h <;> first | (cases h; done) | (split at h <;> cases h; done) | skip
  all_goals try (simp at h; done)
  · obtain ⟨x, hx, he⟩ := Option.map_eq_some_iff.1 h
    cases he
    exact ⟨_, rfl, hx⟩
theorem inv_loop {x : ACode} (h : compile P own N c = some (.loop x)) : ∃ a, c = .loop a ∧ compile P own N a = some x := by
  unfold compile at h
  split at h <;> first | (cases h; done) | (split at h <;> cases h; done) | skip
  all_goals try (simp at h; done)
  · obtain ⟨x, hx, he⟩ := Option.map_eq_some_iff.1 h
    cases he
    exact ⟨_, rfl, hx⟩
theorem inv_exit {id : Nat} (h : compile P own N c = some (.exit id)) : c = .exit id := by
  unfold compile at h
  split at h <;> first | (cases h; rfl) | (cases h; done) | (split at h <;> cases h; done) | (simp at h; done)
theorem inv_ret (h : compile P own N c = some .ret) : c = .ret := by
  unfold compile at h
  split at h <;> first | rfl | (cases h; done) | (split at h <;> cases h; done) | (simp at h; done)
theorem inv_label (h : compile P own N c = some .label) : ∃ l, c = .label l := by
  unfold compile at h
  split at h <;> first | exact ⟨_, rfl⟩ | (cases h; done) | (split at h <;> cases h; done) | (simp at h; done)
end

section
variable {P : Program} {own : Nat → Nat → Bool} {ro : Option Nat} {N : Nat} {Q : AX → ASt → Prop} {st : ASt}

theorem AW_skip (h : Q .normal st) : AW P own ro N .skip Q st := by
  intro c hc w0 K a hs
  cases inv_skip hc
  exact wpIn_skip ⟨K, st, .normal, rfl, Ext.refl _ _, hs, trivial, h⟩
theorem AW_label (h : Q .normal st) : AW P own ro N .label Q st := by
  intro c hc w0 K a hs
  obtain ⟨l, rfl⟩ := inv_label hc
  exact wpIn_label ⟨K, st, .normal, rfl, Ext.refl _ _, hs, trivial, h⟩
theorem AW_exit {id : Nat} (h : Q (.exit id) st) : AW P own ro N (.exit id) Q st := by
  intro c hc w0 K a hs
  cases inv_exit hc
  exact wpIn_exit ⟨K, st, .exit id, rfl, Ext.refl _ _, hs, rfl, h⟩
theorem AW_ret (h : Q .ret st) : AW P own ro N .ret Q st := by
  intro c hc w0 K a hs
  cases inv_ret hc
  exact wpIn_ret ⟨K, st, .ret, rfl, Ext.refl _ _, hs, trivial, h⟩

/-- What stands behind a piece that ends normally. -/
def AX.then (K : ASt → Prop) (Q : AX → ASt → Prop) : AX → ASt → Prop
  | .normal, s => K s
  | x, s => Q x s

theorem AW_seq {x y : ACode} (h : ∀ K : ASt → Prop, (∀ s, AW P own ro N y Q s → K s) → AW P own ro N x (AX.then K Q) st) : AW P own ro N (.seq x y) Q st := by
  intro c hc w0 K a hs
  obtain ⟨c1, c2, rfl, h1, h2⟩ := inv_seq hc
  refine wpIn_seq (wpIn_mono (h _ (fun s h => h) c1 h1 w0 K a hs) ?_)
  rintro e a' w' ⟨K', st', x', rfl, hext, hs', hx, hq⟩
  cases x' with
  | normal =>
    cases e <;> simp only [AXR] at hx <;> first | exact hx.elim | skip
    exact wpIn_mono (hq c2 h2 w0 K' a' hs') fun e a w hp => hp.of_ext hext
  | exit i =>
    cases e <;> simp only [AXR] at hx <;> first | exact hx.elim | skip
    exact ⟨K', st', .exit i, rfl, hext, hs', hx, hq⟩
  | ret =>
    cases e <;> simp only [AXR] at hx <;> first | exact hx.elim | skip
    exact ⟨K', st', .ret, rfl, hext, hs', hx, hq⟩
  | panic v =>
    cases e <;> simp only [AXR] at hx <;> first | exact hx.elim | skip
    exact ⟨K', st', .panic v, rfl, hext, hs', hx, hq⟩

theorem AW_cond {o : Operand} {x y : ACode} {b : Bool} (hb : oev st.env o = some (.bool b)) (h : AW P own ro N (if b then x else y) Q st) : AW P own ro N (.cond o x y) Q st := by
  intro c hc w0 K a hs
  obtain ⟨c1, c2, rfl, h1, h2⟩ := inv_cond hc
  have hv := oev_sound hs.env hb
  generalize hcv : a.eval o = cv at hv
  cases hv
  cases b
  · exact wpIn_cond hcv (h c2 h2 w0 K a hs)
  · exact wpIn_cond hcv (h c1 h1 w0 K a hs)
theorem AW_cond_split {o : Operand} {x y : ACode} {b : Bool} (hb : oev st.env o = some (.bool b)) (ht : b = true → AW P own ro N x Q st) (hf : b = false → AW P own ro N y Q st) : AW P own ro N (.cond o x y) Q st := by
  refine AW_cond hb ?_
  cases b
  · exact hf rfl
  · exact ht rfl

def AX.inBlock (id : Nat) (Q : AX → ASt → Prop) : AX → ASt → Prop
  | .exit i, s => if i = id then Q .normal s else Q (.exit i) s
  | x, s => Q x s
theorem AW_block {id : Nat} {x : ACode} (h : AW P own ro N x (AX.inBlock id Q) st) : AW P own ro N (.block id x) Q st := by
  intro c hc w0 K a hs
  obtain ⟨c1, rfl, h1⟩ := inv_block hc
  refine wpIn_block (wpIn_mono (h c1 h1 w0 K a hs) ?_)
  rintro e a' w' ⟨K', st', x', rfl, hext, hs', hx, hq⟩
  cases x' with
  | normal =>
    cases e <;> simp only [AXR] at hx <;> first | exact hx.elim | skip
    exact ⟨K', st', .normal, rfl, hext, hs', trivial, hq⟩
  | exit i =>
    cases e <;> simp only [AXR] at hx <;> first | exact hx.elim | skip
    rename_i j
    subst hx
    simp only [AX.inBlock] at hq
    simp only [Exit.inBlock]
    split
    · rename_i h2; rw [if_pos h2] at hq; exact ⟨K', st', .normal, rfl, hext, hs', trivial, hq⟩
    · rename_i h2; rw [if_neg h2] at hq; exact ⟨K', st', .exit i, rfl, hext, hs', rfl, hq⟩
  | ret =>
    cases e <;> simp only [AXR] at hx <;> first | exact hx.elim | skip
    exact ⟨K', st', .ret, rfl, hext, hs', hx, hq⟩
  | panic v =>
    cases e <;> simp only [AXR] at hx <;> first | exact hx.elim | skip
    exact ⟨K', st', .panic v, rfl, hext, hs', hx, hq⟩

theorem exists_least {p : Nat → Prop} (h : ∃ n, p n) : ∃ n, p n ∧ ∀ m, p m → n ≤ m := by
  obtain ⟨n, hn⟩ := h
  induction n using Nat.strongRecOn with
  | _ n ih =>
    by_cases h : ∃ m, m < n ∧ p m
    · obtain ⟨m, hm, hp⟩ := h
      exact ih m hm hp
    · exact ⟨n, hn, fun m hm => Nat.le_of_not_lt fun hlt => h ⟨m, hlt, hm⟩⟩
noncomputable def leastOf (p : Nat → Prop) : Nat := by
  classical
  exact if h : ∃ n, p n then Classical.choose (exists_least h) else 0
theorem leastOf_spec {p : Nat → Prop} (h : ∃ n, p n) : p (leastOf p) ∧ ∀ m, p m → leastOf p ≤ m := by
  classical
  unfold leastOf
  rw [dif_pos h]
  exact Classical.choose_spec (exists_least h)

/-- A loop: what holds at each round's head, with a number that each round lowers. -/
theorem AW_loop {x : ACode} (I : Nat → ASt → Prop) {n : Nat} (h0 : I n st)
    (round : ∀ n s, I n s → AW P own ro N x (AX.then (fun s' => ∃ m, m < n ∧ I m s') Q) s) : AW P own ro N (.loop x) Q st := by
  intro c hc w0 K a hs
  obtain ⟨c1, rfl, h1⟩ := inv_loop hc
  obtain ⟨R, hR⟩ : ∃ R : Nat → Act → World → Prop, R = fun n a1 w1 => ∃ st1 K1, K1.w = w1 ∧ I n st1 ∧ Ext K st.nx K1 st1.nx ∧ StR w0 N K1 st1 a1 := ⟨_, rfl⟩
  refine wpIn_loop (fun a1 w1 => ∃ n, R n a1 w1) (fun a1 w1 => leastOf fun n => R n a1 w1) ⟨n, by rw [hR]; exact ⟨st, K, rfl, h0, Ext.refl _ _, hs⟩⟩ ?_
  intro a1 w1 hex
  obtain ⟨hl, hmin⟩ := leastOf_spec hex
  generalize leastOf (fun n => R n a1 w1) = n1 at hl hmin ⊢
  rw [hR] at hl
  obtain ⟨st1, K1, rfl, hI, hext, hs1⟩ := hl
  refine wpIn_mono (round n1 st1 hI c1 h1 w0 K1 a1 hs1) ?_
  rintro e a' w' ⟨K', st', x', rfl, hext', hs', hx, hq⟩
  have he2 := hext.trans hext'
  cases x' with
  | normal =>
    cases e <;> simp only [AXR] at hx <;> first | exact hx.elim | skip
    obtain ⟨m, hm, hI'⟩ := hq
    have hrm : R m a' K'.w := by rw [hR]; exact ⟨st', K', rfl, hI', he2, hs'⟩
    exact ⟨⟨m, hrm⟩, Nat.lt_of_le_of_lt ((leastOf_spec ⟨m, hrm⟩).2 m hrm) hm⟩
  | exit i =>
    cases e <;> simp only [AXR] at hx <;> first | exact hx.elim | skip
    exact ⟨K', st', .exit i, rfl, he2, hs', hx, hq⟩
  | ret =>
    cases e <;> simp only [AXR] at hx <;> first | exact hx.elim | skip
    exact ⟨K', st', .ret, rfl, he2, hs', hx, hq⟩
  | panic v =>
    cases e <;> simp only [AXR] at hx <;> first | exact hx.elim | skip
    exact ⟨K', st', .panic v, rfl, he2, hs', hx, hq⟩

/-! ### Regions -/
/-- From each state of the model that is as 'st' says, the steps (the last ones of a region's) come to an end at which Q holds. -/
def AWs (P : Program) (own : Nat → Bool) (ro : Option Nat) (N : Nat) (ss : List AStep) (Q : AX → ASt → Prop) (st : ASt) : Prop :=
  ∀ (ops : Array Oper) (i : Nat) (os : List Oper), compileSteps P own N ops i os = some ss → ∀ (w0 : World) (K : Wd) (a : Act), StR w0 N K st a →
    wpListIn { Fence.wide with round := ro } 0 P ops (Post w0 N K st.nx Q) os a K.w

theorem AW_region {ss : List AStep} (h : ∀ id, AWs P (own id) ro N ss Q st) : AW P own ro N (.region ss) Q st := by
  intro c hc w0 K a hs
  obtain ⟨id, os, rfl, h1⟩ := inv_region hc
  refine wpIn_region ?_
  rw [List.range_eq_range', ← Array.length_toList, wpOpsIn_eq_wpListIn os.toList 0 (by simp)]
  exact h id os 0 os.toList h1 w0 K a hs
end

section
variable {P : Program} {own : Nat → Bool} {ro : Option Nat} {N : Nat} {Q : AX → ASt → Prop} {st : ASt}

theorem AWs_nil (h : Q .normal st) : AWs P own ro N [] Q st := by
  intro ops i os hc w0 K a hs
  cases os with
  | nil => exact wpListIn_nil ⟨K, st, .normal, rfl, Ext.refl _ _, hs, trivial, h⟩
  | cons o r => simp only [compileSteps] at hc; split at hc <;> cases hc

def guardOk (env : Env) : Option (Tmp × Bool) → Option Bool
  | none => some true
  | some (t, b) => match eget env t with
    | some (.bool c) => some (c == b)
    | some (.tup []) => some false
    | _ => none
def edel : Env → Nat → Env
  | [], _ => []
  | (i, x) :: r, t => if i = t then edel r t else (i, x) :: edel r t
theorem eget_edel (e : Env) (t u : Nat) : eget (edel e t) u = if t = u then none else eget e u := by
  induction e with
  | nil => simp [edel, eget]
  | cons p r ih =>
    obtain ⟨i, x⟩ := p
    simp only [edel]
    split
    · rename_i h; subst h; rw [ih]; simp only [eget]; split <;> rfl
    · rename_i h; simp only [eget, ih]; split
      · rename_i h2; subst h2; rw [if_neg (fun e => h e.symm)]
      · rfl
def setE (d : Option Tmp) (x : AV) (env : Env) : Env := match d with
  | none => env
  | some d => (d, x) :: env
/-- The step has been passed over, or has left nothing. -/
def dropE (d : Option Tmp) (env : Env) : Env := setE d (.tup []) env
theorem VR_undef (K : Wd) (nx : Nat) : VR K nx (.tup []) undef := .tup [] #[] rfl fun i x v hx => by simp at hx

theorem wanted_of {K : Wd} {nx : Nat} {env : Env} {a : Act} (he : EnvR K nx env a.tmps) {ops : Array Oper} {o : Oper} {g : Option (Tmp × Bool)} (hg : compileGuard ops o = some g) {b : Bool} (h : guardOk env g = some b) :
    Region.wanted o (yielded ops a.tmps) = b := by
  unfold compileGuard at hg
  unfold Region.wanted
  split at hg
  · rename_i hn; cases hg
    simp only [guardOk, Option.some.injEq] at h; subst h
    simp [hn]
  · rename_i j c hn
    obtain ⟨t, ht, rfl⟩ := Option.map_eq_some_iff.1 hg
    simp only [guardOk] at h
    split at h
    · rename_i b' hb
      simp only [Option.some.injEq] at h; subst h
      obtain ⟨v, h1, h2⟩ := he t _ hb
      cases h2
      simp [hn, yielded, ht, h1]
    · rename_i hb
      simp only [Option.some.injEq] at h; subst h
      obtain ⟨v, h1, h2⟩ := he t _ hb
      cases h2
      simp [hn, yielded, ht, h1]
    · cases h

theorem put_StR {w0 : World} {K K' : Wd} {st st' : ASt} {a : Act} (hs : StR w0 N K st a) (hext : Ext K st.nx K' st'.nx) (hg : Good w0 K' st'.heap st'.nx) {d : Option Tmp} (hd : ∀ t, d = some t → t < N) {x : AV} {v : Value} (hv : VR K' st'.nx x v)
    (he : st'.env = setE d x st.env) (hdm : st'.dm = st.dm) : StR w0 N K' st' (a.put d v) := by
  have hmk : marks K' st.dm = marks K st.dm := by
    unfold marks
    apply List.map_congr_left
    intro b hb
    rw [hext.m b (hs.dm b hb)]
  refine ⟨hg, ?_, ?_, ?_, fun b hb => Nat.lt_of_lt_of_le (hs.dm b (by rw [← hdm]; exact hb)) hext.le⟩
  · rw [he]
    cases d with
    | none => exact hs.env.mono hext
    | some t => exact (hs.env.mono hext).put (by rw [hs.size]; exact hd t rfl) hv
  · cases d <;> simp [Act.put, hs.size]
  · rw [hdm, hmk, ← hs.defers]; cases d <;> rfl
theorem drop_StR {w0 : World} {K K' : Wd} {st st' : ASt} {a : Act} (hs : StR w0 N K st a) (hext : Ext K st.nx K' st'.nx) (hg : Good w0 K' st'.heap st'.nx) {d : Option Tmp} (hd : ∀ t, d = some t → t < N) (he : st'.env = dropE d st.env) (hdm : st'.dm = st.dm) : StR w0 N K' st' (a.put d undef) :=
  put_StR hs hext hg hd (VR_undef K' st'.nx) he hdm

theorem inv_step {s : AStep} {ss : List AStep} {ops : Array Oper} {i : Nat} {os : List Oper} (h : compileSteps P own N ops i os = some (s :: ss)) :
    ∃ o r, os = o :: r ∧ compileSteps P own N ops (i + 1) r = some ss ∧ compileGuard ops o = some s.guard ∧ compileAct P (own i) o = some s.act ∧ o.dst = s.dst ∧ ∀ t, s.dst = some t → t < N := by
  cases os with
  | nil => simp [compileSteps] at h
  | cons o r =>
    simp only [compileSteps] at h
    split at h
    · rename_i h1 h2
      cases h
      unfold compileStep at h1
      split at h1
      · rename_i g x hg hx
        split at h1
        · rename_i hd; cases h1; exact ⟨o, r, rfl, h2, hg, hx, hd, fun t ht => by cases ht⟩
        · rename_i d hd
          split at h1
          · rename_i hlt; cases h1; exact ⟨o, r, rfl, h2, hg, hx, hd, fun t ht => by cases ht; exact hlt⟩
          · cases h1
      · cases h1
    · cases h

theorem AWs_skip {s : AStep} {ss : List AStep} (hg : guardOk st.env s.guard = some false) (h : AWs P own ro N ss Q { st with env := dropE s.dst st.env }) : AWs P own ro N (s :: ss) Q st := by
  intro ops i os hc w0 K a hs
  obtain ⟨o, r, rfl, h1, h2, h3, h4, h5⟩ := inv_step hc
  have hw := wanted_of hs.env h2 hg
  simp only [wpListIn, hw, Bool.false_eq_true, if_false]
  refine ⟨fun f _ => trivial, ?_⟩
  rw [h4]
  exact h ops _ r h1 w0 K _ (drop_StR (st' := { st with env := dropE s.dst st.env }) hs (Ext.refl _ _) hs.good h5 rfl rfl)

theorem uponIn_mono {F : Fence} {n : Nat} {o : Oper} {a : Act} {next next' : Act → World → Prop} {Q1 Q2 : Exit → Act → World → Prop} (hn : ∀ a w, next a w → next' a w) (hq : ∀ e a w, Q1 e a w → Q2 e a w) {r : Result Next}
    (h : o.uponIn F n P a next Q1 r) : o.uponIn F n P a next' Q2 r := by
  unfold Oper.uponIn at h ⊢
  split at h
  · exact hn _ _ h
  · exact hn _ _ h
  · exact hn _ _ h
  · refine ⟨h.1, h.2.mono fun e w' hr => ?_⟩
    cases e with
    | returned v => exact hn _ _ hr
    | panicked ch => exact hq _ _ _ hr
    | outgrown => obtain ⟨a0, w0, hq0⟩ := hr; exact ⟨a0, w0, hq _ _ _ hq0⟩
  · exact ⟨h.1, h.2.mono fun v w' hr => hn _ _ hr⟩
  · refine ⟨h.1, h.2.mono fun e w' hr => ?_⟩
    cases e with
    | returned v => exact hn _ _ hr
    | panicked ch => exact hq _ _ _ hr
    | outgrown => obtain ⟨a0, w0, hq0⟩ := hr; exact ⟨a0, w0, hq _ _ _ hq0⟩
  · exact hq _ _ _ h
  · exact h.elim

theorem wpListIn_mono {F : Fence} {n : Nat} {ops : Array Oper} {Q1 Q2 : Exit → Act → World → Prop} (hq : ∀ e a w, Q1 e a w → Q2 e a w) : ∀ (l : List Oper) (a : Act) (w : World), wpListIn F n P ops Q1 l a w → wpListIn F n P ops Q2 l a w
  | [], a, w, h => hq _ _ _ h
  | o :: l, a, w, h => by
    simp only [wpListIn] at h ⊢
    split
    · rename_i hw
      rw [if_pos hw] at h
      exact ⟨h.1, uponIn_mono (fun a w hh => wpListIn_mono hq l a w hh) hq h.2⟩
    · rename_i hw
      rw [if_neg hw] at h
      exact ⟨h.1, wpListIn_mono hq l _ _ h.2⟩

theorem act_op {o : Oper} {i : Nat} {ao : AOp} (h3 : compileAct P (own i) o = some (.op ao)) : compileOp P (own i) o = some ao := by
  unfold compileAct at h3
  split at h3
  · rename_i x hx; cases h3; exact hx
  · split at h3
    · split at h3 <;> cases h3
    · cases h3

theorem AWs_val {d : Option Tmp} {g : Option (Tmp × Bool)} {ao : AOp} {ss : List AStep} {x : AV} {h' : Heap} {nx' : Nat} (hg : guardOk st.env g = some true) (hev : opEv ao st.env st.heap st.nx = some (.val x, h', nx'))
    (h : AWs P own ro N ss Q { st with env := setE d x st.env, heap := h', nx := nx' }) : AWs P own ro N (⟨d, g, .op ao⟩ :: ss) Q st := by
  intro ops i os hc w0 K a hs
  obtain ⟨o, r, rfl, h1, h2, h3, h4, h5⟩ := inv_step hc
  have hw := wanted_of hs.env h2 hg
  obtain ⟨hsnd, hnd⟩ := op_sound (act_op h3)
  obtain ⟨K', rr, hrun, hext, hgood, hout⟩ := hsnd w0 K st.heap st.nx st.env a _ h' nx' hs.good hs.env hev
  simp only [wpListIn, hw, if_true, Oper.wpIn]
  refine ⟨fun f _ => trivial, ?_⟩
  rw [Oper.semAt_eq _ _ _ hnd, hrun]
  cases rr <;> simp only [outR] at hout <;> first | exact hout.elim | skip
  rename_i v
  simp only [Oper.uponIn, h4]
  have := h ops _ r h1 w0 K' _ (put_StR (st' := { st with env := setE d x st.env, heap := h', nx := nx' }) hs hext hgood h5 hout rfl rfl)
  exact wpListIn_mono (fun e a w hp => Post.of_ext hext hp) _ _ _ this

theorem AWs_skp {d : Option Tmp} {g : Option (Tmp × Bool)} {ao : AOp} {ss : List AStep} {h' : Heap} {nx' : Nat} (hg : guardOk st.env g = some true) (hev : opEv ao st.env st.heap st.nx = some (.skip, h', nx'))
    (h : AWs P own ro N ss Q { st with env := dropE d st.env, heap := h', nx := nx' }) : AWs P own ro N (⟨d, g, .op ao⟩ :: ss) Q st := by
  intro ops i os hc w0 K a hs
  obtain ⟨o, r, rfl, h1, h2, h3, h4, h5⟩ := inv_step hc
  have hw := wanted_of hs.env h2 hg
  obtain ⟨hsnd, hnd⟩ := op_sound (act_op h3)
  obtain ⟨K', rr, hrun, hext, hgood, hout⟩ := hsnd w0 K st.heap st.nx st.env a _ h' nx' hs.good hs.env hev
  simp only [wpListIn, hw, if_true, Oper.wpIn]
  refine ⟨fun f _ => trivial, ?_⟩
  rw [Oper.semAt_eq _ _ _ hnd, hrun]
  cases rr <;> simp only [outR] at hout <;> first | exact hout.elim | skip
  simp only [Oper.uponIn, h4]
  have := h ops _ r h1 w0 K' _ (drop_StR (st' := { st with env := dropE d st.env, heap := h', nx := nx' }) hs hext hgood h5 rfl rfl)
  exact wpListIn_mono (fun e a w hp => Post.of_ext hext hp) _ _ _ this

/-- The steps are done one after another, up to the first that can't be: a call, or one of which too little is known. -/
def runS : List AStep → ASt → List AStep × ASt
  | [], st => ([], st)
  | s :: r, st => match guardOk st.env s.guard with
    | some true => (match s.act with
      | .op ao => (match opEv ao st.env st.heap st.nx with
        | some (.val x, h, n) => runS r { st with env := setE s.dst x st.env, heap := h, nx := n }
        | some (.skip, h, n) => runS r { st with env := dropE s.dst st.env, heap := h, nx := n }
        | none => (s :: r, st))
      | .call _ _ => (s :: r, st))
    | some false => runS r { st with env := dropE s.dst st.env }
    | none => (s :: r, st)

theorem AWs_run : ∀ (ss : List AStep) (st : ASt), AWs P own ro N (runS ss st).1 Q (runS ss st).2 → AWs P own ro N ss Q st
  | [], st, h => h
  | s :: r, st, h => by
    unfold runS at h
    split at h
    · rename_i hg
      split at h
      · rename_i ao hact
        obtain ⟨d, g, act⟩ := s
        simp only at hact hg; subst hact
        split at h
        · rename_i x h' n hev; exact AWs_val hg hev (AWs_run r _ h)
        · rename_i h' n hev; exact AWs_skp hg hev (AWs_run r _ h)
        · exact h
      · exact h
    · rename_i hg; exact AWs_skip hg (AWs_run r _ h)
    · exact h
theorem AWs_run' {ss rest : List AStep} {st st' : ASt} (hr : runS ss st = (rest, st')) (h : AWs P own ro N rest Q st') : AWs P own ro N ss Q st := AWs_run ss st (by rw [hr]; exact h)

/-! ### Calls -/
/-- How a call ends. -/
inductive AE where
  | ret (x : AV)
  | panic (x : AV)
def AER (K : Wd) (nx : Nat) : AE → Ending → Prop
  | .ret x, .returned v => VR K nx x v
  | .panic x, .panicked ch => ∃ v, ch = [{ v, recovered := false }] ∧ VR K nx x v
  | _, _ => False
/-- Arguments, one by one. -/
def ArgR (K : Wd) (nx : Nat) (xs : List AV) (args : Array Value) : Prop := args.size = xs.length ∧ ∀ (i : Nat) (x : AV) (v : Value), xs[i]? = some x → args[i]? = some v → VR K nx x v

/-- What a call of a function does: from each state of the model that is as the abstract one says, it ends, and Q holds. -/
def AC (P : Program) (f : FuncId) (xs : List AV) (h : Heap) (nx : Nat) (Q : AE → Heap → Nat → Prop) : Prop :=
  (∀ args w, (callFunc f args).run P w = .ok (.enter f args) w) ∧
  ∀ (w0 : World) (K : Wd) (args : Array Value), Good w0 K h nx → ArgR K nx xs args →
    Calls P f args K.w fun e w' => ∃ K' h' nx' y, K'.w = w' ∧ Ext K nx K' nx' ∧ Good w0 K' h' nx' ∧ AER K' nx' y e ∧ Q y h' nx'

theorem AC.mono {f : FuncId} {xs : List AV} {h : Heap} {nx : Nat} {Q1 Q2 : AE → Heap → Nat → Prop} (hc : AC P f xs h nx Q1) (hq : ∀ y h' n, Q1 y h' n → Q2 y h' n) : AC P f xs h nx Q2 :=
  ⟨hc.1, fun w0 K args hg ha => (hc.2 w0 K args hg ha).mono fun e w' ⟨K', h', nx', y, h1, h2, h3, h4, h5⟩ => ⟨K', h', nx', y, h1, h2, h3, h4, hq _ _ _ h5⟩⟩

theorem AWs_call {d : Option Tmp} {g : Option (Tmp × Bool)} {fo : Operand} {args : List Operand} {ss : List AStep} {f : FuncId} {caps xs : List AV} (hg : guardOk st.env g = some true) (hf : oev st.env fo = some (.fn (.func f) caps)) (hx : oevs st.env args = some xs)
    (h : AC P f (xs ++ caps) st.heap st.nx fun y h' n => match y with
      | .ret x => AWs P own ro N ss Q { st with env := setE d x st.env, heap := h', nx := n }
      | .panic x => Q (.panic x) { st with heap := h', nx := n }) : AWs P own ro N (⟨d, g, .call fo args⟩ :: ss) Q st := by
  intro ops i os hc w0 K a hs
  obtain ⟨o, r, rfl, h1, h2, h3, h4, h5⟩ := inv_step hc
  have hw := wanted_of hs.env h2 hg
  have hop : ∃ c : Call, o.op = .call c ∧ c.callee = .value fo ∧ c.args.toList = args := by
    unfold compileAct at h3
    split at h3
    · cases h3
    · split at h3
      · rename_i c hcq
        split at h3
        · rename_i f' hf'; cases h3; exact ⟨c, hcq, hf', rfl⟩
        · cases h3
      · cases h3
  obtain ⟨c, hop, hcal, hargs⟩ := hop
  have hnd : ∀ c, o.op ≠ .defer c := by intro c; rw [hop]; simp
  have hfv := oev_sound hs.env hf
  generalize hcf : a.eval fo = cf at hfv
  cases hfv with
  | fn _ _ cv hcs hcr =>
  obtain ⟨hl, hrel⟩ := oevs_sound hs.env args xs hx
  have hres : (execOp a.eval o).run P K.w = .ok (.enter f (c.args.map a.eval ++ cv)) K.w := by
    simp only [execOp, hop, Sem.run_bind, resolve, hcal, hcf, Deferred.ofValue, Sem.run_pure, Result.andThen_ok, invoke]
    have he : (#[] : Array Value) ++ c.args.map a.eval = c.args.map a.eval := by simp
    rw [he]
    exact h.1 _ _
  have harg : ArgR K st.nx (xs ++ caps) (c.args.map a.eval ++ cv) := by
    have hsz : (c.args.map a.eval).size = xs.length := by rw [Array.size_map, hl, ← hargs]; simp
    refine ⟨by simp only [Array.size_append, List.length_append, hsz, hcs], fun j x v hj hv => ?_⟩
    rw [List.getElem?_append] at hj
    rw [Array.getElem?_append, hsz] at hv
    split at hj
    · rename_i hlt
      rw [if_pos hlt] at hv
      refine hrel j x v hj ?_
      rw [← hargs]
      simpa using hv
    · rename_i hlt
      rw [if_neg hlt] at hv
      exact hcr _ x v hj hv
  simp only [wpListIn, hw, if_true, Oper.wpIn]
  refine ⟨fun f _ => trivial, ?_⟩
  rw [Oper.semAt_eq _ _ _ hnd, hres]
  simp only [Oper.uponIn]
  refine ⟨fun hh => by simp [Fence.wide] at hh, ?_⟩
  have hcalls := h.2 w0 K _ hs.good harg
  have hcin : CallsIn Fence.wide (0 - 1) P f (c.args.map a.eval ++ cv) K.w _ := callsIn_wide.2 hcalls
  have hcin2 : CallsIn { Fence.wide with round := ro } (0 - 1) P f (c.args.map a.eval ++ cv) K.w _ := hcin
  refine hcin2.mono ?_
  rintro e w' ⟨K', h', nx', y, rfl, hext, hgood, her, hq⟩
  cases y with
  | ret x =>
    cases e <;> simp only [AER] at her <;> first | exact her.elim | skip
    rename_i v
    simp only [h4]
    have := hq ops _ r h1 w0 K' _ (put_StR (st' := { st with env := setE d x st.env, heap := h', nx := nx' }) hs hext hgood h5 her rfl rfl)
    exact wpListIn_mono (fun e a w hp => Post.of_ext hext hp) _ _ _ this
  | panic x =>
    cases e <;> simp only [AER] at her <;> first | exact her.elim | skip
    rename_i ch
    refine ⟨K', { st with heap := h', nx := nx' }, .panic x, rfl, hext, ⟨hgood, hs.env.mono hext, hs.size, ?_, fun b hb => Nat.lt_of_lt_of_le (hs.dm b hb) hext.le⟩, her, hq⟩
    rw [hs.defers]
    unfold marks
    apply List.map_congr_left
    intro b hb
    rw [hext.m b (hs.dm b hb)]

/-- What a call of a loop's yield does. -/
def AY (P : Program) (b : Nat) (xs : List AV) (h : Heap) (nx : Nat) (Q : AE → Heap → Nat → Prop) : Prop :=
  ∀ (w0 : World) (K : Wd) (args : Array Value), Good w0 K h nx → ArgR K nx xs args →
    YieldAt Fence.wide 0 P (K.m b) args K.w fun e w' => ∃ K' h' nx' y, K'.w = w' ∧ Ext K nx K' nx' ∧ Good w0 K' h' nx' ∧ AER K' nx' y e ∧ Q y h' nx'
theorem AY.mono {b : Nat} {xs : List AV} {h : Heap} {nx : Nat} {Q1 Q2 : AE → Heap → Nat → Prop} (hc : AY P b xs h nx Q1) (hq : ∀ y h' n, Q1 y h' n → Q2 y h' n) : AY P b xs h nx Q2 :=
  fun w0 K args hg ha => let ⟨fn, tmps, as, bd, hy, hR⟩ := hc w0 K args hg ha; ⟨fn, tmps, as, bd, hy, hR.mono fun e w' ⟨K', h', nx', y, h1, h2, h3, h4, h5⟩ => ⟨K', h', nx', y, h1, h2, h3, h4, hq _ _ _ h5⟩⟩
theorem AWs_yield {d : Option Tmp} {g : Option (Tmp × Bool)} {fo : Operand} {args : List Operand} {ss : List AStep} {b : Nat} {xs : List AV} (hg : guardOk st.env g = some true) (hf : oev st.env fo = some (.yl b)) (hx : oevs st.env args = some xs)
    (h : AY P b xs st.heap st.nx fun y h' n => match y with
      | .ret x => AWs P own ro N ss Q { st with env := setE d x st.env, heap := h', nx := n }
      | .panic x => Q (.panic x) { st with heap := h', nx := n }) : AWs P own ro N (⟨d, g, .call fo args⟩ :: ss) Q st := by
  intro ops i os hc w0 K a hs
  obtain ⟨o, r, rfl, h1, h2, h3, h4, h5⟩ := inv_step hc
  have hw := wanted_of hs.env h2 hg
  have hop : ∃ c : Call, o.op = .call c ∧ c.callee = .value fo ∧ c.args.toList = args := by
    unfold compileAct at h3
    split at h3
    · cases h3
    · split at h3
      · rename_i c hcq
        split at h3
        · rename_i f' hf'; cases h3; exact ⟨c, hcq, hf', rfl⟩
        · cases h3
      · cases h3
  obtain ⟨c, hop, hcal, hargs⟩ := hop
  have hnd : ∀ c, o.op ≠ .defer c := by intro c; rw [hop]; simp
  have hfv := oev_sound hs.env hf
  generalize hcf : a.eval fo = cf at hfv
  cases hfv with
  | yl _ hlt l hl =>
  subst hl
  obtain ⟨hl, hrel⟩ := oevs_sound hs.env args xs hx
  have harg : ArgR K st.nx xs (c.args.map a.eval) := by
    have hsz : (c.args.map a.eval).size = xs.length := by rw [Array.size_map, hl, ← hargs]; simp
    refine ⟨hsz, fun j x v hj hv => ?_⟩
    refine hrel j x v hj ?_
    rw [← hargs]
    simpa using hv
  obtain ⟨fn, tmps, as, bd, hrun, hround⟩ := h w0 K _ hs.good harg
  have hres : (execOp a.eval o).run P K.w = .ok (.round (K.m b) fn tmps as bd) K.w := by
    simp only [execOp, hop, Sem.run_bind, resolve, hcal, hcf, Deferred.ofValue, Sem.run_pure, Result.andThen_ok, invoke]
    have he : (#[] : Array Value) ++ c.args.map a.eval ++ #[] = c.args.map a.eval := by simp
    first
    | exact hrun
    | (rw [he]; exact hrun)
    | (simp only [Array.append_empty, Array.empty_append]; exact hrun)
  simp only [wpListIn, hw, if_true, Oper.wpIn]
  refine ⟨fun f _ => trivial, ?_⟩
  rw [Oper.semAt_eq _ _ _ hnd, hres]
  simp only [Oper.uponIn]
  refine ⟨fun hh => by simp [Fence.wide] at hh, ?_⟩
  have hcin2 : RoundIn { Fence.wide with round := ro } (0 - 1) P (K.m b) fn tmps as bd K.w _ := hround
  refine hcin2.mono ?_
  rintro e w' ⟨K', h', nx', y, rfl, hext, hgood, her, hq⟩
  cases y with
  | ret x =>
    cases e <;> simp only [AER] at her <;> first | exact her.elim | skip
    rename_i v
    simp only [h4]
    have := hq ops _ r h1 w0 K' _ (put_StR (st' := { st with env := setE d x st.env, heap := h', nx := nx' }) hs hext hgood h5 her rfl rfl)
    exact wpListIn_mono (fun e a w hp => Post.of_ext hext hp) _ _ _ this
  | panic x =>
    cases e <;> simp only [AER] at her <;> first | exact her.elim | skip
    rename_i ch
    refine ⟨K', { st with heap := h', nx := nx' }, .panic x, rfl, hext, ⟨hgood, hs.env.mono hext, hs.size, ?_, fun b hb => Nat.lt_of_lt_of_le (hs.dm b hb) hext.le⟩, her, hq⟩
    rw [hs.defers]
    unfold marks
    apply List.map_congr_left
    intro b hb
    rw [hext.m b (hs.dm b hb)]
end
end Go.Ab
