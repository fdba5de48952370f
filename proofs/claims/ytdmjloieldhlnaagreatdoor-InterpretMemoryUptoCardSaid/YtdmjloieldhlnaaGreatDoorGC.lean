/- Code over abstract states: what is claimed of a piece of code, and the rules. -/
import Derived.Test.YtdmjloieldhlnaaGreatDoorGB
import Derived.RangeFuncMany
import Derived.RangeFuncLeaves
import Derived.OrdersIn
namespace Go.Ab
open Go.RowKit
set_option linter.unusedVariables false
set_option linter.unusedSimpArgs false
inductive AAct where
  | op (o : AOp)
  | call (f : Operand) (args : List Operand)
  | callZ (f : Operand) (args : List Operand)
  deriving Inhabited
structure AStep where
  dst : Option Tmp
  guard : Option (Tmp × Bool)
  act : AAct
  deriving Inhabited
structure DStep where
  i : Nat
  s : AStep
  late : List Nat
  deriving Inhabited
inductive DT where
  | nil
  | step (d : DStep) (r : DT)
  | alt (a b : DT)
  deriving Inhabited
inductive ACode where
  | skip
  | region (ops : List AStep)
  | dregion (ops : List DStep)
  | tregion (t : DT)
  | seq (a b : ACode)
  | cond (c : Operand) (t e : ACode)
  | block (id : Nat) (b : ACode)
  | loop (b : ACode)
  | exit (id : Nat)
  | ret
  | label
  | rangeF (g : Operand) (ps : Array Tmp) (as bd : ACode)
  deriving Inhabited
def compileGuard (ops : Array Oper) (o : Oper) : Option (Option (Tmp × Bool)) :=
  match o.guard with
  | none => some none
  | some (j, b) => ((ops[j]?).bind (·.dst)).map fun t => some (t, b)
def nxM : Operand := .const (.tuple #[])
def isMark : List Operand → Bool
  | [.const (.tuple _)] => true
  | [.const (.tuple _), .const (.tuple _)] => true
  | _ => false
def compileAct (P : Program) (own : Bool) (o : Oper) : Option AAct :=
  match compileOp P own o with
  | some x => (match o.op with
    | .panic p => some (.call p [nxM, nxM])
    | _ => some (.op x))
  | none => match o.op with
    | .call c => (match c.callee with
      | .value f => if isMark c.args.toList = true then none else some (.call f c.args.toList)
      | _ => none)
    | .next it false => some (.call it [nxM])
    | _ => none
def compileStep (P : Program) (own : Bool) (N : Nat) (ops : Array Oper) (o : Oper) : Option AStep :=
  match compileGuard ops o, compileAct P own o with
  | some g, some x => (match o.dst with
    | none => some ⟨none, g, x⟩
    | some d => if d < N then some ⟨some d, g, x⟩ else none)
  | _, _ => none
def compileSteps (P : Program) (own : Nat → Bool) (N : Nat) (ops : Array Oper) : Nat → List Oper → Option (List AStep)
  | _, [] => some []
  | i, o :: r => match compileStep P (own i) N ops o, compileSteps P own N ops (i + 1) r with
    | some x, some xs => some (x :: xs)
    | _, _ => none
def AOp.opnds : AOp → List Operand
  | .move x => [x]
  | .pick c a b => [c, a, b]
  | .alloc _ => []
  | .box x => [x]
  | .build _ ps => ps.map (·.2.2)
  | .buildF _ _ ps => ps.map (·.2)
  | .buildO _ _ _ ps => ps.map (·.2)
  | .load _ _ x => [x]
  | .store _ p x => [p, x]
  | .nilck x => [x]
  | .bin _ x y => [x, y]
  | .eqS _ _ x y => [x, y]
  | .eqN _ _ x => [x]
  | .eqB _ x y => [x, y]
  | .un _ x => [x]
  | .conv _ x => [x]
  | .mkif _ x => [x]
  | .mkfn _ cs => cs
  | .mkbm _ fs cs => fs ++ cs
  | .mksl _ _ _ l c => [l, c]
  | .slc _ x lo hi top => x :: (lo.toList ++ (hi.toList ++ top.toList))
  | .slcs x lo hi => x :: (lo.toList ++ hi.toList)
  | .fieldA _ x => [x]
  | .field _ _ _ x => [x]
  | .idxA _ x i => [x, i]
  | .idxR _ _ x i => [x, i]
  | .idx _ _ _ x i => [x, i]
  | .idxs x i => [x, i]
  | .ext x _ => [x]
  | .len x => [x]
  | .lens x => [x]
  | .convS x => [x]
  | .convBS x => [x]
  | .mn x y => [x, y]
  | .mx x y => [x, y]
  | .app _ _ _ s x => [s, x]
  | .appZ _ _ _ s n => [s, n]
  | .cap x => [x]
  | .copy _ d x => [d, x]
  | .clear _ x => [x]
  | .ovl x y => [x, y]
  | .m o => o.opnds
  | .bad => []
def AOp.quiet : AOp → Bool
  | .move _ | .pick .. | .build .. | .buildF .. | .nilck _ | .bin .. | .eqS .. | .eqN .. | .eqB .. | .un .. | .conv .. | .mkif .. | .mkfn .. | .mkbm .. | .slc .. | .slcs .. | .fieldA .. | .field .. | .idxA .. | .idxR .. | .idx .. | .idxs .. | .ext .. | .len _ | .lens _ | .convS _ | .mn .. | .mx .. | .cap _ => true
  | .m o => o.quiet
  | _ => false
def AOp.isLoad : AOp → Bool
  | .load .. => true
  | _ => false
def AAct.opnds : AAct → List Operand
  | .op o => o.opnds
  | .call f xs => f :: xs
  | .callZ f xs => f :: xs
def AAct.isW : AAct → Bool
  | .op o => !o.quiet && !o.isLoad
  | .call .. => true
  | .callZ .. => true
def AStep.looks (s : AStep) (t : Tmp) : Bool :=
  s.act.opnds.any (fun | .tmp u => u == t | _ => false) || (match s.guard with | some (g, _) => g == t | none => false)
def before (ms : List Nat) (i j : Nat) : Bool := (ms.getD i 0).testBit j
def maskOf (ms : List Nat) : List Edge → Option Nat
  | [] => some 0
  | e :: r => match maskOf ms r with
    | none => none
    | some m => if Region.binds .any e then (match ms[e.on]? with
      | some k => some (m ||| k ||| (1 <<< e.on))
      | none => none) else some m
def masks : List Oper → List Nat → Option (List Nat)
  | [], ms => some ms
  | o :: r, ms => match maskOf ms o.after.toList with
    | some m => masks r (ms ++ [m])
    | none => none
def DStep.dep (d e : DStep) : Bool :=
  d.s.act.isW || (match d.s.dst with | some t => e.s.looks t || e.s.dst == some t | none => false) || (match e.s.dst with | some t => d.s.looks t | none => false) || (e.s.act.isW && !e.late.contains d.i)
def pairB (ms : List Nat) (d e : DStep) : Bool := d.i != e.i && (!d.dep e || before ms e.i d.i)
def looseB (ms : List Nat) : List DStep → Nat × Nat
  | [] => (0, 0)
  | d :: r => match r.find? fun e => !pairB ms d e with
    | some e => (d.i, e.i)
    | none => looseB ms r
def lightB (d : DStep) : Bool := d.s.guard.isNone && (match d.s.act with
  | .op (.alloc _) => true
  | .callZ .. => true
  | _ => false)
def lightS (ms : List Nat) (q : Nat) (d : DStep) : Bool := lightB d && !before ms q d.i && !before ms d.i q && d.i != q
def pairB2 (ms : List Nat) (fr : Option Nat) (d e : DStep) : Bool := d.i != e.i && (!d.dep e || before ms e.i d.i || (match fr with
  | some q => e.i == q && lightS ms q d
  | none => false))
def pairsB2 (ms : List Nat) (fr : Option Nat) : List DStep → Bool
  | [] => true
  | d :: r => r.all (pairB2 ms fr d) && pairsB2 ms fr r
def zcall (ms : List Nat) (q : Nat) (d : DStep) : DStep := match d.s.act with
  | .call f xs => if d.s.guard.isNone && !before ms q d.i && !before ms d.i q && !isMark xs then { d with s := { d.s with act := .callZ f xs } } else d
  | _ => d
def allocB (o : Oper) (s : AStep) : Bool := s.guard.isNone && (match o.op, s.act with | .alloc _, .op (.alloc _) => true | _, _ => false)
def loadB (o : Oper) (s : AStep) : Bool := match s.act with
  | .op (.load ..) => (match o.op with | .load .. => true | _ => false)
  | _ => true
def freeB (ms : List Nat) (ops : Array Oper) (L : List DStep) (q : Nat) : Bool :=
  (match ops[q]? with
    | some o => L.all fun e => e.i != q || allocB o e.s
    | none => false) && !before ms q q && L.all (fun d => !lightS ms q d || ((List.range ops.size).all (fun i => !before ms i q || before ms i d.i) && L.all fun e => e.i != q || (match e.s.dst with
      | some t => !d.s.looks t && d.s.dst != some t
      | none => true))) && L.all fun d => match ops[d.i]? with
    | some o => loadB o d.s
    | none => false
def firstB (p : Nat → Bool) : List Nat → Option Nat
  | [] => none
  | i :: r => if p i then some i else firstB p r
def orderD (ms : List Nat) (w al : Nat → Bool) : Nat → Nat → List Nat → List Nat
  | 0, _, _ => []
  | n + 1, done, pend =>
    match firstB (fun i => !w i && (ms.getD i 0 ||| done) == done) pend with
    | some i => i :: orderD ms w al n (done ||| (1 <<< i)) (pend.erase i)
    | none => match firstB (fun i => !al i && (ms.getD i 0 ||| done) == done) pend with
      | some i => i :: orderD ms w al n (done ||| (1 <<< i)) (pend.erase i)
      | none => match firstB (fun i => (ms.getD i 0 ||| done) == done) pend with
        | some i => i :: orderD ms w al n (done ||| (1 <<< i)) (pend.erase i)
        | none => []
def lateOf (ms : List Nat) (w : Nat → Bool) (i : Nat) (old : List Nat) : List Nat := if w i then old.filter fun j => !before ms i j && !w j else []
def compileD (P : Program) (own : Nat → Bool) (N : Nat) (ops : Array Oper) : Option (List DStep) :=
  match compileSteps P own N ops 0 ops.toList, masks ops.toList [] with
  | some ss, some ms =>
    let w := fun i => (ss.getD i default).act.isW
    let al := fun i => match (ss.getD i default).act with
      | .op (.alloc _) => true
      | _ => false
    let ord := orderD ms w al ops.size 0 (List.range ops.size)
    let L := ord.map fun i => DStep.mk i (ss.getD i default) (lateOf ms w i (ord.takeWhile (· != i)))
    let q := (looseB ms L).2
    let Z := L.map (zcall ms q)
    if ord.all (· < ops.size) && (List.range ops.size).all (fun i => ord.contains i) then (if pairsB2 ms none L then some L else if pairsB2 ms (some q) Z && freeB ms ops Z q then some Z else none) else none
  | _, _ => none
def DT.paths : DT → List (List DStep)
  | .nil => [[]]
  | .step d r => r.paths.map (d :: ·)
  | .alt a b => a.paths ++ b.paths
def DT.heads : DT → List DStep
  | .nil => []
  | .step d _ => [d]
  | .alt a b => a.heads ++ b.heads
def DT.cover (ms : List Nat) (t : DT) : Bool := t.paths.all fun p => p.all fun e => t.heads.any fun h => h.i == e.i || before ms e.i h.i
def DStep.wU (d : DStep) : Bool := d.s.act.isW && d.s.guard.isNone
def pairX (ms : List Nat) (d e : DStep) : Bool := d.i != e.i && (d.wU || !d.dep e || before ms e.i d.i)
def pairsX (ms : List Nat) : List DStep → Bool
  | [] => true
  | d :: r => r.all (pairX ms d) && pairsX ms r
def DT.okA : DT → Bool
  | .nil => false
  | .step d _ => d.s.act.isW && d.s.guard.isNone
  | .alt a b => a.okA && b.okA
def DT.ok (ms : List Nat) : DT → Bool → Bool
  | .nil, _ => true
  | .step d r, top => (!top || !d.s.act.isW || (DT.step d r).cover ms) && r.ok ms true
  | .alt a b, top => a.okA && b.okA && (!top || (DT.alt a b).cover ms) && a.ok ms false && b.ok ms false
def altL : List DT → DT
  | [] => .nil
  | [t] => t
  | t :: r => .alt t (altL r)
def mkT (ms : List Nat) (w : Nat → Bool) (ss : List AStep) : Nat → Nat → List Nat → List Nat → DT
  | 0, _, _, _ => .nil
  | n + 1, done, pend, old =>
    match firstB (fun i => !w i && (ms.getD i 0 ||| done) == done) pend with
    | some i => .step ⟨i, ss.getD i default, []⟩ (mkT ms w ss n (done ||| (1 <<< i)) (pend.erase i) (old ++ [i]))
    | none => altL ((pend.filter fun i => (ms.getD i 0 ||| done) == done).map fun i => .step ⟨i, ss.getD i default, lateOf ms w i old⟩ (mkT ms w ss n (done ||| (1 <<< i)) (pend.erase i) (old ++ [i])))
def compileT (P : Program) (own : Nat → Bool) (N : Nat) (ops : Array Oper) : Option DT :=
  match compileSteps P own N ops 0 ops.toList, masks ops.toList [] with
  | some ss, some ms =>
    let t := mkT ms (fun i => (ss.getD i default).act.isW) ss ops.size 0 (List.range ops.size) []
    if t.ok ms true && t.paths.all (fun p => pairsX ms p && p.all (fun d => decide (d.i < ops.size)) && (List.range ops.size).all fun i => p.any fun d => d.i == i) then some t else none
  | _, _ => none
def compileR (P : Program) (own : Nat → Bool) (N : Nat) (ops : Array Oper) : Option ACode :=
  match compileD P own N ops with
  | some L => some (.dregion L)
  | none => (compileT P own N ops).map .tregion
theorem compileR_or {P : Program} {own : Nat → Bool} {N : Nat} {ops : Array Oper} {c : ACode} (h : compileR P own N ops = some c) : (∃ L, c = .dregion L ∧ compileD P own N ops = some L) ∨ ∃ t, c = .tregion t ∧ compileT P own N ops = some t := by
  unfold compileR at h
  split at h
  · rename_i L hL; cases h; exact .inl ⟨L, rfl, hL⟩
  · obtain ⟨t, h1, h2⟩ := Option.map_eq_some_iff.1 h
    exact .inr ⟨t, h2.symm, h1⟩
section
variable {P : Program} {own : Nat → Bool} {N : Nat} {ops : Array Oper}
@[simp] theorem compileR_skip : (compileR P own N ops = some .skip) = False := eq_false fun h => by rcases compileR_or h with ⟨_, e, _⟩ | ⟨_, e, _⟩ <;> cases e
@[simp] theorem compileR_region (l : List AStep) : (compileR P own N ops = some (.region l)) = False := eq_false fun h => by rcases compileR_or h with ⟨_, e, _⟩ | ⟨_, e, _⟩ <;> cases e
@[simp] theorem compileR_seq (a b : ACode) : (compileR P own N ops = some (.seq a b)) = False := eq_false fun h => by rcases compileR_or h with ⟨_, e, _⟩ | ⟨_, e, _⟩ <;> cases e
@[simp] theorem compileR_cond (o : Operand) (a b : ACode) : (compileR P own N ops = some (.cond o a b)) = False := eq_false fun h => by rcases compileR_or h with ⟨_, e, _⟩ | ⟨_, e, _⟩ <;> cases e
@[simp] theorem compileR_block (i : Nat) (a : ACode) : (compileR P own N ops = some (.block i a)) = False := eq_false fun h => by rcases compileR_or h with ⟨_, e, _⟩ | ⟨_, e, _⟩ <;> cases e
@[simp] theorem compileR_loop (a : ACode) : (compileR P own N ops = some (.loop a)) = False := eq_false fun h => by rcases compileR_or h with ⟨_, e, _⟩ | ⟨_, e, _⟩ <;> cases e
@[simp] theorem compileR_exit (i : Nat) : (compileR P own N ops = some (.exit i)) = False := eq_false fun h => by rcases compileR_or h with ⟨_, e, _⟩ | ⟨_, e, _⟩ <;> cases e
@[simp] theorem compileR_ret : (compileR P own N ops = some .ret) = False := eq_false fun h => by rcases compileR_or h with ⟨_, e, _⟩ | ⟨_, e, _⟩ <;> cases e
@[simp] theorem compileR_label : (compileR P own N ops = some .label) = False := eq_false fun h => by rcases compileR_or h with ⟨_, e, _⟩ | ⟨_, e, _⟩ <;> cases e
@[simp] theorem compileR_rangeF (g : Operand) (ps : Array Tmp) (a b : ACode) : (compileR P own N ops = some (.rangeF g ps a b)) = False := eq_false fun h => by rcases compileR_or h with ⟨_, e, _⟩ | ⟨_, e, _⟩ <;> cases e
end
def compile (P : Program) (own : Nat → Nat → Bool) (N : Nat) : Code → Option ACode
  | .skip => some .skip
  | .region id ops false => (compileSteps P (own id) N ops 0 ops.toList).map .region
  | .region id ops true => compileR P (own id) N ops
  | .seq a b => match compile P own N a, compile P own N b with
    | some x, some y => some (.seq x y)
    | _, _ => none
  | .cond c a b => match compile P own N a, compile P own N b with
    | some x, some y => some (.cond c x y)
    | _, _ => none
  | .block id b => (compile P own N b).map (.block id)
  | .loop b => (compile P own N b).map .loop
  | .exit id => some (.exit id)
  | .ret => some .ret
  | .label _ => some .label
  | .rangeFunc g ps a b => match compile P own N a, compile P own N b with
    | some x, some y => some (.rangeF g ps x y)
    | _, _ => none
  | _ => none
structure ASt where
  env : Env
  heap : Heap
  nx : Nat
  dm : List Nat := []
  deriving Inhabited
inductive AX where
  | normal
  | exit (id : Nat)
  | ret
  | panic (x : AV)
def marks (K : Wd) (dm : List Nat) : List Deferred := (dm.map fun b => { target := .collected (K.m b), args := #[] }) ++ K.ds
structure StR (w0 : World) (N : Nat) (K : Wd) (st : ASt) (a : Act) : Prop where
  good : Good w0 K st.heap st.nx
  env : EnvR K st.nx st.env a.tmps
  size : a.tmps.size = N
  defers : a.defers = marks K st.dm
  dm : ∀ b ∈ st.dm, b < st.nx
def AXR (K : Wd) (nx : Nat) : AX → Exit → Prop
  | .normal, .normal => True
  | .exit i, .exit j => i = j
  | .ret, .ret => True
  | .panic x, .panic ch => ∃ v, ch = [{ v, recovered := false }] ∧ VR K nx x v
  | _, _ => False
def Post (w0 : World) (N : Nat) (K : Wd) (nx : Nat) (Q : AX → ASt → Prop) (e : Exit) (a : Act) (w : World) : Prop :=
  ∃ K' st' x, K'.w = w ∧ Ext K nx K' st'.nx ∧ StR w0 N K' st' a ∧ AXR K' st'.nx x e ∧ Q x st'
def AW (P : Program) (own : Nat → Nat → Bool) (ro : Option Nat) (N : Nat) (ac : ACode) (Q : AX → ASt → Prop) (st : ASt) : Prop :=
  ∀ (c : Code), compile P own N c = some ac → ∀ (w0 : World) (K : Wd) (a : Act), StR w0 N K st a → c.wpIn { Fence.wide with round := ro } 0 P (Post w0 N K st.nx Q) a K.w
section
variable {P : Program} {own : Nat → Nat → Bool} {ro : Option Nat} {N : Nat} {Q : AX → ASt → Prop} {st : ASt}
theorem Post.mono {w0 : World} {K : Wd} {nx : Nat} {Q' : AX → ASt → Prop} (hq : ∀ x s, Q x s → Q' x s) {e : Exit} {a : Act} {w : World} (h : Post w0 N K nx Q e a w) : Post w0 N K nx Q' e a w :=
  let ⟨K', st', x, h1, h2, h3, h4, h5⟩ := h; ⟨K', st', x, h1, h2, h3, h4, hq _ _ h5⟩
theorem Post.of_ext {w0 : World} {K K1 : Wd} {nx nx1 : Nat} (he : Ext K nx K1 nx1) {e : Exit} {a : Act} {w : World} (h : Post w0 N K1 nx1 Q e a w) : Post w0 N K nx Q e a w :=
  let ⟨K', st', x, h1, h2, h3, h4, h5⟩ := h; ⟨K', st', x, h1, he.trans h2, h3, h4, h5⟩
theorem AW.mono {ac : ACode} {Q' : AX → ASt → Prop} (h : AW P own ro N ac Q st) (hq : ∀ x s, Q x s → Q' x s) : AW P own ro N ac Q' st :=
  fun c hc w0 K a hs => wpIn_mono (h c hc w0 K a hs) fun e a w hp => hp.mono hq
structure ASt.le (st st' : ASt) : Prop where
  env : ∀ t x, eget st'.env t = some x → eget st.env t = some x
  heap : ∀ b o, hget st'.heap b = some o → hget st.heap b = some o
  nx : st.nx ≤ st'.nx
  dm : st'.dm = st.dm
theorem StR.weaken {w0 : World} {K : Wd} {a : Act} {st' : ASt} (h : StR w0 N K st a) (hl : st.le st') : StR w0 N K st' a :=
  ⟨h.good.weaken hl.nx hl.heap, fun t x hx => let ⟨v, h1, h2⟩ := h.env t x (hl.env t x hx); ⟨v, h1, h2.mono (Ext.more K hl.nx)⟩, h.size, by rw [hl.dm]; exact h.defers, fun b hb => Nat.lt_of_lt_of_le (h.dm b (by rw [← hl.dm]; exact hb)) hl.nx⟩
theorem AW.weaken {ac : ACode} {st' : ASt} (hl : st.le st') (h : AW P own ro N ac Q st') : AW P own ro N ac Q st :=
  fun c hc w0 K a hs => wpIn_mono (h c hc w0 K a (hs.weaken hl)) fun e a w hp => hp.of_ext (Ext.more K hl.nx)
end
section
variable {P : Program} {own : Nat → Nat → Bool} {N : Nat} {c : Code}
theorem inv_skip (h : compile P own N c = some .skip) : c = .skip := by
  unfold compile at h
  split at h <;> first | rfl | (cases h; done) | (split at h <;> cases h; done) | (simp at h; done)
theorem inv_region {ops : List AStep} (h : compile P own N c = some (.region ops)) : ∃ id os, c = .region id os false ∧ compileSteps P (own id) N os 0 os.toList = some ops := by
  unfold compile at h
  split at h <;> first | (cases h; done) | (split at h <;> cases h; done) | skip
  · rename_i id os
    obtain ⟨x, hx, he⟩ := Option.map_eq_some_iff.1 h
    cases he
    exact ⟨id, os, rfl, hx⟩
  all_goals simp at h
theorem inv_seq {x y : ACode} (h : compile P own N c = some (.seq x y)) : ∃ a b, c = .seq a b ∧ compile P own N a = some x ∧ compile P own N b = some y := by
  unfold compile at h
  split at h <;> first | (cases h; done) | (simp at h; done) | skip
  · split at h
    · rename_i h1 h2; cases h; exact ⟨_, _, rfl, h1, h2⟩
    · cases h
  · split at h <;> cases h
  · split at h <;> cases h
theorem inv_cond {o : Operand} {x y : ACode} (h : compile P own N c = some (.cond o x y)) : ∃ a b, c = .cond o a b ∧ compile P own N a = some x ∧ compile P own N b = some y := by
  unfold compile at h
  split at h <;> first | (cases h; done) | (simp at h; done) | skip
  · split at h <;> cases h
  · split at h
    · rename_i h1 h2; cases h; exact ⟨_, _, rfl, h1, h2⟩
    · cases h
  · split at h <;> cases h
theorem inv_rangeF {g : Operand} {ps : Array Tmp} {x y : ACode} (h : compile P own N c = some (.rangeF g ps x y)) : ∃ a b, c = .rangeFunc g ps a b ∧ compile P own N a = some x ∧ compile P own N b = some y := by
  unfold compile at h
  split at h <;> first | (cases h; done) | (simp at h; done) | skip
  · split at h <;> cases h
  · split at h <;> cases h
  · split at h
    · rename_i h1 h2; cases h; exact ⟨_, _, rfl, h1, h2⟩
    · cases h
theorem inv_block {id : Nat} {x : ACode} (h : compile P own N c = some (.block id x)) : ∃ a, c = .block id a ∧ compile P own N a = some x := by
  unfold compile at h
  split at h <;> first | (cases h; done) | (split at h <;> cases h; done) | skip
  all_goals try (simp at h; done)
  · obtain ⟨x, hx, he⟩ := Option.map_eq_some_iff.1 h
    cases he
    exact ⟨_, rfl, hx⟩
theorem inv_loop {x : ACode} (h : compile P own N c = some (.loop x)) : ∃ a, c = .loop a ∧ compile P own N a = some x := by
  unfold compile at h
  split at h <;> first | (cases h; done) | (split at h <;> cases h; done) | skip
  all_goals try (simp at h; done)
  · obtain ⟨x, hx, he⟩ := Option.map_eq_some_iff.1 h
    cases he
    exact ⟨_, rfl, hx⟩
theorem inv_exit {id : Nat} (h : compile P own N c = some (.exit id)) : c = .exit id := by
  unfold compile at h
  split at h <;> first | (cases h; rfl) | (cases h; done) | (split at h <;> cases h; done) | (simp at h; done)
theorem inv_ret (h : compile P own N c = some .ret) : c = .ret := by
  unfold compile at h
  split at h <;> first | rfl | (cases h; done) | (split at h <;> cases h; done) | (simp at h; done)
theorem inv_label (h : compile P own N c = some .label) : ∃ l, c = .label l := by
  unfold compile at h
  split at h <;> first | exact ⟨_, rfl⟩ | (cases h; done) | (split at h <;> cases h; done) | (simp at h; done)
end
section
variable {P : Program} {own : Nat → Nat → Bool} {ro : Option Nat} {N : Nat} {Q : AX → ASt → Prop} {st : ASt}
theorem AW_skip (h : Q .normal st) : AW P own ro N .skip Q st := by
  intro c hc w0 K a hs
  cases inv_skip hc
  exact wpIn_skip ⟨K, st, .normal, rfl, Ext.refl _ _, hs, trivial, h⟩
theorem AW_label (h : Q .normal st) : AW P own ro N .label Q st := by
  intro c hc w0 K a hs
  obtain ⟨l, rfl⟩ := inv_label hc
  exact wpIn_label ⟨K, st, .normal, rfl, Ext.refl _ _, hs, trivial, h⟩
theorem AW_exit {id : Nat} (h : Q (.exit id) st) : AW P own ro N (.exit id) Q st := by
  intro c hc w0 K a hs
  cases inv_exit hc
  exact wpIn_exit ⟨K, st, .exit id, rfl, Ext.refl _ _, hs, rfl, h⟩
theorem AW_ret (h : Q .ret st) : AW P own ro N .ret Q st := by
  intro c hc w0 K a hs
  cases inv_ret hc
  exact wpIn_ret ⟨K, st, .ret, rfl, Ext.refl _ _, hs, trivial, h⟩
def AX.then (K : ASt → Prop) (Q : AX → ASt → Prop) : AX → ASt → Prop
  | .normal, s => K s
  | x, s => Q x s
theorem AW_seq {x y : ACode} (h : ∀ K : ASt → Prop, (∀ s, AW P own ro N y Q s → K s) → AW P own ro N x (AX.then K Q) st) : AW P own ro N (.seq x y) Q st := by
  intro c hc w0 K a hs
  obtain ⟨c1, c2, rfl, h1, h2⟩ := inv_seq hc
  refine wpIn_seq (wpIn_mono (h _ (fun s h => h) c1 h1 w0 K a hs) ?_)
  rintro e a' w' ⟨K', st', x', rfl, hext, hs', hx, hq⟩
  cases x' with
  | normal =>
    cases e <;> simp only [AXR] at hx <;> first | exact hx.elim | skip
    exact wpIn_mono (hq c2 h2 w0 K' a' hs') fun e a w hp => hp.of_ext hext
  | exit i =>
    cases e <;> simp only [AXR] at hx <;> first | exact hx.elim | skip
    exact ⟨K', st', .exit i, rfl, hext, hs', hx, hq⟩
  | ret =>
    cases e <;> simp only [AXR] at hx <;> first | exact hx.elim | skip
    exact ⟨K', st', .ret, rfl, hext, hs', hx, hq⟩
  | panic v =>
    cases e <;> simp only [AXR] at hx <;> first | exact hx.elim | skip
    exact ⟨K', st', .panic v, rfl, hext, hs', hx, hq⟩
theorem AW_cond {o : Operand} {x y : ACode} {b : Bool} (hb : oev st.env o = some (.bool b)) (h : AW P own ro N (if b then x else y) Q st) : AW P own ro N (.cond o x y) Q st := by
  intro c hc w0 K a hs
  obtain ⟨c1, c2, rfl, h1, h2⟩ := inv_cond hc
  have hv := oev_sound hs.env hb
  generalize hcv : a.eval o = cv at hv
  cases hv
  cases b
  · exact wpIn_cond hcv (h c2 h2 w0 K a hs)
  · exact wpIn_cond hcv (h c1 h1 w0 K a hs)
theorem AW_cond_split {o : Operand} {x y : ACode} {b : Bool} (hb : oev st.env o = some (.bool b)) (ht : b = true → AW P own ro N x Q st) (hf : b = false → AW P own ro N y Q st) : AW P own ro N (.cond o x y) Q st := by
  refine AW_cond hb ?_
  cases b
  · exact hf rfl
  · exact ht rfl
def AX.inBlock (id : Nat) (Q : AX → ASt → Prop) : AX → ASt → Prop
  | .exit i, s => if i = id then Q .normal s else Q (.exit i) s
  | x, s => Q x s
theorem AW_block {id : Nat} {x : ACode} (h : AW P own ro N x (AX.inBlock id Q) st) : AW P own ro N (.block id x) Q st := by
  intro c hc w0 K a hs
  obtain ⟨c1, rfl, h1⟩ := inv_block hc
  refine wpIn_block (wpIn_mono (h c1 h1 w0 K a hs) ?_)
  rintro e a' w' ⟨K', st', x', rfl, hext, hs', hx, hq⟩
  cases x' with
  | normal =>
    cases e <;> simp only [AXR] at hx <;> first | exact hx.elim | skip
    exact ⟨K', st', .normal, rfl, hext, hs', trivial, hq⟩
  | exit i =>
    cases e <;> simp only [AXR] at hx <;> first | exact hx.elim | skip
    rename_i j
    subst hx
    simp only [AX.inBlock] at hq
    simp only [Exit.inBlock]
    split
    · rename_i h2; rw [if_pos h2] at hq; exact ⟨K', st', .normal, rfl, hext, hs', trivial, hq⟩
    · rename_i h2; rw [if_neg h2] at hq; exact ⟨K', st', .exit i, rfl, hext, hs', rfl, hq⟩
  | ret =>
    cases e <;> simp only [AXR] at hx <;> first | exact hx.elim | skip
    exact ⟨K', st', .ret, rfl, hext, hs', hx, hq⟩
  | panic v =>
    cases e <;> simp only [AXR] at hx <;> first | exact hx.elim | skip
    exact ⟨K', st', .panic v, rfl, hext, hs', hx, hq⟩
theorem exists_least {p : Nat → Prop} (h : ∃ n, p n) : ∃ n, p n ∧ ∀ m, p m → n ≤ m := by
  obtain ⟨n, hn⟩ := h
  induction n using Nat.strongRecOn with
  | _ n ih =>
    by_cases h : ∃ m, m < n ∧ p m
    · obtain ⟨m, hm, hp⟩ := h
      exact ih m hm hp
    · exact ⟨n, hn, fun m hm => Nat.le_of_not_lt fun hlt => h ⟨m, hlt, hm⟩⟩
noncomputable def leastOf (p : Nat → Prop) : Nat := by
  classical
  exact if h : ∃ n, p n then Classical.choose (exists_least h) else 0
theorem leastOf_spec {p : Nat → Prop} (h : ∃ n, p n) : p (leastOf p) ∧ ∀ m, p m → leastOf p ≤ m := by
  classical
  unfold leastOf
  rw [dif_pos h]
  exact Classical.choose_spec (exists_least h)
theorem AW_loop {x : ACode} (I : Nat → ASt → Prop) {n : Nat} (h0 : I n st)
    (round : ∀ n s, I n s → AW P own ro N x (AX.then (fun s' => ∃ m, m < n ∧ I m s') Q) s) : AW P own ro N (.loop x) Q st := by
  intro c hc w0 K a hs
  obtain ⟨c1, rfl, h1⟩ := inv_loop hc
  obtain ⟨R, hR⟩ : ∃ R : Nat → Act → World → Prop, R = fun n a1 w1 => ∃ st1 K1, K1.w = w1 ∧ I n st1 ∧ Ext K st.nx K1 st1.nx ∧ StR w0 N K1 st1 a1 := ⟨_, rfl⟩
  refine wpIn_loop (fun a1 w1 => ∃ n, R n a1 w1) (fun a1 w1 => leastOf fun n => R n a1 w1) ⟨n, by rw [hR]; exact ⟨st, K, rfl, h0, Ext.refl _ _, hs⟩⟩ ?_
  intro a1 w1 hex
  obtain ⟨hl, hmin⟩ := leastOf_spec hex
  generalize leastOf (fun n => R n a1 w1) = n1 at hl hmin ⊢
  rw [hR] at hl
  obtain ⟨st1, K1, rfl, hI, hext, hs1⟩ := hl
  refine wpIn_mono (round n1 st1 hI c1 h1 w0 K1 a1 hs1) ?_
  rintro e a' w' ⟨K', st', x', rfl, hext', hs', hx, hq⟩
  have he2 := hext.trans hext'
  cases x' with
  | normal =>
    cases e <;> simp only [AXR] at hx <;> first | exact hx.elim | skip
    obtain ⟨m, hm, hI'⟩ := hq
    have hrm : R m a' K'.w := by rw [hR]; exact ⟨st', K', rfl, hI', he2, hs'⟩
    exact ⟨⟨m, hrm⟩, Nat.lt_of_le_of_lt ((leastOf_spec ⟨m, hrm⟩).2 m hrm) hm⟩
  | exit i =>
    cases e <;> simp only [AXR] at hx <;> first | exact hx.elim | skip
    exact ⟨K', st', .exit i, rfl, he2, hs', hx, hq⟩
  | ret =>
    cases e <;> simp only [AXR] at hx <;> first | exact hx.elim | skip
    exact ⟨K', st', .ret, rfl, he2, hs', hx, hq⟩
  | panic v =>
    cases e <;> simp only [AXR] at hx <;> first | exact hx.elim | skip
    exact ⟨K', st', .panic v, rfl, he2, hs', hx, hq⟩
def AWs (P : Program) (own : Nat → Bool) (ro : Option Nat) (N : Nat) (ss : List AStep) (Q : AX → ASt → Prop) (st : ASt) : Prop :=
  ∀ (ops : Array Oper) (i : Nat) (os : List Oper), compileSteps P own N ops i os = some ss → ∀ (w0 : World) (K : Wd) (a : Act), StR w0 N K st a →
    wpListIn { Fence.wide with round := ro } 0 P ops (Post w0 N K st.nx Q) os a K.w
theorem AW_region {ss : List AStep} (h : ∀ id, AWs P (own id) ro N ss Q st) : AW P own ro N (.region ss) Q st := by
  intro c hc w0 K a hs
  obtain ⟨id, os, rfl, h1⟩ := inv_region hc
  refine wpIn_region ?_
  rw [List.range_eq_range', ← Array.length_toList, wpOpsIn_eq_wpListIn os.toList 0 (by simp)]
  exact h id os 0 os.toList h1 w0 K a hs
end
section
variable {P : Program} {own : Nat → Bool} {ro : Option Nat} {N : Nat} {Q : AX → ASt → Prop} {st : ASt}
theorem AWs_nil (h : Q .normal st) : AWs P own ro N [] Q st := by
  intro ops i os hc w0 K a hs
  cases os with
  | nil => exact wpListIn_nil ⟨K, st, .normal, rfl, Ext.refl _ _, hs, trivial, h⟩
  | cons o r => simp only [compileSteps] at hc; split at hc <;> cases hc
def guardOk (env : Env) : Option (Tmp × Bool) → Option Bool
  | none => some true
  | some (t, b) => match eget env t with
    | some (.bool c) => some (c == b)
    | some (.tup []) => some false
    | _ => none
def edel : Env → Nat → Env
  | [], _ => []
  | (i, x) :: r, t => if i = t then edel r t else (i, x) :: edel r t
def setE (d : Option Tmp) (x : AV) (env : Env) : Env := match d with
  | none => env
  | some d => (d, x) :: env
def dropE (d : Option Tmp) (env : Env) : Env := setE d (.tup []) env
theorem VR_undef (K : Wd) (nx : Nat) : VR K nx (.tup []) undef := .tup [] #[] rfl fun i x v hx => by simp at hx
theorem wanted_of {K : Wd} {nx : Nat} {env : Env} {a : Act} (he : EnvR K nx env a.tmps) {ops : Array Oper} {o : Oper} {g : Option (Tmp × Bool)} (hg : compileGuard ops o = some g) {b : Bool} (h : guardOk env g = some b) :
    Region.wanted o (yielded ops a.tmps) = b := by
  unfold compileGuard at hg
  unfold Region.wanted
  split at hg
  · rename_i hn; cases hg
    simp only [guardOk, Option.some.injEq] at h; subst h
    simp [hn]
  · rename_i j c hn
    obtain ⟨t, ht, rfl⟩ := Option.map_eq_some_iff.1 hg
    simp only [guardOk] at h
    split at h
    · rename_i b' hb
      simp only [Option.some.injEq] at h; subst h
      obtain ⟨v, h1, h2⟩ := he t _ hb
      cases h2
      simp [hn, yielded, ht, h1]
    · rename_i hb
      simp only [Option.some.injEq] at h; subst h
      obtain ⟨v, h1, h2⟩ := he t _ hb
      cases h2
      simp [hn, yielded, ht, h1]
    · cases h
theorem put_StR {w0 : World} {K K' : Wd} {st st' : ASt} {a : Act} (hs : StR w0 N K st a) (hext : Ext K st.nx K' st'.nx) (hg : Good w0 K' st'.heap st'.nx) {d : Option Tmp} (hd : ∀ t, d = some t → t < N) {x : AV} {v : Value} (hv : VR K' st'.nx x v)
    (he : st'.env = setE d x st.env) (hdm : st'.dm = st.dm) : StR w0 N K' st' (a.put d v) := by
  have hmk : marks K' st.dm = marks K st.dm := by
    unfold marks
    rw [hext.ds]
    congr 1
    apply List.map_congr_left
    intro b hb
    rw [hext.m b (hs.dm b hb)]
  refine ⟨hg, ?_, ?_, ?_, fun b hb => Nat.lt_of_lt_of_le (hs.dm b (by rw [← hdm]; exact hb)) hext.le⟩
  · rw [he]
    cases d with
    | none => exact hs.env.mono hext
    | some t => exact (hs.env.mono hext).put (by rw [hs.size]; exact hd t rfl) hv
  · cases d <;> simp [Act.put, hs.size]
  · rw [hdm, hmk, ← hs.defers]; cases d <;> rfl
theorem drop_StR {w0 : World} {K K' : Wd} {st st' : ASt} {a : Act} (hs : StR w0 N K st a) (hext : Ext K st.nx K' st'.nx) (hg : Good w0 K' st'.heap st'.nx) {d : Option Tmp} (hd : ∀ t, d = some t → t < N) (he : st'.env = dropE d st.env) (hdm : st'.dm = st.dm) : StR w0 N K' st' (a.put d undef) :=
  put_StR hs hext hg hd (VR_undef K' st'.nx) he hdm
theorem inv_step {s : AStep} {ss : List AStep} {ops : Array Oper} {i : Nat} {os : List Oper} (h : compileSteps P own N ops i os = some (s :: ss)) :
    ∃ o r, os = o :: r ∧ compileSteps P own N ops (i + 1) r = some ss ∧ compileGuard ops o = some s.guard ∧ compileAct P (own i) o = some s.act ∧ o.dst = s.dst ∧ ∀ t, s.dst = some t → t < N := by
  cases os with
  | nil => simp [compileSteps] at h
  | cons o r =>
    simp only [compileSteps] at h
    split at h
    · rename_i h1 h2
      cases h
      unfold compileStep at h1
      split at h1
      · rename_i g x hg hx
        split at h1
        · rename_i hd; cases h1; exact ⟨o, r, rfl, h2, hg, hx, hd, fun t ht => by cases ht⟩
        · rename_i d hd
          split at h1
          · rename_i hlt; cases h1; exact ⟨o, r, rfl, h2, hg, hx, hd, fun t ht => by cases ht; exact hlt⟩
          · cases h1
      · cases h1
    · cases h
theorem AWs_skip {s : AStep} {ss : List AStep} (hg : guardOk st.env s.guard = some false) (h : AWs P own ro N ss Q { st with env := dropE s.dst st.env }) : AWs P own ro N (s :: ss) Q st := by
  intro ops i os hc w0 K a hs
  obtain ⟨o, r, rfl, h1, h2, h3, h4, h5⟩ := inv_step hc
  have hw := wanted_of hs.env h2 hg
  simp only [wpListIn, hw, Bool.false_eq_true, if_false]
  refine ⟨fun f _ => trivial, ?_⟩
  rw [h4]
  exact h ops _ r h1 w0 K _ (drop_StR (st' := { st with env := dropE s.dst st.env }) hs (Ext.refl _ _) hs.good h5 rfl rfl)
theorem uponIn_mono {F : Fence} {n : Nat} {o : Oper} {a : Act} {next next' : Act → World → Prop} {Q1 Q2 : Exit → Act → World → Prop} (hn : ∀ a w, next a w → next' a w) (hq : ∀ e a w, Q1 e a w → Q2 e a w) {r : Result Next}
    (h : o.uponIn F n P a next Q1 r) : o.uponIn F n P a next' Q2 r := by
  unfold Oper.uponIn at h ⊢
  split at h
  · exact hn _ _ h
  · exact hn _ _ h
  · exact hn _ _ h
  · refine ⟨h.1, h.2.mono fun e w' hr => ?_⟩
    cases e with
    | returned v => exact hn _ _ hr
    | panicked ch => exact hq _ _ _ hr
    | outgrown => obtain ⟨a0, w0, hq0⟩ := hr; exact ⟨a0, w0, hq _ _ _ hq0⟩
  · exact ⟨h.1, h.2.mono fun v w' hr => hn _ _ hr⟩
  · refine ⟨h.1, h.2.mono fun e w' hr => ?_⟩
    cases e with
    | returned v => exact hn _ _ hr
    | panicked ch => exact hq _ _ _ hr
    | outgrown => obtain ⟨a0, w0, hq0⟩ := hr; exact ⟨a0, w0, hq _ _ _ hq0⟩
  · exact hq _ _ _ h
  · exact h.elim
theorem wpListIn_mono {F : Fence} {n : Nat} {ops : Array Oper} {Q1 Q2 : Exit → Act → World → Prop} (hq : ∀ e a w, Q1 e a w → Q2 e a w) : ∀ (l : List Oper) (a : Act) (w : World), wpListIn F n P ops Q1 l a w → wpListIn F n P ops Q2 l a w
  | [], a, w, h => hq _ _ _ h
  | o :: l, a, w, h => by
    simp only [wpListIn] at h ⊢
    split
    · rename_i hw
      rw [if_pos hw] at h
      exact ⟨h.1, uponIn_mono (fun a w hh => wpListIn_mono hq l a w hh) hq h.2⟩
    · rename_i hw
      rw [if_neg hw] at h
      exact ⟨h.1, wpListIn_mono hq l _ _ h.2⟩
theorem inv_call {o : Oper} {i : Nat} {fo : Operand} {args : List Operand} (h3 : compileAct P (own i) o = some (.call fo args)) : (∃ c : Call, o.op = .call c ∧ c.callee = .value fo ∧ c.args.toList = args ∧ isMark args = false) ∨ (o.op = .next fo false ∧ args = [nxM]) ∨ (o.op = .panic fo ∧ args = [nxM, nxM]) := by
  unfold compileAct at h3
  split at h3
  · split at h3
    · rename_i p hp; cases h3; exact .inr (.inr ⟨hp, rfl⟩)
    · cases h3
  · split at h3
    · rename_i c hcq
      split at h3
      · rename_i f' hf'
        split at h3
        · cases h3
        · rename_i hm; cases h3; exact .inl ⟨c, hcq, hf', rfl, by simpa using hm⟩
      · cases h3
    · rename_i it hcq; cases h3; exact .inr (.inl ⟨hcq, rfl⟩)
    · cases h3
theorem mark_none (env : Env) : oevs env [nxM] = none := rfl
theorem inv_call' {o : Oper} {i : Nat} {fo : Operand} {args : List Operand} (h3 : compileAct P (own i) o = some (.call fo args)) {env : Env} {xs : List AV} (hx : oevs env args = some xs) : ∃ c : Call, o.op = .call c ∧ c.callee = .value fo ∧ c.args.toList = args := by
  rcases inv_call h3 with ⟨c, h1, h2, h4, _⟩ | ⟨_, rfl⟩ | ⟨_, rfl⟩
  · exact ⟨c, h1, h2, h4⟩
  · rw [mark_none] at hx; cases hx
  · cases hx
theorem act_op {o : Oper} {i : Nat} {ao : AOp} (h3 : compileAct P (own i) o = some (.op ao)) : compileOp P (own i) o = some ao := by
  unfold compileAct at h3
  split at h3
  · rename_i x hx
    split at h3
    · cases h3
    · cases h3; exact hx
  · split at h3
    · split at h3
      · split at h3 <;> cases h3
      · cases h3
    · cases h3
    · cases h3
theorem AWs_val {d : Option Tmp} {g : Option (Tmp × Bool)} {ao : AOp} {ss : List AStep} {x : AV} {h' : Heap} {nx' : Nat} (hg : guardOk st.env g = some true) (hev : opEv ao st.env st.heap st.nx = some (.val x, h', nx'))
    (h : AWs P own ro N ss Q { st with env := setE d x st.env, heap := h', nx := nx' }) : AWs P own ro N (⟨d, g, .op ao⟩ :: ss) Q st := by
  intro ops i os hc w0 K a hs
  obtain ⟨o, r, rfl, h1, h2, h3, h4, h5⟩ := inv_step hc
  have hw := wanted_of hs.env h2 hg
  obtain ⟨hsnd, hnd⟩ := op_sound (act_op h3)
  obtain ⟨K', rr, hrun, hext, hgood, hout⟩ := hsnd w0 K st.heap st.nx st.env a _ h' nx' hs.good hs.env hev
  simp only [wpListIn, hw, if_true, Oper.wpIn]
  refine ⟨fun f _ => trivial, ?_⟩
  rw [Oper.semAt_eq _ _ _ hnd, hrun]
  cases rr <;> simp only [outR] at hout <;> first | exact hout.elim | skip
  rename_i v
  simp only [Oper.uponIn, h4]
  have := h ops _ r h1 w0 K' _ (put_StR (st' := { st with env := setE d x st.env, heap := h', nx := nx' }) hs hext hgood h5 hout rfl rfl)
  exact wpListIn_mono (fun e a w hp => Post.of_ext hext hp) _ _ _ this
theorem AWs_skp {d : Option Tmp} {g : Option (Tmp × Bool)} {ao : AOp} {ss : List AStep} {h' : Heap} {nx' : Nat} (hg : guardOk st.env g = some true) (hev : opEv ao st.env st.heap st.nx = some (.skip, h', nx'))
    (h : AWs P own ro N ss Q { st with env := dropE d st.env, heap := h', nx := nx' }) : AWs P own ro N (⟨d, g, .op ao⟩ :: ss) Q st := by
  intro ops i os hc w0 K a hs
  obtain ⟨o, r, rfl, h1, h2, h3, h4, h5⟩ := inv_step hc
  have hw := wanted_of hs.env h2 hg
  obtain ⟨hsnd, hnd⟩ := op_sound (act_op h3)
  obtain ⟨K', rr, hrun, hext, hgood, hout⟩ := hsnd w0 K st.heap st.nx st.env a _ h' nx' hs.good hs.env hev
  simp only [wpListIn, hw, if_true, Oper.wpIn]
  refine ⟨fun f _ => trivial, ?_⟩
  rw [Oper.semAt_eq _ _ _ hnd, hrun]
  cases rr <;> simp only [outR] at hout <;> first | exact hout.elim | skip
  simp only [Oper.uponIn, h4]
  have := h ops _ r h1 w0 K' _ (drop_StR (st' := { st with env := dropE d st.env, heap := h', nx := nx' }) hs hext hgood h5 rfl rfl)
  exact wpListIn_mono (fun e a w hp => Post.of_ext hext hp) _ _ _ this
inductive AE where
  | ret (x : AV)
  | panic (x : AV)
def AER (K : Wd) (nx : Nat) : AE → Ending → Prop
  | .ret x, .returned v => VR K nx x v
  | .panic x, .panicked ch => ∃ v, ch = [{ v, recovered := false }] ∧ VR K nx x v
  | _, _ => False
def ArgR (K : Wd) (nx : Nat) (xs : List AV) (args : Array Value) : Prop := args.size = xs.length ∧ ∀ (i : Nat) (x : AV) (v : Value), xs[i]? = some x → args[i]? = some v → VR K nx x v
def AC (P : Program) (f : FuncId) (xs : List AV) (h : Heap) (nx : Nat) (Q : AE → Heap → Nat → Prop) : Prop :=
  (∀ args w, (callFunc f args).run P w = .ok (.enter f args) w) ∧
  ∀ (w0 : World) (K : Wd) (args : Array Value), Good w0 K h nx → ArgR K nx xs args →
    Calls P f args K.w fun e w' => ∃ K' h' nx' y, K'.w = w' ∧ Ext K nx K' nx' ∧ Good w0 K' h' nx' ∧ AER K' nx' y e ∧ Q y h' nx'
theorem AC.mono {f : FuncId} {xs : List AV} {h : Heap} {nx : Nat} {Q1 Q2 : AE → Heap → Nat → Prop} (hc : AC P f xs h nx Q1) (hq : ∀ y h' n, Q1 y h' n → Q2 y h' n) : AC P f xs h nx Q2 :=
  ⟨hc.1, fun w0 K args hg ha => (hc.2 w0 K args hg ha).mono fun e w' ⟨K', h', nx', y, h1, h2, h3, h4, h5⟩ => ⟨K', h', nx', y, h1, h2, h3, h4, hq _ _ _ h5⟩⟩
theorem AWs_call {d : Option Tmp} {g : Option (Tmp × Bool)} {fo : Operand} {args : List Operand} {ss : List AStep} {f : FuncId} {caps xs : List AV} (hg : guardOk st.env g = some true) (hf : oev st.env fo = some (.fn (.func f) caps)) (hx : oevs st.env args = some xs)
    (h : AC P f (xs ++ caps) st.heap st.nx fun y h' n => match y with
      | .ret x => AWs P own ro N ss Q { st with env := setE d x st.env, heap := h', nx := n }
      | .panic x => Q (.panic x) { st with heap := h', nx := n }) : AWs P own ro N (⟨d, g, .call fo args⟩ :: ss) Q st := by
  intro ops i os hc w0 K a hs
  obtain ⟨o, r, rfl, h1, h2, h3, h4, h5⟩ := inv_step hc
  have hw := wanted_of hs.env h2 hg
  have hop : ∃ c : Call, o.op = .call c ∧ c.callee = .value fo ∧ c.args.toList = args := inv_call' (own := own) h3 hx
  obtain ⟨c, hop, hcal, hargs⟩ := hop
  have hnd : ∀ c, o.op ≠ .defer c := by intro c; rw [hop]; simp
  have hfv := oev_sound hs.env hf
  generalize hcf : a.eval fo = cf at hfv
  cases hfv with
  | fn _ _ cv hcs hcr =>
  obtain ⟨hl, hrel⟩ := oevs_sound hs.env args xs hx
  have hres : (execOp a.eval o).run P K.w = .ok (.enter f (c.args.map a.eval ++ cv)) K.w := by
    simp only [execOp, hop, Sem.run_bind, resolve, hcal, hcf, Deferred.ofValue, Sem.run_pure, Result.andThen_ok, invoke]
    have he : (#[] : Array Value) ++ c.args.map a.eval = c.args.map a.eval := by simp
    rw [he]
    exact h.1 _ _
  have harg : ArgR K st.nx (xs ++ caps) (c.args.map a.eval ++ cv) := by
    have hsz : (c.args.map a.eval).size = xs.length := by rw [Array.size_map, hl, ← hargs]; simp
    refine ⟨by simp only [Array.size_append, List.length_append, hsz, hcs], fun j x v hj hv => ?_⟩
    rw [List.getElem?_append] at hj
    rw [Array.getElem?_append, hsz] at hv
    split at hj
    · rename_i hlt
      rw [if_pos hlt] at hv
      refine hrel j x v hj ?_
      rw [← hargs]
      simpa using hv
    · rename_i hlt
      rw [if_neg hlt] at hv
      exact hcr _ x v hj hv
  simp only [wpListIn, hw, if_true, Oper.wpIn]
  refine ⟨fun f _ => trivial, ?_⟩
  rw [Oper.semAt_eq _ _ _ hnd, hres]
  simp only [Oper.uponIn]
  refine ⟨fun hh => by simp [Fence.wide] at hh, ?_⟩
  have hcalls := h.2 w0 K _ hs.good harg
  have hcin : CallsIn Fence.wide (0 - 1) P f (c.args.map a.eval ++ cv) K.w _ := callsIn_wide.2 hcalls
  have hcin2 : CallsIn { Fence.wide with round := ro } (0 - 1) P f (c.args.map a.eval ++ cv) K.w _ := hcin
  refine hcin2.mono ?_
  rintro e w' ⟨K', h', nx', y, rfl, hext, hgood, her, hq⟩
  cases y with
  | ret x =>
    cases e <;> simp only [AER] at her <;> first | exact her.elim | skip
    rename_i v
    simp only [h4]
    have := hq ops _ r h1 w0 K' _ (put_StR (st' := { st with env := setE d x st.env, heap := h', nx := nx' }) hs hext hgood h5 her rfl rfl)
    exact wpListIn_mono (fun e a w hp => Post.of_ext hext hp) _ _ _ this
  | panic x =>
    cases e <;> simp only [AER] at her <;> first | exact her.elim | skip
    rename_i ch
    refine ⟨K', { st with heap := h', nx := nx' }, .panic x, rfl, hext, ⟨hgood, hs.env.mono hext, hs.size, ?_, fun b hb => Nat.lt_of_lt_of_le (hs.dm b hb) hext.le⟩, her, hq⟩
    rw [hs.defers]
    unfold marks
    rw [hext.ds]
    congr 1
    apply List.map_congr_left
    intro b hb
    rw [hext.m b (hs.dm b hb)]
theorem AWs_callB {d : Option Tmp} {g : Option (Tmp × Bool)} {fo : Operand} {args : List Operand} {ss : List AStep} {f : FuncId} {fs caps xs : List AV} (hg : guardOk st.env g = some true) (hf : oev st.env fo = some (.bm (.func f) fs caps)) (hx : oevs st.env args = some xs)
    (h : AC P f (fs ++ (xs ++ caps)) st.heap st.nx fun y h' n => match y with
      | .ret x => AWs P own ro N ss Q { st with env := setE d x st.env, heap := h', nx := n }
      | .panic x => Q (.panic x) { st with heap := h', nx := n }) : AWs P own ro N (⟨d, g, .call fo args⟩ :: ss) Q st := by
  intro ops i os hc w0 K a hs
  obtain ⟨o, r, rfl, h1, h2, h3, h4, h5⟩ := inv_step hc
  have hw := wanted_of hs.env h2 hg
  have hop : ∃ c : Call, o.op = .call c ∧ c.callee = .value fo ∧ c.args.toList = args := inv_call' (own := own) h3 hx
  obtain ⟨c, hop, hcal, hargs⟩ := hop
  have hnd : ∀ c, o.op ≠ .defer c := by intro c; rw [hop]; simp
  have hfv := oev_sound hs.env hf
  generalize hcf : a.eval fo = cf at hfv
  cases hfv with
  | bm _ _ _ c1 cv hcs1 hcs hcr1 hcr =>
  obtain ⟨hl, hrel⟩ := oevs_sound hs.env args xs hx
  have hres : (execOp a.eval o).run P K.w = .ok (.enter f (c1 ++ c.args.map a.eval ++ cv)) K.w := by
    simp only [execOp, hop, Sem.run_bind, resolve, hcal, hcf, Deferred.ofValue, Sem.run_pure, Result.andThen_ok, invoke]
    exact h.1 _ _
  have harg : ArgR K st.nx (fs ++ (xs ++ caps)) (c1 ++ c.args.map a.eval ++ cv) := by
    have hsz : (c.args.map a.eval).size = xs.length := by rw [Array.size_map, hl, ← hargs]; simp
    have hin : ArgR K st.nx (xs ++ caps) (c.args.map a.eval ++ cv) := by
      refine ⟨by simp only [Array.size_append, List.length_append, hsz, hcs], fun j x v hj hv => ?_⟩
      rw [List.getElem?_append] at hj
      rw [Array.getElem?_append, hsz] at hv
      split at hj
      · rename_i hlt
        rw [if_pos hlt] at hv
        refine hrel j x v hj ?_
        rw [← hargs]
        simpa using hv
      · rename_i hlt
        rw [if_neg hlt] at hv
        exact hcr _ x v hj hv
    rw [Array.append_assoc]
    refine ⟨by rw [Array.size_append, List.length_append, hcs1, hin.1], fun j x v hj hv => ?_⟩
    rw [List.getElem?_append] at hj
    rw [Array.getElem?_append, hcs1] at hv
    split at hj
    · rename_i hlt
      rw [if_pos hlt] at hv
      exact hcr1 j x v hj hv
    · rename_i hlt
      rw [if_neg hlt] at hv
      exact hin.2 _ x v hj hv
  simp only [wpListIn, hw, if_true, Oper.wpIn]
  refine ⟨fun f _ => trivial, ?_⟩
  rw [Oper.semAt_eq _ _ _ hnd, hres]
  simp only [Oper.uponIn]
  refine ⟨fun hh => by simp [Fence.wide] at hh, ?_⟩
  have hcalls := h.2 w0 K _ hs.good harg
  have hcin : CallsIn Fence.wide (0 - 1) P f (c1 ++ c.args.map a.eval ++ cv) K.w _ := callsIn_wide.2 hcalls
  have hcin2 : CallsIn { Fence.wide with round := ro } (0 - 1) P f (c1 ++ c.args.map a.eval ++ cv) K.w _ := hcin
  refine hcin2.mono ?_
  rintro e w' ⟨K', h', nx', y, rfl, hext, hgood, her, hq⟩
  cases y with
  | ret x =>
    cases e <;> simp only [AER] at her <;> first | exact her.elim | skip
    rename_i v
    simp only [h4]
    have := hq ops _ r h1 w0 K' _ (put_StR (st' := { st with env := setE d x st.env, heap := h', nx := nx' }) hs hext hgood h5 her rfl rfl)
    exact wpListIn_mono (fun e a w hp => Post.of_ext hext hp) _ _ _ this
  | panic x =>
    cases e <;> simp only [AER] at her <;> first | exact her.elim | skip
    rename_i ch
    refine ⟨K', { st with heap := h', nx := nx' }, .panic x, rfl, hext, ⟨hgood, hs.env.mono hext, hs.size, ?_, fun b hb => Nat.lt_of_lt_of_le (hs.dm b hb) hext.le⟩, her, hq⟩
    rw [hs.defers]
    unfold marks
    rw [hext.ds]
    congr 1
    apply List.map_congr_left
    intro b hb
    rw [hext.m b (hs.dm b hb)]
theorem AWs_next {d : Option Tmp} {g : Option (Tmp × Bool)} {it : Operand} {ss : List AStep} {b mb since last ck : Nat} {seen sts : List Nat} {es : List (AV × AV)} (hg : guardOk st.env g = some true) (hf : oev st.env it = some (.op b 0)) (hb : hget st.heap b = some (.mit mb since seen last)) (hm : hget st.heap mb = some (.map es sts ck))
    (hold : ∀ s ∈ sts, s < since) (hsl : since ≤ last)
    (h0 : (∀ s ∈ sts, s ∈ seen) → AWs P own ro N ss Q { st with env := setE d (.tup [.bool false]) st.env })
    (h1 : ∀ (i : Nat) (k x : AV) (s : Nat), es[i]? = some (k, x) → sts[i]? = some s → s ∉ seen → AWs P own ro N ss Q { st with env := setE d (.tup [.bool true, k, x]) st.env, heap := hset st.heap b (.mit mb since (seen ++ [s]) ck) }) : AWs P own ro N (⟨d, g, .call it [nxM]⟩ :: ss) Q st := by
  intro ops i os hc w0 K a hs
  obtain ⟨o, r, rfl, h1', h2, h3, h4, h5⟩ := inv_step hc
  have hw := wanted_of hs.env h2 hg
  have hop : o.op = .next it false := by
    rcases inv_call (own := own) h3 with ⟨c, _, _, _, hm'⟩ | ⟨h, _⟩ | ⟨_, h⟩
    · cases hm'
    · exact h
    · cases h
  have hnd : ∀ c, o.op ≠ .defer c := by intro c; rw [hop]; simp
  have hfv := oev_sound hs.env hf
  simp only [wpListIn, hw, if_true, Oper.wpIn]
  refine ⟨fun f _ => trivial, ?_⟩
  rcases next_sound (P := P) hs.good hb hm hold hsl hfv o.type with ⟨hall, hrun⟩ | ⟨j, k, x, s, K', v, k1, k2, k3, hrun, hext, hgood, hv⟩
  · have hres : (execOp a.eval o).run P K.w = .ok (.value (.tuple #[.bool false])) K.w := by simp [execOp, hop, hrun]
    rw [Oper.semAt_eq _ _ _ hnd, hres]
    simp only [Oper.uponIn, h4]
    have hvr : VR K st.nx (.tup [.bool false]) (.tuple #[.bool false]) := .tup _ _ rfl fun q y v hq hv => by
      match q with
      | 0 => simp at hq hv; subst hq; subst hv; exact .bool false
      | q + 1 => simp at hq
    exact h0 hall ops _ r h1' w0 K _ (put_StR (st' := { st with env := setE d (.tup [.bool false]) st.env }) hs (Ext.refl _ _) hs.good h5 hvr rfl rfl)
  · have hres : (execOp a.eval o).run P K.w = .ok (.value v) K'.w := by simp [execOp, hop, hrun]
    rw [Oper.semAt_eq _ _ _ hnd, hres]
    simp only [Oper.uponIn, h4]
    have := h1 j k x s k1 k2 k3 ops _ r h1' w0 K' _ (put_StR (st' := { st with env := setE d (.tup [.bool true, k, x]) st.env, heap := hset st.heap b (.mit mb since (seen ++ [s]) ck) }) hs hext hgood h5 hv rfl rfl)
    exact wpListIn_mono (fun e a w hp => Post.of_ext hext hp) _ _ _ this
theorem AWs_panic {d : Option Tmp} {g : Option (Tmp × Bool)} {fo : Operand} {ss : List AStep} {t : TypeId} {x : AV} (hg : guardOk st.env g = some true) (hf : oev st.env fo = some (.ifc t x))
    (h : Q (.panic (.ifc t x)) st) : AWs P own ro N (⟨d, g, .call fo [nxM, nxM]⟩ :: ss) Q st := by
  intro ops i os hc w0 K a hs
  obtain ⟨o, r, rfl, h1', h2, h3, h4, h5⟩ := inv_step hc
  have hw := wanted_of hs.env h2 hg
  have hop : o.op = .panic fo := by
    rcases inv_call (own := own) h3 with ⟨c, _, _, _, hm'⟩ | ⟨_, h⟩ | ⟨h, _⟩
    · cases hm'
    · cases h
    · exact h
  have hnd : ∀ c, o.op ≠ .defer c := by intro c; rw [hop]; simp
  have hfv := oev_sound hs.env hf
  generalize hcf : a.eval fo = cf at hfv
  cases hfv with
  | ifc _ _ v hv =>
  simp only [wpListIn, hw, if_true, Oper.wpIn]
  refine ⟨fun f _ => trivial, ?_⟩
  have hres : (execOp a.eval o).run P K.w = .halt (.panic (.iface t v)) K.w := by simp [execOp, hop, hcf, Instr.panic]
  rw [Oper.semAt_eq _ _ _ hnd, hres]
  simp only [Oper.uponIn]
  exact ⟨K, st, .panic (.ifc t x), rfl, Ext.refl _ _, hs, ⟨_, rfl, .ifc t x v hv⟩, h⟩
def AY (P : Program) (b : Nat) (xs : List AV) (h : Heap) (nx : Nat) (Q : AE → Heap → Nat → Prop) : Prop :=
  ∀ (w0 : World) (K : Wd) (args : Array Value), Good w0 K h nx → ArgR K nx xs args →
    YieldAt Fence.wide 0 P (K.m b) args K.w fun e w' => ∃ K' h' nx' y, K'.w = w' ∧ Ext K nx K' nx' ∧ Good w0 K' h' nx' ∧ AER K' nx' y e ∧ Q y h' nx'
theorem AY.mono {b : Nat} {xs : List AV} {h : Heap} {nx : Nat} {Q1 Q2 : AE → Heap → Nat → Prop} (hc : AY P b xs h nx Q1) (hq : ∀ y h' n, Q1 y h' n → Q2 y h' n) : AY P b xs h nx Q2 :=
  fun w0 K args hg ha => let ⟨fn, tmps, as, bd, hy, hR⟩ := hc w0 K args hg ha; ⟨fn, tmps, as, bd, hy, hR.mono fun e w' ⟨K', h', nx', y, h1, h2, h3, h4, h5⟩ => ⟨K', h', nx', y, h1, h2, h3, h4, hq _ _ _ h5⟩⟩
theorem AWs_yield {d : Option Tmp} {g : Option (Tmp × Bool)} {fo : Operand} {args : List Operand} {ss : List AStep} {b : Nat} {xs : List AV} (hg : guardOk st.env g = some true) (hf : oev st.env fo = some (.yl b)) (hx : oevs st.env args = some xs)
    (h : AY P b xs st.heap st.nx fun y h' n => match y with
      | .ret x => AWs P own ro N ss Q { st with env := setE d x st.env, heap := h', nx := n }
      | .panic x => Q (.panic x) { st with heap := h', nx := n }) : AWs P own ro N (⟨d, g, .call fo args⟩ :: ss) Q st := by
  intro ops i os hc w0 K a hs
  obtain ⟨o, r, rfl, h1, h2, h3, h4, h5⟩ := inv_step hc
  have hw := wanted_of hs.env h2 hg
  have hop : ∃ c : Call, o.op = .call c ∧ c.callee = .value fo ∧ c.args.toList = args := inv_call' (own := own) h3 hx
  obtain ⟨c, hop, hcal, hargs⟩ := hop
  have hnd : ∀ c, o.op ≠ .defer c := by intro c; rw [hop]; simp
  have hfv := oev_sound hs.env hf
  generalize hcf : a.eval fo = cf at hfv
  cases hfv with
  | yl _ hlt l hl =>
  subst hl
  obtain ⟨hl, hrel⟩ := oevs_sound hs.env args xs hx
  have harg : ArgR K st.nx xs (c.args.map a.eval) := by
    have hsz : (c.args.map a.eval).size = xs.length := by rw [Array.size_map, hl, ← hargs]; simp
    refine ⟨hsz, fun j x v hj hv => ?_⟩
    refine hrel j x v hj ?_
    rw [← hargs]
    simpa using hv
  obtain ⟨fn, tmps, as, bd, hrun, hround⟩ := h w0 K _ hs.good harg
  have hres : (execOp a.eval o).run P K.w = .ok (.round (K.m b) fn tmps as bd) K.w := by
    simp only [execOp, hop, Sem.run_bind, resolve, hcal, hcf, Deferred.ofValue, Sem.run_pure, Result.andThen_ok, invoke]
    have he : (#[] : Array Value) ++ c.args.map a.eval ++ #[] = c.args.map a.eval := by simp
    first
    | exact hrun
    | (rw [he]; exact hrun)
    | (simp only [Array.append_empty, Array.empty_append]; exact hrun)
  simp only [wpListIn, hw, if_true, Oper.wpIn]
  refine ⟨fun f _ => trivial, ?_⟩
  rw [Oper.semAt_eq _ _ _ hnd, hres]
  simp only [Oper.uponIn]
  refine ⟨fun hh => by simp [Fence.wide] at hh, ?_⟩
  have hcin2 : RoundIn { Fence.wide with round := ro } (0 - 1) P (K.m b) fn tmps as bd K.w _ := hround
  refine hcin2.mono ?_
  rintro e w' ⟨K', h', nx', y, rfl, hext, hgood, her, hq⟩
  cases y with
  | ret x =>
    cases e <;> simp only [AER] at her <;> first | exact her.elim | skip
    rename_i v
    simp only [h4]
    have := hq ops _ r h1 w0 K' _ (put_StR (st' := { st with env := setE d x st.env, heap := h', nx := nx' }) hs hext hgood h5 her rfl rfl)
    exact wpListIn_mono (fun e a w hp => Post.of_ext hext hp) _ _ _ this
  | panic x =>
    cases e <;> simp only [AER] at her <;> first | exact her.elim | skip
    rename_i ch
    refine ⟨K', { st with heap := h', nx := nx' }, .panic x, rfl, hext, ⟨hgood, hs.env.mono hext, hs.size, ?_, fun b hb => Nat.lt_of_lt_of_le (hs.dm b hb) hext.le⟩, her, hq⟩
    rw [hs.defers]
    unfold marks
    rw [hext.ds]
    congr 1
    apply List.map_congr_left
    intro b hb
    rw [hext.m b (hs.dm b hb)]
end
end Go.Ab
namespace Go.Ab
open Go.RowKit
set_option linter.unusedVariables false
set_option linter.unusedSimpArgs false
inductive RV where
  | tmp (t : Tmp)
  | cell (t : Tmp) (sz : Nat) (ag : Bool)
  deriving Inhabited
def compileRV (P : Program) : ResultVar → Option RV
  | .tmp t => some (.tmp t)
  | .cell a t => (P.underlying t).map fun _ => .cell a (sizeT P t) (isAggT P t)
def compileRes (P : Program) : List ResultVar → Option (List RV)
  | [] => some []
  | r :: rs => match compileRV P r, compileRes P rs with
    | some x, some xs => some (x :: xs)
    | _, _ => none
def rvEv (env : Env) (h : Heap) : RV → Option AV
  | .tmp t => eget env t
  | .cell t sz ag => match eget env t with
    | some p => (match ptrCells h p with
      | some cs => takeV sz ag cs
      | none => none)
    | none => none
def rvsEv (env : Env) (h : Heap) : List RV → Option (List AV)
  | [] => some []
  | r :: rs => match rvEv env h r, rvsEv env h rs with
    | some x, some xs => some (x :: xs)
    | _, _ => none
def resV : List AV → AV
  | [x] => x
  | xs => .tup xs
section
variable {P : Program} {w0 : World} {K : Wd} {h : Heap} {nx : Nat} {env : Env} {tmps : Array Value}
theorem rv_sound (g : Good w0 K h nx) (he : EnvR K nx env tmps) {F : ResultVar → Sem Value} (h1 : ∀ t, F (.tmp t) = pure (tmps.getD t undef)) (h2 : ∀ a t, F (.cell a t) = do loadVar t (← asAddr (tmps.getD a undef)))
    {r : ResultVar} {x : RV} {y : AV} (hc : compileRV P r = some x) (hy : rvEv env h x = some y) : ∃ v, (F r).run P K.w = .ok v K.w ∧ VR K nx y v := by
  cases r with
  | tmp t =>
    cases hc
    obtain ⟨v, h3, h4⟩ := he t y hy
    exact ⟨v, by rw [h1]; simp [Array.getD_eq_getD_getElem?, h3], h4⟩
  | cell a t =>
    obtain ⟨d, hd, rfl⟩ := Option.map_eq_some_iff.1 hc
    simp only [rvEv] at hy
    split at hy
    · rename_i p hp
      split at hy
      · rename_i cs hcs
        obtain ⟨v, h3, h4⟩ := he a p hp
        obtain ⟨u, h5, h6⟩ := load_sound (P := P) g hd hcs hy h4
        obtain ⟨ad, c, rfl, _, _⟩ := ptrCells_sound g hcs h4
        refine ⟨u, ?_, h6⟩
        have e1 : tmps.getD a undef = .pointer (some ad) := by simp [Array.getD_eq_getD_getElem?, h3]
        rw [h2]
        simp only [e1, Sem.run_bind, asAddr, Sem.run_pure, Result.andThen_ok]
        simpa [Instr.loadAt, Instr.sureAddr] using h5
      · cases hy
    · cases hy
theorem rvs_sound (g : Good w0 K h nx) (he : EnvR K nx env tmps) {F : ResultVar → Sem Value} (h1 : ∀ t, F (.tmp t) = pure (tmps.getD t undef)) (h2 : ∀ a t, F (.cell a t) = do loadVar t (← asAddr (tmps.getD a undef))) :
    ∀ (rs : List ResultVar) (xs : List RV) (ys : List AV), compileRes P rs = some xs → rvsEv env h xs = some ys →
    ∃ vs : List Value, (rs.mapM F).run P K.w = .ok vs K.w ∧ vs.length = ys.length ∧ ∀ (i : Nat) (y : AV) (v : Value), ys[i]? = some y → vs[i]? = some v → VR K nx y v
  | [], xs, ys, hc, hy => by
    simp only [compileRes, Option.some.injEq] at hc; subst hc
    simp only [rvsEv, Option.some.injEq] at hy; subst hy
    exact ⟨[], by simp, rfl, fun i y v h => by simp at h⟩
  | r :: rs, xs, ys, hc, hy => by
    simp only [compileRes] at hc
    split at hc
    · rename_i x xs' hx hxs
      simp only [Option.some.injEq] at hc; subst hc
      simp only [rvsEv] at hy
      split at hy
      · rename_i y ys' hy1 hys
        simp only [Option.some.injEq] at hy; subst hy
        obtain ⟨v, h3, h4⟩ := rv_sound (P := P) g he h1 h2 hx hy1
        obtain ⟨vs, h5, h6, h7⟩ := rvs_sound g he h1 h2 rs xs' ys' hxs hys
        refine ⟨v :: vs, ?_, by simp [h6], fun i y' u hi hu => ?_⟩
        · rw [List.mapM_cons, Sem.run_bind, h3]
          simp only [Result.andThen_ok, Sem.run_bind, h5, Sem.run_pure]
        · cases i with
          | zero => simp at hi hu; subst hi; subst hu; exact h4
          | succ i => simp only [List.getElem?_cons_succ] at hi hu; exact h7 i y' u hi hu
      · cases hy
    · cases hc
theorem results_sound (g : Good w0 K h nx) (he : EnvR K nx env tmps) {fn : Func} {xs : List RV} {ys : List AV} (hc : compileRes P fn.results.toList = some xs) (hy : rvsEv env h xs = some ys) :
    ∃ v, (results fn tmps).run P K.w = .ok v K.w ∧ VR K nx (resV ys) v := by
  have key : ∀ F : ResultVar → Sem Value, (∀ t, F (.tmp t) = pure (tmps.getD t undef)) → (∀ a t, F (.cell a t) = do loadVar t (← asAddr (tmps.getD a undef))) →
      ∃ v, ((do let vs ← fn.results.mapM F; pure (if h : vs.size = 1 then vs[0] else .tuple vs) : Sem Value)).run P K.w = .ok v K.w ∧ VR K nx (resV ys) v := by
    intro F h1 h2
    obtain ⟨vs, h3, h4, h5⟩ := rvs_sound (P := P) g he h1 h2 _ xs ys hc hy
    refine ⟨if h : vs.toArray.size = 1 then vs.toArray[0] else .tuple vs.toArray, ?_, ?_⟩
    · rw [Sem.run_bind, Array.mapM_eq_mapM_toList, Sem.run_map, h3]
      simp only [Result.andThen_ok, Sem.run_pure]
    · cases ys with
      | nil =>
        have : vs = [] := List.eq_nil_of_length_eq_zero h4
        subst this
        exact .tup [] #[] rfl fun i x v h => by simp at h
      | cons y r =>
        cases r with
        | nil =>
          cases vs with
          | nil => simp at h4
          | cons v r' =>
            have : r' = [] := List.eq_nil_of_length_eq_zero (by simpa using h4)
            subst this
            simpa [resV] using h5 0 y v rfl rfl
        | cons y2 r2 =>
          have hne : ¬ vs.toArray.size = 1 := by simp [h4]
          rw [dif_neg hne]
          exact .tup _ _ (by simp [h4]) fun i x v hx hv => h5 i x v hx (by simpa using hv)
  exact key _ (fun _ => rfl) (fun _ _ => rfl)
def penv : Nat → List AV → Env
  | _, [] => []
  | i, x :: r => (i, x) :: penv (i + 1) r
theorem eget_penv : ∀ (xs : List AV) (i t : Nat), eget (penv i xs) t = if i ≤ t then xs[t - i]? else none
  | [], i, t => by simp [penv, eget]
  | x :: r, i, t => by
    simp only [penv, eget_cons, eget_penv r (i + 1) t]
    by_cases h : i = t
    · subst h; simp
    · rw [if_neg h]
      by_cases h2 : i ≤ t
      · rw [if_pos (by omega), if_pos h2]
        have : t - i = t - (i + 1) + 1 := by omega
        rw [this, List.getElem?_cons_succ]
      · rw [if_neg (by omega), if_neg h2]
theorem Good.drop (g : Good w0 K h nx) {b : Nat} {o : AO} (hb : hget h b = some o) (ob' : Obj) (hs : ∀ c e, K.w.heap[K.m b]? = some (.cells c e (0, 0)) → ∃ c' : Array Value, ob' = .cells c' e (0, 0) ∧ c'.size = c.size) : Good w0 (K.putObj b ob') (hdel h b) nx ∧ Ext K nx (K.putObj b ob') nx := by
  obtain ⟨h1, h2, h3, ob, h4, h5⟩ := g.live b _ hb
  have he := Ext.putObj (ob := ob') g hb hs
  refine ⟨⟨fun k o1 hk => ?_, fun k k' o1 o2 hk hk' e => ?_, ?_, fun k off hz => by simp only [Wd.putObj, World.putObj_size]; exact g.zin k off hz, g.lo, g.gl.mono he⟩, he⟩
  · rw [hget_hdel] at hk
    split at hk
    · cases hk
    · rename_i e
      obtain ⟨k1, k2, k3, ob2, k4, k5⟩ := g.live k o1 hk
      have hne : K.m k ≠ K.m b := fun e' => e (g.inj k b o1 _ hk hb e').symm
      exact ⟨k1, k2, k3, ob2, by simp only [Wd.putObj]; rw [putObj_other _ _ _ _ hne]; exact k4, k5.mono he⟩
  · rw [hget_hdel] at hk hk'
    split at hk
    · cases hk
    · split at hk'
      · cases hk'
      · exact g.inj k k' o1 o2 hk hk' e
  · refine g.below.trans ⟨rfl, rfl, rfl, by simp [Wd.putObj], fun k hk => ?_⟩
    simp only [Wd.putObj]
    rw [putObj_other _ _ _ _ (by omega)]
theorem Good.shut (g : Good w0 K h nx) {b : Nat} (hb : hget h b = some .dfd) : Good w0 (K.putObj b (.deferred none)) (hdel h b) nx ∧ Ext K nx (K.putObj b (.deferred none)) nx := by
  obtain ⟨h1, h2, h3, ob, h4, h5⟩ := g.live b _ hb
  have hob : ob = .deferred (some []) := by cases h5; rfl
  subst hob
  have hs : ∀ c e, K.w.heap[K.m b]? = some (.cells c e (0, 0)) → ∃ c' : Array Value, (Obj.deferred none) = .cells c' e (0, 0) ∧ c'.size = c.size := by
    intro c e h; rw [h4] at h; cases h
  have he := Ext.putObj (ob := .deferred none) g hb hs
  refine ⟨⟨fun k o1 hk => ?_, fun k k' o1 o2 hk hk' e => ?_, ?_, fun k off hz => by simp only [Wd.putObj, World.putObj_size]; exact g.zin k off hz, g.lo, g.gl.mono he⟩, he⟩
  · rw [hget_hdel] at hk
    split at hk
    · cases hk
    · rename_i e
      obtain ⟨k1, k2, k3, ob2, k4, k5⟩ := g.live k o1 hk
      have hne : K.m k ≠ K.m b := fun e' => e (g.inj k b o1 _ hk hb e').symm
      exact ⟨k1, k2, k3, ob2, by simp only [Wd.putObj]; rw [putObj_other _ _ _ _ hne]; exact k4, k5.mono he⟩
  · rw [hget_hdel] at hk hk'
    split at hk
    · cases hk
    · split at hk'
      · cases hk'
      · exact g.inj k k' o1 o2 hk hk' e
  · refine g.below.trans ⟨rfl, rfl, rfl, by simp [Wd.putObj], fun k hk => ?_⟩
    simp only [Wd.putObj]
    rw [putObj_other _ _ _ _ (by omega)]
def dels : Heap → List Nat → Heap
  | h, [] => h
  | h, b :: r => dels (hdel h b) r
def dmOk (h : Heap) : List Nat → Prop
  | [] => True
  | b :: r => hget h b = some .dfd ∧ dmOk (hdel h b) r
theorem leaves_marks {fn : Func} {R : Ending → World → Prop} (u : FrameMode) (hu : u ≠ .run) : ∀ (dm : List Nat) (K : Wd) (h : Heap), Good w0 K h nx → dmOk h dm →
    (∀ K', Good w0 K' (dels h dm) nx → Ext K nx K' nx → LeavesInM Fence.wide 0 P fn tmps R K'.ds u K'.w) → LeavesInM Fence.wide 0 P fn tmps R (marks K dm) u K.w
  | [], K, h, g, hd, hk => hk K g (Ext.refl _ _)
  | b :: dm, K, h, g, hd, hk => by
    obtain ⟨hb, hd⟩ := hd
    obtain ⟨g', he⟩ := g.shut hb
    obtain ⟨h1, h2, h3, ob, h4, h5⟩ := g.live b _ hb
    have hob : ob = .deferred (some []) := by cases h5; rfl
    subst hob
    refine ⟨hu, .inl ⟨K.m b, _, rfl, run_takeDeferred h4, ?_⟩⟩
    have := leaves_marks u hu dm (K.putObj b (.deferred none)) (hdel h b) g' hd (fun K' hg hx => hk K' hg (he.trans hx))
    exact this
theorem VR.ds {K : Wd} {n : Nat} {x : AV} {v : Value} (l : List Deferred) (h : VR K n x v) : VR { K with ds := l } n x v := by
  induction h with
  | int k n => exact .int k n
  | bool b => exact .bool b
  | str l s h => exact .str l s h
  | agg cs c hs h1 h ih => exact .agg cs c hs h1 ih
  | tup cs c hs h ih => exact .tup cs c hs ih
  | lst0 sz es A n cap h0 hn hA => exact .lst0 sz es A n cap h0 hn hA
  | lst sz es a n cap c hn hc hcap hsz h1 hr h ih => exact .lst sz es a n cap c hn hc hcap hsz h1 hr ih
  | fp cs a c h1 hr h ih => exact .fp cs a c h1 hr ih
  | op b off hb a ha => exact .op b off hb a ha
  | os b off e sz len a n cap hn hb hc hcap hA hroom => exact .os b off e sz len a n cap hn hb hc hcap hA hroom
  | nilS => exact .nilS
  | emp A => exact .emp A
  | nilP => exact .nilP
  | nilI => exact .nilI
  | nilF => exact .nilF
  | nilM => exact .nilM
  | mp b hb r hr => exact .mp b hb r hr
  | fn f caps c hs h ih => exact .fn f caps c hs ih
  | bm f fs caps c1 c hs1 hs h1 h ih1 ih => exact .bm f fs caps c1 c hs1 hs ih1 ih
  | ifc t x v h ih => exact .ifc t x v ih
  | ne0 a cap => exact .ne0 a cap
  | yl b hb l hl => exact .yl b hb l hl
  | any v h => exact .any v h
  | oc b off e sz len cap a hb hc hcap hA hroom => exact .oc b off e sz len cap a hb hc hcap hA hroom
theorem OR.ds {K : Wd} {n : Nat} {o : AO} {ob : Obj} (l : List Deferred) (h : OR K n o ob) : OR { K with ds := l } n o ob := by
  cases h with
  | cells cs c e hs h1 h => exact .cells cs c e hs h1 fun i x v hx hv => (h i x v hx hv).ds l
  | map es st clock en hs hl h hb hc => exact .map es st clock en hs hl (fun i x y hx hy => ⟨(h i x y hx hy).1.ds l, (h i x y hx hy).2.1.ds l, (h i x y hx hy).2.2⟩) hb hc
  | mit b since seen last hb r hr => exact .mit b since seen last hb r hr
  | sit s l' hl pos => exact .sit s l' hl pos
  | dfd => exact .dfd
  | loop busy fn N env ps as bd dm hd tmps hs D hD h => exact .loop busy fn N env ps as bd dm hd tmps hs D hD fun t x hx => let ⟨v, h1, h2⟩ := h t x hx; ⟨v, h1, h2.ds l⟩
  | left j r h1 h2 => exact .left j r h1 h2
theorem Good.ds {w0 : World} {K : Wd} {h : Heap} {nx : Nat} (l : List Deferred) (g : Good w0 K h nx) : Good w0 { K with ds := l } h nx :=
  ⟨fun b o hb => let ⟨h1, h2, h3, ob, h4, h5⟩ := g.live b o hb; ⟨h1, h2, h3, ob, h4, h5.ds l⟩, g.inj, g.below, g.zin, g.lo, fun gi cs hg => (g.gl gi cs hg).ds _⟩
theorem ArgR.ds {K : Wd} {nx : Nat} {xs : List AV} {args : Array Value} (l : List Deferred) (h : ArgR K nx xs args) : ArgR { K with ds := l } nx xs args := ⟨h.1, fun i x v hx hv => (h.2 i x v hx hv).ds l⟩
theorem AER.ds {K : Wd} {nx : Nat} {y : AE} {e : Ending} (l : List Deferred) (h : AER K nx y e) : AER { K with ds := l } nx y e := by
  cases y <;> cases e <;> simp only [AER] at h ⊢ <;> first | exact h.ds l | (obtain ⟨v, h1, h2⟩ := h; exact ⟨v, h1, h2.ds l⟩)
theorem Ext.ds' {K K' : Wd} {n n' : Nat} {l : List Deferred} (h : Ext { K with ds := l } n K' n') : Ext K n { K' with ds := K.ds } n' := ⟨h.le, h.m, h.Z, h.ice, h.size, h.lo, h.Zn, rfl⟩
theorem AC_fresh {f : FuncId} {xs : List AV} {Q : AE → Heap → Nat → Prop} (h1 : ∀ args w, (callFunc f args).run P w = .ok (.enter f args) w)
    (h2 : ∀ (w0 : World) (K : Wd) (args : Array Value), K.ds = [] → Good w0 K h nx → ArgR K nx xs args → Calls P f args K.w fun e w' => ∃ K' h' nx' y, K'.w = w' ∧ Ext K nx K' nx' ∧ Good w0 K' h' nx' ∧ AER K' nx' y e ∧ Q y h' nx') : AC P f xs h nx Q := by
  refine ⟨h1, fun w0 K args hg ha => ?_⟩
  refine (h2 w0 { K with ds := [] } args rfl (hg.ds _) (ha.ds _)).mono ?_
  rintro e w' ⟨K', h', nx', y, rfl, hext, hgood, her, hq⟩
  exact ⟨{ K' with ds := K.ds }, h', nx', y, rfl, hext.ds', hgood.ds _, her.ds _, hq⟩
theorem AC_body {own : Nat → Nat → Bool} {f : FuncId} {fn : Func} {c : Code} {ac : ACode} {N : Nat} {rs : List RV} {xs : List AV} {Q : AE → Heap → Nat → Prop}
    (hf : P.funcs[f]? = some fn) (hb : fn.body = some c) (hN : fn.ntmps = N) (hcall : ∀ args w, (callFunc f args).run P w = .ok (.enter f args) w) (hc : compile P own N c = some ac) (hr : compileRes P fn.results.toList = some rs) (hl : xs.length ≤ N)
    (hw : AW P own none N ac (fun x st => dmOk st.heap st.dm ∧ match x with
      | .normal => ∃ ys, rvsEv st.env (dels st.heap st.dm) rs = some ys ∧ Q (.ret (resV ys)) (dels st.heap st.dm) st.nx
      | .ret => ∃ ys, rvsEv st.env (dels st.heap st.dm) rs = some ys ∧ Q (.ret (resV ys)) (dels st.heap st.dm) st.nx
      | .panic v => Q (.panic v) (dels st.heap st.dm) st.nx
      | .exit _ => False) { env := penv 0 xs, heap := h, nx := nx }) : AC P f xs h nx Q := by
  refine AC_fresh hcall fun w0 K args hds hg ha => ?_
  refine callsIn_wide.1 (callsIn_of_wp_marks (F := Fence.wide) (n := 0) hf hb trivial ?_)
  have hs : StR w0 N K { env := penv 0 xs, heap := h, nx := nx } { tmps := args ++ Array.replicate (fn.ntmps - args.size) undef, defers := [] } := by
    refine ⟨hg, fun t x hx => ?_, ?_, by simp [marks, hds], fun b hb => by simp at hb⟩
    · rw [eget_penv, if_pos (Nat.zero_le _)] at hx
      simp only [Nat.sub_zero] at hx
      have ht : t < args.size := by rw [ha.1]; exact (List.getElem?_eq_some_iff.1 hx).1
      refine ⟨args[t], ?_, ha.2 t x _ hx (Array.getElem?_eq_getElem ht)⟩
      rw [Array.getElem?_append_left ht]
      exact Array.getElem?_eq_getElem ht
    · simp only [Array.size_append, Array.size_replicate, ha.1, hN]
      omega
  have := hw c hc w0 K _ hs
  refine wpIn_mono (F := Fence.wide) this ?_
  rintro e a' w' ⟨K', st', x, rfl, hext, hs', hx, hdm, hq⟩
  have hret : (∃ ys, rvsEv st'.env (dels st'.heap st'.dm) rs = some ys ∧ Q (.ret (resV ys)) (dels st'.heap st'.dm) st'.nx) → LeavesInM Fence.wide 0 P fn a'.tmps (fun e w' => ∃ K' h' nx' y, K'.w = w' ∧ Ext K nx K' nx' ∧ Good w0 K' h' nx' ∧ AER K' nx' y e ∧ Q y h' nx') a'.defers .returning K'.w := by
    rintro ⟨ys, hys, hQ⟩
    rw [hs'.defers]
    refine leaves_marks (w0 := w0) (nx := st'.nx) .returning (by simp) st'.dm K' st'.heap hs'.good hdm fun K2 g2 e2 => ?_
    obtain ⟨v, h1, h2⟩ := results_sound (P := P) g2 (hs'.env.mono e2) hr hys
    rw [(hext.trans e2).ds, hds]
    exact ⟨v, h1, K2, _, _, .ret (resV ys), rfl, hext.trans e2, g2, h2, hQ⟩
  cases x with
  | normal =>
    cases e <;> simp only [AXR] at hx <;> first | exact hx.elim | skip
    exact hret hq
  | exit i => exact hq.elim
  | ret =>
    cases e <;> simp only [AXR] at hx <;> first | exact hx.elim | skip
    exact hret hq
  | panic v =>
    cases e <;> simp only [AXR] at hx <;> first | exact hx.elim | skip
    rename_i ch
    obtain ⟨u, rfl, hu⟩ := hx
    show LeavesInM _ _ _ _ _ _ _ _ _
    rw [hs'.defers]
    refine leaves_marks (w0 := w0) (nx := st'.nx) _ (by simp) st'.dm K' st'.heap hs'.good hdm fun K2 g2 e2 => ?_
    rw [(hext.trans e2).ds, hds]
    exact ⟨K2, _, _, .panic v, rfl, hext.trans e2, g2, ⟨u, rfl, hu.mono e2⟩, hq⟩
end
end Go.Ab
namespace Go.Ab
open Go.RowKit
set_option linter.unusedVariables false
set_option linter.unusedSimpArgs false
theorem oev_congr {e e' : Env} {o : Operand} (h : ∀ t, o = .tmp t → eget e t = eget e' t) : oev e o = oev e' o := by
  cases o with
  | tmp t => exact h t rfl
  | _ => rfl
theorem oevs_congr {e e' : Env} : ∀ {xs : List Operand}, (∀ o ∈ xs, oev e o = oev e' o) → oevs e xs = oevs e' xs
  | [], _ => rfl
  | o :: r, h => by simp only [oevs, h o List.mem_cons_self, oevs_congr (xs := r) fun x hx => h x (List.mem_cons_of_mem _ hx)]
theorem partsE_congr {e e' : Env} : ∀ {ps : List (Nat × Operand)}, (∀ o ∈ ps.map (·.2), oev e o = oev e' o) → partsE e ps = partsE e' ps
  | [], _ => rfl
  | (i, o) :: r, h => by simp only [partsE, h o (by simp), partsE_congr (ps := r) fun x hx => h x (by simp only [List.map_cons, List.mem_cons]; exact .inr hx)]
theorem partsE3_congr {e e' : Env} : ∀ {ps : List (Nat × Nat × Operand)}, (∀ o ∈ ps.map (·.2.2), oev e o = oev e' o) → partsE3 e ps = partsE3 e' ps
  | [], _ => rfl
  | (i, s, o) :: r, h => by simp only [partsE3, h o (by simp), partsE3_congr (ps := r) fun x hx => h x (by simp only [List.map_cons, List.mem_cons]; exact .inr hx)]
theorem bnd_congr {e e' : Env} {x : Option Operand} {d : Nat} (h : ∀ o ∈ x.toList, oev e o = oev e' o) : bnd e x d = bnd e' x d := by
  cases x with
  | none => rfl
  | some o => simp only [bnd, h o (by simp)]
theorem mopEv_congr {mo : MOp} {e e' : Env} {h : Heap} {n : Nat} (H : ∀ o ∈ mo.opnds, oev e o = oev e' o) : mopEv mo e h n = mopEv mo e' h n := by
  cases mo <;> simp only [MOp.opnds] at H <;> simp only [mopEv]
  case look k z ok m x => rw [H m (by simp), H x (by simp)]
  case set k m x v => rw [H m (by simp), H x (by simp), H v (by simp)]
  case del k m x => rw [H m (by simp), H x (by simp)]
  case len m => rw [H m (by simp)]
  case tas t z x => rw [H x (by simp)]
  case mx3 x y z => rw [H x (by simp), H y (by simp), H z (by simp)]
  case rng m => rw [H m (by simp)]
  case ent m => rw [H m (by simp)]
  case glx g l z i => rw [H i (by simp)]
theorem mquiet_heap {mo : MOp} (hq : mo.quiet = true) {e : Env} {h : Heap} {n : Nat} : mopEv mo e h n = (mopEv mo e [] 0).map fun r => (r.1, h, n) := by
  cases mo <;> first
    | (simp [MOp.quiet] at hq; done)
    | (simp only [mopEv]; repeat' split) <;> simp_all
theorem mquiet_val {mo : MOp} (hq : mo.quiet = true) {e : Env} {h : Heap} {n : Nat} {r : Out × Heap × Nat} (hr : mopEv mo e h n = some r) : ∃ x, r = (.val x, h, n) := by
  cases mo <;> first
    | (simp [MOp.quiet] at hq; done)
    | (simp only [mopEv] at hr; repeat' split at hr) <;> first | (cases hr; done) | (cases hr; exact ⟨_, rfl⟩)
theorem opEv_congr {ao : AOp} {e e' : Env} {h : Heap} {n : Nat} (H : ∀ o ∈ ao.opnds, oev e o = oev e' o) : opEv ao e h n = opEv ao e' h n := by
  cases ao <;> simp only [AOp.opnds] at H <;> simp only [opEv]
  case m o => exact mopEv_congr H
  case build z ps => rw [partsE3_congr H]
  case buildF z l ps => rw [partsE_congr H]
  case buildO t z l ps => rw [partsE_congr H]
  case mkfn f cs => rw [oevs_congr H]
  case mkbm f fs cs => rw [oevs_congr fun o ho => H o (List.mem_append_left _ ho), oevs_congr fun o ho => H o (List.mem_append_right _ ho)]
  case slc s x lo hi m =>
    rw [H x (by simp)]
    have h1 : ∀ d, bnd e lo d = bnd e' lo d := fun d => bnd_congr fun o ho => H o (by simp only [List.mem_cons, List.mem_append]; exact .inr (.inl ho))
    have h2 : ∀ d, bnd e hi d = bnd e' hi d := fun d => bnd_congr fun o ho => H o (by simp only [List.mem_cons, List.mem_append]; exact .inr (.inr (.inl ho)))
    have h3 : ∀ d, bnd e m d = bnd e' m d := fun d => bnd_congr fun o ho => H o (by simp only [List.mem_cons, List.mem_append]; exact .inr (.inr (.inr ho)))
    cases m <;> simp only [h1, h2, h3]
  case slcs x lo hi =>
    rw [H x (by simp)]
    have h1 : ∀ d, bnd e lo d = bnd e' lo d := fun d => bnd_congr fun o ho => H o (by simp only [List.mem_cons, List.mem_append]; exact .inr (.inl ho))
    have h2 : ∀ d, bnd e hi d = bnd e' hi d := fun d => bnd_congr fun o ho => H o (by simp only [List.mem_cons, List.mem_append]; exact .inr (.inr ho))
    simp only [h1, h2]
  case pick c a b => rw [H c (by simp), H a (by simp), H b (by simp)]
  all_goals
    first
      | rfl
      | (rename_i x; rw [H x (by simp)]; done)
      | (rename_i x _; rw [H x (by simp)]; done)
      | (rename_i x y; rw [H x (by simp), H y (by simp)]; done)
theorem quiet_heap {ao : AOp} (hq : ao.quiet = true) {e : Env} {h : Heap} {n : Nat} : opEv ao e h n = (opEv ao e [] 0).map fun r => (r.1, h, n) := by
  cases ao
  case m o => exact mquiet_heap hq
  all_goals first
    | (simp [AOp.quiet] at hq; done)
    | (simp only [opEv]; repeat' split) <;> simp_all
theorem quiet_val {ao : AOp} (hq : ao.quiet = true) {e : Env} {h : Heap} {n : Nat} {r : Out × Heap × Nat} (hr : opEv ao e h n = some r) : ∃ x, r = (.val x, h, n) := by
  cases ao
  case m o => exact mquiet_val hq hr
  all_goals first
    | (simp [AOp.quiet] at hq; done)
    | (simp only [opEv] at hr; repeat' split at hr) <;> first | (cases hr; done) | (cases hr; exact ⟨_, rfl⟩)
theorem quiet_any {ao : AOp} (hq : ao.quiet = true) {e : Env} {h h' : Heap} {n n' : Nat} {x : AV} {h1 : Heap} {n1 : Nat} (hr : opEv ao e h n = some (.val x, h1, n1)) : opEv ao e h' n' = some (.val x, h', n') := by
  rw [quiet_heap hq] at hr ⊢
  cases hq : opEv ao e [] 0 with
  | none => rw [hq] at hr; cases hr
  | some r => rw [hq] at hr; simp only [Option.map_some, Option.some.injEq, Prod.mk.injEq] at hr ⊢; simp only [hr.1, and_self]
def reload (h : Heap) (sz : Nat) (ag : Bool) (p : AV) : Option AV := match ptrCells h p with
  | some cs => takeV sz ag cs
  | none => none
theorem load_reload {sz : Nat} {ag : Bool} {x : Operand} {e : Env} {h : Heap} {n : Nat} {p y : AV} (hp : oev e x = some p) (hr : reload h sz ag p = some y) : opEv (.load sz ag x) e h n = some (.val y, h, n) := by
  unfold reload at hr
  simp only [opEv, hp]
  split at hr
  · rename_i cs hc; simp only [hc, hr]
  · cases hr
theorem maskOf_spec {ms : List Nat} : ∀ {l : List Edge} {m : Nat}, maskOf ms l = some m →
    (∀ e ∈ l, Region.binds .any e = true → ∃ k, ms[e.on]? = some k) ∧ ∀ j, m.testBit j = true → ∃ e ∈ l, Region.binds .any e = true ∧ (j = e.on ∨ ∃ k, ms[e.on]? = some k ∧ k.testBit j = true)
  | [], m, h => by
    simp only [maskOf, Option.some.injEq] at h; subst h
    exact ⟨fun e he => by simp at he, fun j hj => by simp at hj⟩
  | e :: r, m, h => by
    simp only [maskOf] at h
    split at h
    · cases h
    · rename_i m0 hm0
      obtain ⟨h1, h2⟩ := maskOf_spec hm0
      split at h
      · rename_i hb
        split at h
        · rename_i k hk
          simp only [Option.some.injEq] at h; subst h
          refine ⟨fun e' he' hb' => ?_, fun j hj => ?_⟩
          · rcases List.mem_cons.1 he' with rfl | he'
            · exact ⟨k, hk⟩
            · exact h1 e' he' hb'
          · simp only [Nat.testBit_or, Bool.or_eq_true] at hj
            rcases hj with (hj | hj) | hj
            · obtain ⟨e', he', h3⟩ := h2 j hj
              exact ⟨e', List.mem_cons_of_mem _ he', h3⟩
            · exact ⟨e, List.mem_cons_self, hb, .inr ⟨k, hk, hj⟩⟩
            · refine ⟨e, List.mem_cons_self, hb, .inl ?_⟩
              rw [Nat.one_shiftLeft, Nat.testBit_two_pow] at hj
              simp only [decide_eq_true_eq] at hj; exact hj.symm
        · cases h
      · rename_i hb
        simp only [Option.some.injEq] at h; subst h
        refine ⟨fun e' he' hb' => ?_, fun j hj => ?_⟩
        · rcases List.mem_cons.1 he' with rfl | he'
          · exact absurd hb' hb
          · exact h1 e' he' hb'
        · obtain ⟨e', he', h3⟩ := h2 j hj
          exact ⟨e', List.mem_cons_of_mem _ he', h3⟩
theorem masks_spec : ∀ {os : List Oper} {ms out : List Nat}, masks os ms = some out →
    (∃ t, out = ms ++ t) ∧ ∀ i o, os[i]? = some o → ∃ m, out[ms.length + i]? = some m ∧ maskOf (out.take (ms.length + i)) o.after.toList = some m
  | [], ms, out, h => by
    simp only [masks, Option.some.injEq] at h; subst h
    exact ⟨⟨[], by simp⟩, fun i o hi => by simp at hi⟩
  | o :: r, ms, out, h => by
    simp only [masks] at h
    split at h
    · rename_i m hm
      obtain ⟨⟨t, ht⟩, h2⟩ := masks_spec h
      refine ⟨⟨m :: t, by rw [ht]; simp⟩, fun i o' hi => ?_⟩
      cases i with
      | zero =>
        simp only [List.getElem?_cons_zero, Option.some.injEq] at hi; subst hi
        refine ⟨m, ?_, ?_⟩
        · rw [ht]; simp
        · rw [ht]; simpa using hm
      | succ i =>
        obtain ⟨m', h3, h4⟩ := h2 i o' (by simpa using hi)
        have e1 : (ms ++ [m]).length + i = ms.length + (i + 1) := by simp; omega
        rw [e1] at h3 h4
        exact ⟨m', h3, h4⟩
    · cases h
theorem before_spec {ops : Array Oper} {ms : List Nat} (h : masks ops.toList [] = some ms) {i : Nat} {o : Oper} (ho : ops[i]? = some o) :
    (∀ e ∈ o.after, Region.binds .any e = true → e.on < i) ∧ ∀ j, before ms i j = true → ∃ e ∈ o.after, Region.binds .any e = true ∧ (j = e.on ∨ before ms e.on j = true) := by
  obtain ⟨m, h1, h2⟩ := (masks_spec h).2 i o (by simpa using ho)
  simp only [List.length_nil, Nat.zero_add] at h1 h2
  obtain ⟨h3, h4⟩ := maskOf_spec h2
  refine ⟨fun e he hb => ?_, fun j hj => ?_⟩
  · obtain ⟨k, hk⟩ := h3 e (by simpa using he) hb
    have := (List.getElem?_eq_some_iff.1 hk).1
    simp at this; omega
  · have hm : ms.getD i 0 = m := by simp [List.getD_eq_getElem?_getD, h1]
    unfold before at hj
    rw [hm] at hj
    obtain ⟨e, he, hb, h5⟩ := h4 j hj
    refine ⟨e, by simpa using he, hb, ?_⟩
    rcases h5 with h5 | ⟨k, hk, hkj⟩
    · exact .inl h5
    · refine .inr ?_
      have : ms[e.on]? = some k := by
        rw [List.getElem?_take] at hk
        split at hk
        · exact hk
        · cases hk
      unfold before
      simp [List.getD_eq_getElem?_getD, this, hkj]
def Closed (ops : Array Oper) (S : Nat → Bool) : Prop := ∀ i o, ops[i]? = some o → S i = true → ∀ e ∈ o.after, Region.binds .any e = true → S e.on = true
theorem Closed.before {ops : Array Oper} {ms : List Nat} {S : Nat → Bool} (hm : masks ops.toList [] = some ms) (hc : Closed ops S) : ∀ (i : Nat) (o : Oper), ops[i]? = some o → (∀ e ∈ o.after, Region.binds .any e = true → S e.on = true) → ∀ j, before ms i j = true → S j = true := by
  intro i
  induction i using Nat.strongRecOn with
  | _ i ih =>
    intro o ho he j hj
    obtain ⟨h1, h2⟩ := before_spec hm ho
    obtain ⟨e, hmem, hb, h3⟩ := h2 j hj
    rcases h3 with rfl | h3
    · exact he e hmem hb
    · have hlt := h1 e hmem hb
      have hil := (Array.getElem?_eq_some_iff.1 ho).1
      have ho' : ops[e.on]? = some ops[e.on] := Array.getElem?_eq_getElem (by omega)
      exact ih e.on hlt _ ho' (fun e' he' hb' => hc e.on _ ho' (he e hmem hb) e' he' hb') j h3
def ActR (c : Option AAct) (a : AAct) : Prop := c = some a ∨ ∃ f xs, c = some (.call f xs) ∧ a = .callZ f xs
theorem ActR.op {c : Option AAct} {ao : AOp} (h : ActR c (.op ao)) : c = some (.op ao) := by
  rcases h with h | ⟨f, xs, _, h⟩
  · exact h
  · cases h
theorem ActR.call {c : Option AAct} {f : Operand} {xs : List Operand} (h : ActR c (.call f xs)) : c = some (.call f xs) := by
  rcases h with h | ⟨f, xs, _, h⟩
  · exact h
  · cases h
theorem ActR.callZ {P : Program} {ow : Bool} {o : Oper} {f : Operand} {xs : List Operand} (h : ActR (compileAct P ow o) (.callZ f xs)) : compileAct P ow o = some (.call f xs) := by
  rcases h with h | ⟨g, ys, h, e⟩
  · unfold compileAct at h
    split at h
    · split at h <;> cases h
    · split at h
      · split at h
        · split at h <;> cases h
        · cases h
      · cases h
      · cases h
  · cases e; exact h
structure LaidD (P : Program) (own : Nat → Bool) (N : Nat) (ops : Array Oper) (ms : List Nat) (fr : Option Nat) (L : List DStep) : Prop where
  masked : masks ops.toList [] = some ms
  step : ∀ d ∈ L, ∃ o, ops[d.i]? = some o ∧ compileGuard ops o = some d.s.guard ∧ ActR (compileAct P (own d.i) o) d.s.act ∧ o.dst = d.s.dst ∧ ∀ t, d.s.dst = some t → t < N
  all : ∀ i, i < ops.size → ∃ d ∈ L, d.i = i
  pairs : L.Pairwise fun d e => d.i ≠ e.i ∧ (d.dep e = true → before ms e.i d.i = true ∨ (fr = some e.i ∧ lightS ms e.i d = true))
  free : ∀ q, fr = some q → q < ops.size ∧ before ms q q = false ∧ (∀ e ∈ L, e.i = q → e.s.guard = none ∧ (∃ z, e.s.act = .op (.alloc z)) ∧ ∀ o, ops[e.i]? = some o → ∃ t, o.op = .alloc t) ∧
    (∀ d ∈ L, lightS ms q d = true → (∀ i, i < ops.size → before ms i q = true → before ms i d.i = true) ∧ ∀ e ∈ L, e.i = q → ∀ t, e.s.dst = some t → d.s.looks t = false ∧ d.s.dst ≠ some t) ∧
    ∀ d ∈ L, ∀ o sz ag x, ops[d.i]? = some o → d.s.act = .op (.load sz ag x) → ∃ t y, o.op = .load t y
theorem pairsB_spec {ms : List Nat} {fr : Option Nat} : ∀ {L : List DStep}, pairsB2 ms fr L = true → L.Pairwise fun d e => d.i ≠ e.i ∧ (d.dep e = true → before ms e.i d.i = true ∨ (fr = some e.i ∧ lightS ms e.i d = true))
  | [], _ => .nil
  | d :: r, h => by
    simp only [pairsB2, Bool.and_eq_true, List.all_eq_true] at h
    refine .cons (fun e he => ?_) (pairsB_spec h.2)
    have := h.1 e he
    simp only [pairB2, Bool.and_eq_true, bne_iff_ne, ne_eq, Bool.or_eq_true, Bool.not_eq_true'] at this
    refine ⟨this.1, fun hd => ?_⟩
    rcases this.2 with (h3 | h3) | h3
    · rw [hd] at h3; cases h3
    · exact .inl h3
    · cases fr with
      | none => cases h3
      | some q =>
        simp only [Bool.and_eq_true, beq_iff_eq] at h3
        obtain ⟨h4, h5⟩ := h3
        subst h4
        exact .inr ⟨rfl, h5⟩
theorem steps_at {P : Program} {own : Nat → Bool} {N : Nat} {ops : Array Oper} : ∀ {os : List Oper} {i : Nat} {ss : List AStep}, compileSteps P own N ops i os = some ss → ∀ (k : Nat) (o : Oper), os[k]? = some o →
    ∃ s, ss[k]? = some s ∧ compileGuard ops o = some s.guard ∧ compileAct P (own (i + k)) o = some s.act ∧ o.dst = s.dst ∧ ∀ t, s.dst = some t → t < N := by
  intro os
  induction os with
  | nil => intro i ss h k o hk; simp at hk
  | cons o' r ih =>
    intro i ss h k o hk
    cases ss with
    | nil => simp only [compileSteps] at h; split at h <;> cases h
    | cons s ss =>
      obtain ⟨o1, r1, he, h1, h2, h3, h4, h5⟩ := inv_step h
      simp only [List.cons.injEq] at he
      obtain ⟨rfl, rfl⟩ := he
      cases k with
      | zero =>
        simp only [List.getElem?_cons_zero, Option.some.injEq] at hk; subst hk
        exact ⟨s, rfl, h2, by simpa using h3, h4, h5⟩
      | succ k =>
        obtain ⟨s', h6, h7⟩ := ih h1 k o (by simpa using hk)
        refine ⟨s', by simpa using h6, ?_⟩
        have e : i + 1 + k = i + (k + 1) := by omega
        rw [e] at h7
        exact h7
theorem zcall_i (ms : List Nat) (q : Nat) (d : DStep) : (zcall ms q d).i = d.i := by
  unfold zcall; split
  · split <;> rfl
  · rfl
theorem zcall_s (ms : List Nat) (q : Nat) (d : DStep) : (zcall ms q d).s.guard = d.s.guard ∧ (zcall ms q d).s.dst = d.s.dst ∧ ActR (some d.s.act) (zcall ms q d).s.act := by
  unfold zcall; split
  · rename_i f xs hf
    split
    · exact ⟨rfl, rfl, .inr ⟨f, xs, by rw [hf], rfl⟩⟩
    · exact ⟨rfl, rfl, .inl rfl⟩
  · exact ⟨rfl, rfl, .inl rfl⟩
theorem compileD_spec {P : Program} {own : Nat → Bool} {N : Nat} {ops : Array Oper} {L : List DStep} (h : compileD P own N ops = some L) : ∃ ms fr, LaidD P own N ops ms fr L := by
  unfold compileD at h
  split at h
  · rename_i ss ms hss hms
    simp only at h
    split at h
    · rename_i hc
      simp only [Bool.and_eq_true, List.all_eq_true, decide_eq_true_eq] at hc
      obtain ⟨h1, h2⟩ := hc
      generalize (looseB ms _).2 = q at h
      generalize hL0 : (List.map (fun i => DStep.mk i (ss.getD i default) _) _ : List DStep) = L0 at h
      have st0 : ∀ d ∈ L0, ∃ o, ops[d.i]? = some o ∧ compileGuard ops o = some d.s.guard ∧ compileAct P (own d.i) o = some d.s.act ∧ o.dst = d.s.dst ∧ ∀ t, d.s.dst = some t → t < N := by
        intro d hd
        rw [← hL0] at hd
        obtain ⟨i, hi, rfl⟩ := List.mem_map.1 hd
        have hlt := h1 i hi
        have ho : ops[i]? = some ops[i] := Array.getElem?_eq_getElem hlt
        obtain ⟨s, h4, h5⟩ := steps_at hss i ops[i] (by simp)
        refine ⟨ops[i], ho, ?_⟩
        have e : ss.getD i default = s := by simp [List.getD_eq_getElem?_getD, h4]
        simp only [e]
        simpa using h5
      have all0 : ∀ i, i < ops.size → ∃ d ∈ L0, d.i = i := by
        intro i hi
        have := h2 i (List.mem_range.2 hi)
        rw [← hL0]
        exact ⟨_, List.mem_map.2 ⟨i, by simpa using this, rfl⟩, rfl⟩
      split at h
      · rename_i hp
        simp only [Option.some.injEq] at h; subst h
        exact ⟨ms, none, hms, fun d hd => let ⟨o, k1, k2, k3, k4⟩ := st0 d hd; ⟨o, k1, k2, .inl k3, k4⟩, all0, pairsB_spec hp, fun q hq => by cases hq⟩
      · split at h
        · rename_i hp
          simp only [Option.some.injEq] at h; subst h
          rw [Bool.and_eq_true] at hp
          obtain ⟨hp1, hp2⟩ := hp
          refine ⟨ms, some q, hms, fun d hd => ?_, fun i hi => ?_, pairsB_spec hp1, fun q' hq => ?_⟩
          · obtain ⟨d0, hd0, rfl⟩ := List.mem_map.1 hd
            obtain ⟨o, k1, k2, k3, k4, k5⟩ := st0 d0 hd0
            obtain ⟨z1, z2, z3⟩ := zcall_s ms q d0
            refine ⟨o, by rw [zcall_i]; exact k1, by rw [z1]; exact k2, ?_, by rw [z2]; exact k4, by rw [z2]; exact k5⟩
            rw [zcall_i, k3]; exact z3
          · obtain ⟨d, hd, e⟩ := all0 i hi
            exact ⟨_, List.mem_map.2 ⟨d, hd, rfl⟩, by rw [zcall_i]; exact e⟩
          · injection hq with hq; subst hq
            generalize List.map (zcall ms q) L0 = L at hp2
            simp only [freeB, Bool.and_eq_true, Bool.not_eq_true', List.all_eq_true, List.mem_range, Bool.or_eq_true, bne_iff_ne, ne_eq] at hp2
            obtain ⟨⟨⟨h7, h8⟩, h9⟩, h10⟩ := hp2
            split at h7
            · rename_i o ho
              refine ⟨(Array.getElem?_eq_some_iff.1 ho).1, h8, fun e he hei => ?_, fun d hd hl => ?_, fun d hd od sz ag x hod hact => ?_⟩
              · have h11 := List.all_eq_true.1 h7 e he
                simp only [Bool.or_eq_true, bne_iff_ne, ne_eq] at h11
                have h12 : allocB o e.s = true := h11.resolve_left fun h => h hei
                simp only [allocB, Bool.and_eq_true, Option.isNone_iff_eq_none] at h12
                have h13 := h12.2
                split at h13
                · rename_i t z ht hz
                  refine ⟨h12.1, ⟨z, hz⟩, fun o2 h2 => ?_⟩
                  rw [hei, ho] at h2; injection h2 with h2; subst h2
                  exact ⟨t, ht⟩
                · cases h13
              · rcases h9 d hd with h11 | ⟨h11, h12⟩
                · rw [hl] at h11; cases h11
                · refine ⟨fun i hi hb => ?_, fun e he hei t ht => ?_⟩
                  · rcases h11 i hi with h13 | h13
                    · rw [hb] at h13; cases h13
                    · exact h13
                  · rcases h12 e he with h13 | h13
                    · exact absurd hei h13
                    · rw [ht] at h13
                      simpa using h13
              · have h12 := h10 d hd
                rw [hod] at h12
                simp only [loadB, hact] at h12
                split at h12
                · rename_i t y ht; exact ⟨t, y, ht⟩
                · cases h12
            · cases h7
        · cases h
    · cases h
  · cases h
end Go.Ab
namespace Go.Ab
open Go.RowKit
set_option linter.unusedVariables false
set_option linter.unusedSimpArgs false
abbrev Pend := List (Nat × Nat × Bool × AV × AV)
def pendOk (h : Heap) : Pend → Prop
  | [] => True
  | (_, sz, ag, p, x) :: r => reload h sz ag p = some x ∧ pendOk h r
def pendKeep (late : List Nat) : Pend → Pend
  | [] => []
  | q :: r => if late.contains q.1 then q :: pendKeep late r else pendKeep late r
theorem pendOk_mem {h : Heap} : ∀ {pd : Pend}, pendOk h pd → ∀ i sz ag p x, (i, sz, ag, p, x) ∈ pd → reload h sz ag p = some x
  | [], _, i, sz, ag, p, x, hm => by simp at hm
  | (i', sz', ag', p', x') :: r, hp, i, sz, ag, p, x, hm => by
    rcases List.mem_cons.1 hm with he | hm
    · simp only [Prod.mk.injEq] at he; obtain ⟨rfl, rfl, rfl, rfl, rfl⟩ := he; exact hp.1
    · exact pendOk_mem hp.2 i sz ag p x hm
theorem pendKeep_mem {late : List Nat} : ∀ {pd : Pend} {q}, q ∈ pd → late.contains q.1 = true → q ∈ pendKeep late pd
  | [], q, hm, _ => by simp at hm
  | q' :: r, q, hm, hc => by
    simp only [pendKeep]
    rcases List.mem_cons.1 hm with rfl | hm
    · rw [if_pos hc]; exact List.mem_cons_self
    · split
      · exact List.mem_cons_of_mem _ (pendKeep_mem hm hc)
      · exact pendKeep_mem hm hc
def AV.isFp : AV → Bool
  | .fp _ => true
  | _ => false
def AD (P : Program) (Q : AX → ASt → Prop) : List DStep → Pend → ASt → Prop
  | [], _, st => Q .normal st
  | d :: r, pd, st => match guardOk st.env d.s.guard with
    | none => False
    | some false => AD P Q r pd { st with env := dropE d.s.dst st.env }
    | some true => match d.s.act with
      | .op ao => if ao.quiet = true then (match opEv ao st.env st.heap st.nx with
          | some (.val x, _, _) => AD P Q r pd { st with env := setE d.s.dst x st.env }
          | _ => False)
        else match ao with
          | .load sz ag o => (match oev st.env o with
            | some p => (match reload st.heap sz ag p with
              | some x => AD P Q r (if p.isFp = true then pd else (d.i, sz, ag, p, x) :: pd) { st with env := setE d.s.dst x st.env }
              | none => False)
            | none => False)
          | ao => (match opEv ao st.env st.heap st.nx with
            | some (.val x, h', n') => pendOk h' (pendKeep d.late pd) ∧ AD P Q r (pendKeep d.late pd) { st with env := setE d.s.dst x st.env, heap := h', nx := n' }
            | some (.skip, h', n') => pendOk h' (pendKeep d.late pd) ∧ AD P Q r (pendKeep d.late pd) { st with env := dropE d.s.dst st.env, heap := h', nx := n' }
            | none => False)
      | .call f args => match oev st.env f, oevs st.env args with
        | some (.fn (.func fid) caps), some xs => AC P fid (xs ++ caps) st.heap st.nx fun y h' n' => pendOk h' (pendKeep d.late pd) ∧ match y with
          | .ret x => AD P Q r (pendKeep d.late pd) { st with env := setE d.s.dst x st.env, heap := h', nx := n' }
          | .panic x => Q (.panic x) { env := [], heap := h', nx := n', dm := st.dm }
        | some (.bm (.func fid) fs caps), some xs => AC P fid (fs ++ (xs ++ caps)) st.heap st.nx fun y h' n' => pendOk h' (pendKeep d.late pd) ∧ match y with
          | .ret x => AD P Q r (pendKeep d.late pd) { st with env := setE d.s.dst x st.env, heap := h', nx := n' }
          | .panic x => Q (.panic x) { env := [], heap := h', nx := n', dm := st.dm }
        | _, _ => False
      | .callZ f args => match oev st.env f, oevs st.env args with
        | some (.fn (.func fid) caps), some xs => AC P fid (xs ++ caps) [] st.nx fun y h' n' => (∀ c o, hget st.heap c = some o → hget h' c = none) → pendOk (h' ++ st.heap) (pendKeep d.late pd) ∧ match y with
          | .ret x => AD P Q r (pendKeep d.late pd) { st with env := setE d.s.dst x st.env, heap := h' ++ st.heap, nx := n' }
          | .panic x => Q (.panic x) { env := [], heap := h' ++ st.heap, nx := n', dm := st.dm }
        | _, _ => False
structure Ent where
  d : DStep
  x : Option AV
  env : Env
def lk (S : Nat → Bool) (b : Nat → Option AV) : List Ent → Nat → Option AV
  | [], t => b t
  | en :: T, t => if S en.d.i = true ∧ en.d.s.dst = some t then en.x else lk S b T t
theorem lk_congr {S S' : Nat → Bool} {b : Nat → Option AV} {t : Nat} : ∀ {T : List Ent}, (∀ en ∈ T, en.d.s.dst = some t → S en.d.i = S' en.d.i) → lk S b T t = lk S' b T t
  | [], _ => rfl
  | en :: T, h => by
    simp only [lk]
    rw [lk_congr (T := T) fun e he => h e (List.mem_cons_of_mem _ he)]
    by_cases hd : en.d.s.dst = some t
    · rw [h en List.mem_cons_self hd]
    · simp only [hd, and_false, if_false]
theorem lk_skip {S : Nat → Bool} {b : Nat → Option AV} {t : Nat} {T0 : List Ent} : ∀ {T1 : List Ent}, (∀ en ∈ T1, en.d.s.dst = some t → S en.d.i = false) → lk S b (T1 ++ T0) t = lk S b T0 t
  | [], _ => rfl
  | en :: T, h => by
    simp only [List.cons_append, lk]
    rw [lk_skip (T1 := T) fun e he => h e (List.mem_cons_of_mem _ he), if_neg]
    rintro ⟨h1, h2⟩
    rw [h en List.mem_cons_self h2] at h1; cases h1
def Obl (en : Ent) (h : Heap) (nx : Nat) (pd : Pend) : Prop :=
  ∃ bb, guardOk en.env en.d.s.guard = some bb ∧ ((bb = false ∧ en.x = some (.tup [])) ∨ (bb = true ∧ ∃ ao y, en.d.s.act = .op ao ∧ en.x = some y ∧ opEv ao en.env h nx = some (.val y, h, nx) ∧
    (ao.quiet = true ∨ ∃ sz ag o p, ao = .load sz ag o ∧ oev en.env o = some p ∧ reload h sz ag p = some y ∧ (p.isFp = true ∨ (en.d.i, sz, ag, p, y) ∈ pd))))
structure DInv (L : List DStep) (b : Nat → Option AV) (S : Nat → Bool) (T : List Ent) (suf : List DStep) (pd : Pend) (st : ASt) : Prop where
  split : (T.map (·.d)).reverse ++ suf = L
  sub : ∀ d ∈ suf, S d.i = false
  env : ∀ t, eget st.env t = lk (fun _ => true) b T t
  obl : ∀ T1 en T0, T = T1 ++ en :: T0 → S en.d.i = false → (∀ t, eget en.env t = lk (fun _ => true) b T0 t) ∧ Obl en st.heap st.nx pd
theorem Obl.more {en : Ent} {h : Heap} {nx : Nat} {pd pd' : Pend} (hp : ∀ q ∈ pd, q ∈ pd') (ho : Obl en h nx pd) : Obl en h nx pd' := by
  obtain ⟨bb, h1, h2⟩ := ho
  refine ⟨bb, h1, ?_⟩
  rcases h2 with h2 | ⟨h2, ao, y, h3, h4, h5, h6⟩
  · exact .inl h2
  · refine .inr ⟨h2, ao, y, h3, h4, h5, ?_⟩
    rcases h6 with h6 | ⟨sz, ag, o, p, h6, h7, h8, h9⟩
    · exact .inl h6
    · refine .inr ⟨sz, ag, o, p, h6, h7, h8, ?_⟩
      rcases h9 with h9 | h9
      · exact .inl h9
      · exact .inr (hp _ h9)
theorem DInv.push {L : List DStep} {b : Nat → Option AV} {S : Nat → Bool} {T : List Ent} {d : DStep} {r : List DStep} {pd pd' : Pend} {st st' : ASt} (hi : DInv L b S T (d :: r) pd st) {x : Option AV}
    {y : AV} (hxy : x = some y) (he : st'.env = setE d.s.dst y st.env) (hh : st'.heap = st.heap) (hn : st'.nx = st.nx) (hp : ∀ q ∈ pd, q ∈ pd') (ho : Obl ⟨d, x, st.env⟩ st.heap st.nx pd') :
    DInv L b S (⟨d, x, st.env⟩ :: T) r pd' st' := by
  refine ⟨by rw [← hi.split]; simp, fun e he => hi.sub e (List.mem_cons_of_mem _ he), fun t => ?_, fun T1 en T0 hT hS => ?_⟩
  · simp only [lk, true_and]
    rw [← hi.env t, he]
    cases hd : d.s.dst with
    | none => simp [setE]
    | some u => simp [setE, eget_cons, hxy]
  · rw [hh, hn]
    cases T1 with
    | nil =>
      simp only [List.nil_append, List.cons.injEq] at hT
      obtain ⟨rfl, rfl⟩ := hT
      exact ⟨hi.env, ho⟩
    | cons e T1 =>
      simp only [List.cons_append, List.cons.injEq] at hT
      obtain ⟨rfl, rfl⟩ := hT
      obtain ⟨h1, h2⟩ := hi.obl T1 en T0 rfl hS
      exact ⟨h1, h2.more hp⟩
theorem advance {P : Program} {Q : AX → ASt → Prop} {L : List DStep} {b : Nat → Option AV} {S : Nat → Bool} : ∀ (suf : List DStep) (T : List Ent) (pd : Pend) (st : ASt), DInv L b S T suf pd st → AD P Q suf pd st →
    ∃ T1 suf' pd' st', DInv L b S (T1 ++ T) suf' pd' st' ∧ AD P Q suf' pd' st' ∧ (suf' = [] ∨ ∃ d r, suf' = d :: r ∧ guardOk st'.env d.s.guard = some true ∧ d.s.act.isW = true) ∧
      st'.heap = st.heap ∧ st'.nx = st.nx ∧ st'.dm = st.dm ∧ ∀ en ∈ T1, S en.d.i = false
  | [], T, pd, st, hi, ha => ⟨[], [], pd, st, hi, ha, .inl rfl, rfl, rfl, rfl, fun en h => by simp at h⟩
  | d :: r, T, pd, st, hi, ha => by
    have hSd := hi.sub d List.mem_cons_self
    have key : ∀ (x : Option AV) (pd' : Pend) (st' : ASt), DInv L b S (⟨d, x, st.env⟩ :: T) r pd' st' → AD P Q r pd' st' → st'.heap = st.heap → st'.nx = st.nx → st'.dm = st.dm →
      ∃ T1 suf' pd' st', DInv L b S (T1 ++ T) suf' pd' st' ∧ AD P Q suf' pd' st' ∧ (suf' = [] ∨ ∃ d r, suf' = d :: r ∧ guardOk st'.env d.s.guard = some true ∧ d.s.act.isW = true) ∧
      st'.heap = st.heap ∧ st'.nx = st.nx ∧ st'.dm = st.dm ∧ ∀ en ∈ T1, S en.d.i = false := by
      intro x pd' st' h1 h2 e1 e2 e3
      obtain ⟨T1, suf', pd2, st2, h3, h4, h5, h6, h7, h8, h9⟩ := advance r _ pd' st' h1 h2
      refine ⟨T1 ++ [⟨d, x, st.env⟩], suf', pd2, st2, by simpa using h3, h4, h5, h6.trans e1, h7.trans e2, h8.trans e3, fun en he => ?_⟩
      rcases List.mem_append.1 he with he | he
      · exact h9 en he
      · simp only [List.mem_singleton] at he; subst he; exact hSd
    unfold AD at ha
    split at ha
    · exact ha.elim
    · rename_i hg
      exact key (some (.tup [])) pd { st with env := dropE d.s.dst st.env } (hi.push (x := some (.tup [])) rfl rfl rfl rfl (fun q h => h) ⟨false, hg, .inl ⟨rfl, rfl⟩⟩) ha rfl rfl rfl
    · rename_i hg
      cases hact : d.s.act with
      | call f xs =>
        refine ⟨[], d :: r, pd, st, hi, ?_, .inr ⟨d, r, rfl, hg, by rw [hact]; rfl⟩, rfl, rfl, rfl, fun en h => by simp at h⟩
        unfold AD
        simp only [hg]
        exact ha
      | callZ f xs =>
        refine ⟨[], d :: r, pd, st, hi, ?_, .inr ⟨d, r, rfl, hg, by rw [hact]; rfl⟩, rfl, rfl, rfl, fun en h => by simp at h⟩
        unfold AD
        simp only [hg]
        exact ha
      | op ao =>
        by_cases hq : ao.quiet = true
        · simp only [hact, hq, if_true] at ha
          split at ha
          · rename_i x h1 n1 hev
            obtain ⟨x', hx'⟩ := quiet_val hq hev
            simp only [Prod.mk.injEq, Out.val.injEq] at hx'
            obtain ⟨rfl, rfl, rfl⟩ := hx'
            exact key (some x) pd { st with env := setE d.s.dst x st.env } (hi.push (x := some x) rfl rfl rfl rfl (fun q h => h) ⟨true, hg, .inr ⟨rfl, ao, x, hact, rfl, hev, .inl hq⟩⟩) ha rfl rfl rfl
          · exact ha.elim
        · cases hld : ao.isLoad with
          | true =>
            cases ao <;> simp only [AOp.isLoad] at hld <;> first | (cases hld; done) | skip
            rename_i sz ag o
            simp only [hact, hq] at ha
            simp only [Bool.false_eq_true, if_false] at ha
            split at ha
            · rename_i p hp
              split at ha
              · rename_i x hx
                refine key (some x) _ { st with env := setE d.s.dst x st.env } (hi.push (x := some x) rfl rfl rfl rfl (fun q h => ?_) ⟨true, hg, .inr ⟨rfl, _, x, hact, rfl, load_reload hp hx, .inr ⟨sz, ag, o, p, rfl, hp, hx, ?_⟩⟩⟩) ha rfl rfl rfl
                · split
                  · exact h
                  · exact List.mem_cons_of_mem _ h
                · by_cases hf : p.isFp = true
                  · exact .inl hf
                  · refine .inr ?_; rw [if_neg hf]; exact List.mem_cons_self
              · exact ha.elim
            · exact ha.elim
          | false =>
            refine ⟨[], d :: r, pd, st, hi, ?_, .inr ⟨d, r, rfl, hg, by rw [hact]; simp only [AAct.isW, hld]; simp [hq]⟩, rfl, rfl, rfl, fun en h => by simp at h⟩
            unfold AD
            simp only [hg]
            exact ha
end Go.Ab
namespace Go.Ab
open Go.RowKit
set_option linter.unusedVariables false
set_option linter.unusedSimpArgs false
def erestr (p : Nat → Bool) : Env → Env
  | [] => []
  | (i, x) :: r => if p i then (i, x) :: erestr p r else erestr p r
theorem eget_erestr (p : Nat → Bool) (e : Env) (t : Nat) : eget (erestr p e) t = if p t = true then eget e t else none := by
  induction e with
  | nil => simp [erestr, eget]
  | cons q r ih =>
    obtain ⟨i, x⟩ := q
    simp only [erestr]
    by_cases hp : p i = true
    · rw [if_pos hp]; simp only [eget_cons, ih]
      by_cases e : i = t
      · subst e; simp [hp]
      · simp [e]
    · rw [if_neg hp, ih]; simp only [eget_cons]
      by_cases e : i = t
      · subst e; simp [hp]
      · simp [e]
theorem looks_opnd {s : AStep} {o : Operand} (ho : o ∈ s.act.opnds) {t : Nat} (ht : o = .tmp t) : s.looks t = true := by
  subst ht
  simp only [AStep.looks, Bool.or_eq_true, List.any_eq_true]
  exact .inl ⟨_, ho, by simp⟩
theorem looks_guard {s : AStep} {t : Nat} {c : Bool} (h : s.guard = some (t, c)) : s.looks t = true := by
  simp only [AStep.looks, h, Bool.or_eq_true]
  exact .inr (by simp)
theorem guardOk_congr {e e' : Env} {s : AStep} (h : ∀ t, s.looks t = true → eget e t = eget e' t) : guardOk e s.guard = guardOk e' s.guard := by
  unfold guardOk
  cases hg : s.guard with
  | none => rfl
  | some q =>
    obtain ⟨t, c⟩ := q
    simp only [h t (looks_guard hg)]
theorem opnds_congr {e e' : Env} {s : AStep} (h : ∀ t, s.looks t = true → eget e t = eget e' t) : ∀ o ∈ s.act.opnds, oev e o = oev e' o :=
  fun o ho => oev_congr fun t ht => h t (looks_opnd ho ht)
structure StRG (w0 : World) (N : Nat) (K : Wd) (g : Nat → Option AV) (h : Heap) (nx : Nat) (dm : List Nat) (a : Act) : Prop where
  good : Good w0 K h nx
  env : ∀ t x, g t = some x → ∃ v, a.tmps[t]? = some v ∧ VR K nx x v
  size : a.tmps.size = N
  defers : a.defers = marks K dm
  dm : ∀ b ∈ dm, b < nx
@[reducible] def StRD (w0 : World) (N : Nat) (K : Wd) (S : Nat → Bool) (b : Nat → Option AV) (T : List Ent) (h : Heap) (nx : Nat) (dm : List Nat) (a : Act) : Prop := StRG w0 N K (lk S b T) h nx dm a
def bef (ms : List Nat) (fr : Option Nat) (L : List DStep) (i j : Nat) : Prop := before ms i j = true ∨ (fr = some i ∧ ∃ d ∈ L, d.i = j ∧ lightS ms i d = true)
section
variable {P : Program} {own : Nat → Bool} {N : Nat} {ops : Array Oper} {ms : List Nat} {fr : Option Nat} {L : List DStep} {b : Nat → Option AV} {S : Nat → Bool} {Q : AX → ASt → Prop} {ro : Option Nat}
theorem DInv.pairs {T : List Ent} {suf : List DStep} {pd : Pend} {st : ASt} (hL : LaidD P own N ops ms fr L) (hi : DInv L b S T suf pd st) :
    ((T.map (·.d)).reverse ++ suf).Pairwise fun d e => d.i ≠ e.i ∧ (d.dep e = true → bef ms fr L e.i d.i) := by
  rw [hi.split]
  exact List.Pairwise.imp_of_mem (fun {d e} hd _ h => ⟨h.1, fun hdep => (h.2 hdep).imp id fun h2 => ⟨h2.1, d, hd, rfl, h2.2⟩⟩) hL.pairs
theorem DInv.mem {T : List Ent} {suf : List DStep} {pd : Pend} {st : ASt} (hi : DInv L b S T suf pd st) {en : Ent} (h : en ∈ T) : en.d ∈ L := by
  rw [← hi.split]; exact List.mem_append_left _ (List.mem_reverse.2 (List.mem_map.2 ⟨en, h, rfl⟩))
theorem DInv.around {T1 T0 : List Ent} {en : Ent} {suf : List DStep} {pd : Pend} {st : ASt} (hL : LaidD P own N ops ms fr L) (hi : DInv L b S (T1 ++ en :: T0) suf pd st) :
    (∀ f ∈ T0, f.d.i ≠ en.d.i ∧ (f.d.dep en.d = true → bef ms fr L en.d.i f.d.i)) ∧ (∀ f ∈ T1, en.d.i ≠ f.d.i ∧ (en.d.dep f.d = true → bef ms fr L f.d.i en.d.i)) := by
  have h := (List.pairwise_append.1 (hi.pairs hL)).1
  rw [List.pairwise_reverse, List.pairwise_map, List.pairwise_append] at h
  obtain ⟨h1, h2, h3⟩ := h
  rw [List.pairwise_cons] at h2
  exact ⟨fun f hf => h2.1 f hf, fun f hf => h3 f hf en List.mem_cons_self⟩
theorem DInv.head {T : List Ent} {d : DStep} {r : List DStep} {pd : Pend} {st : ASt} (hL : LaidD P own N ops ms fr L) (hi : DInv L b S T (d :: r) pd st) :
    (∀ f ∈ T, f.d.i ≠ d.i ∧ (f.d.dep d = true → bef ms fr L d.i f.d.i)) ∧ (∀ e ∈ r, d.i ≠ e.i ∧ (d.dep e = true → bef ms fr L e.i d.i)) := by
  have h := List.pairwise_append.1 (hi.pairs hL)
  refine ⟨fun f hf => h.2.2 f.d (List.mem_reverse.2 (List.mem_map.2 ⟨f, hf, rfl⟩)) d List.mem_cons_self, fun e he => ?_⟩
  have h2 := h.2.1
  rw [List.pairwise_cons] at h2
  exact h2.1 e he
theorem dep_write {d e : DStep} {t : Nat} (hd : d.s.dst = some t) (h : e.s.looks t = true ∨ e.s.dst = some t) : d.dep e = true := by
  simp only [DStep.dep, hd, Bool.or_eq_true]
  rcases h with h | h
  · exact .inl (.inl (.inr (.inl h)))
  · exact .inl (.inl (.inr (.inr (by simp [h]))))
theorem dep_read {d e : DStep} {t : Nat} (he : e.s.dst = some t) (h : d.s.looks t = true) : d.dep e = true := by
  simp only [DStep.dep, he, Bool.or_eq_true]
  exact .inl (.inr h)
theorem dep_w {d e : DStep} (h : d.s.act.isW = true) : d.dep e = true := by simp [DStep.dep, h]
theorem dep_late {d e : DStep} (h : d.dep e = false) (hw : e.s.act.isW = true) : e.late.contains d.i = true := by
  simp only [DStep.dep, Bool.or_eq_false_iff, hw, Bool.true_and, Bool.not_eq_false'] at h
  exact h.2
theorem marks_ext {K K' : Wd} {n n' : Nat} (he : Ext K n K' n') {dm : List Nat} (h : ∀ b ∈ dm, b < n) : marks K' dm = marks K dm := by
  unfold marks
  rw [he.ds]
  congr 1
  apply List.map_congr_left
  intro b hb
  rw [he.m b (h b hb)]
theorem lk_done {S' : Nat → Bool} {T1 T0 : List Ent} {en : Ent} (hS' : ∀ j, S' j = (S j || j == en.d.i)) (h1 : ∀ f ∈ T1, en.d.i ≠ f.d.i ∧ ∀ t, f.d.s.dst = some t → en.d.s.dst = some t → S f.d.i = false)
    (h0 : ∀ f ∈ T0, f.d.i ≠ en.d.i) (hn : S en.d.i = false) (t : Nat) : lk S' b (T1 ++ en :: T0) t = if en.d.s.dst = some t then en.x else lk S b (T1 ++ en :: T0) t := by
  have hself : S' en.d.i = true := by simp [hS']
  have h0' : lk S' b T0 t = lk S b T0 t := lk_congr fun f hf _ => by rw [hS']; have := h0 f hf; simp [this]
  induction T1 with
  | nil =>
    simp only [List.nil_append, lk, hself, true_and, hn, Bool.false_eq_true, false_and, if_false, h0']
  | cons f T1 ih =>
    have hf := h1 f List.mem_cons_self
    have hfi : S' f.d.i = S f.d.i := by rw [hS']; have : ¬ f.d.i = en.d.i := fun e => hf.1 e.symm; simp [this]
    simp only [List.cons_append, lk, hfi]
    rw [ih fun g hg => h1 g (List.mem_cons_of_mem _ hg)]
    by_cases hd : en.d.s.dst = some t
    · rw [if_pos hd, if_pos hd, if_neg]
      rintro ⟨h2, h3⟩
      rw [hf.2 t h3 hd] at h2; cases h2
    · rw [if_neg hd, if_neg hd]
theorem StRG.put {w0 : World} {K K' : Wd} {g g' : Nat → Option AV} {h h' : Heap} {nx nx' : Nat} {dm : List Nat} {a : Act} (hr : StRG w0 N K g h nx dm a) (he : Ext K nx K' nx') (hg : Good w0 K' h' nx') {d : Option Tmp} {x : Option AV} {v : Value}
    (hd : ∀ t, d = some t → t < N) (hv : ∀ y, x = some y → VR K' nx' y v) (hlk : ∀ t, g' t = if d = some t then x else g t) : StRG w0 N K' g' h' nx' dm (a.put d v) := by
  refine ⟨hg, fun t y hy => ?_, by cases d <;> simp [Act.put, hr.size], ?_, fun b hb => Nat.lt_of_lt_of_le (hr.dm b hb) he.le⟩
  · rw [hlk] at hy
    cases d with
    | none =>
      rw [if_neg (by simp)] at hy
      obtain ⟨u, h1, h2⟩ := hr.env t y hy
      exact ⟨u, h1, h2.mono he⟩
    | some u =>
      simp only [Act.put]
      rw [Array.getElem?_setIfInBounds]
      by_cases e : u = t
      · subst e
        rw [if_pos rfl] at hy
        have := hd u rfl
        exact ⟨v, by rw [if_pos rfl, if_pos (by rw [hr.size]; exact this)], hv y hy⟩
      · rw [if_neg (by simpa using e)] at hy
        obtain ⟨v', h1, h2⟩ := hr.env t y hy
        exact ⟨v', by rw [if_neg e]; exact h1, h2.mono he⟩
  · rw [marks_ext he hr.dm, ← hr.defers]; cases d <;> rfl
theorem exec_old {w0 : World} {K : Wd} {T1 T0 : List Ent} {en : Ent} {suf : List DStep} {pd : Pend} {st : ASt} {a : Act} (hL : LaidD P own N ops ms fr L) (hi : DInv L b S (T1 ++ en :: T0) suf pd st)
    (hr : StRD w0 N K S b (T1 ++ en :: T0) st.heap st.nx st.dm a) (hn : S en.d.i = false) (hbef : ∀ j, bef ms fr L en.d.i j → S j = true) (hdone : ∀ f ∈ T1, S f.d.i = true → ∀ j, bef ms fr L f.d.i j → S j = true) {S' : Nat → Bool} (hS' : ∀ j, S' j = (S j || j == en.d.i))
    {Kont : Act → World → Prop} {Qx : Exit → Act → World → Prop} (hk : ∀ K' a', Ext K st.nx K' st.nx → StRD w0 N K' S' b (T1 ++ en :: T0) st.heap st.nx st.dm a' → Kont a' K'.w) :
    wpOpIn { Fence.wide with round := ro } 0 P ops Qx en.d.i Kont a K.w := by
  obtain ⟨o, ho, h2, h3, h4, h5⟩ := hL.step en.d (hi.mem (List.mem_append_right _ List.mem_cons_self))
  obtain ⟨hb0, hb1⟩ := hi.around hL
  obtain ⟨henv, bb, hg, hob⟩ := hi.obl T1 en T0 rfl hn
  have hbef1 : ∀ f ∈ T1, bef ms fr L f.d.i en.d.i → S f.d.i = false := by
    intro f hf hb
    cases hSf : S f.d.i with
    | false => rfl
    | true =>
      have := hdone f hf hSf en.d.i hb
      rw [hn] at this; cases this
  have hread : ∀ t, en.d.s.looks t = true → lk S b (T1 ++ en :: T0) t = eget en.env t := by
    intro t ht
    rw [henv t]
    rw [lk_skip (T1 := T1) fun f hf hd => hbef1 f hf ((hb1 f hf).2 (dep_read hd ht))]
    simp only [lk, hn, Bool.false_eq_true, false_and, if_false]
    refine lk_congr fun f hf hd => ?_
    exact hbef f.d.i ((hb0 f hf).2 (dep_write hd (.inl ht)))
  obtain ⟨env', henv'⟩ : ∃ env' : Env, env' = erestr (fun t => en.d.s.looks t) en.env := ⟨_, rfl⟩
  have hagree : ∀ t, en.d.s.looks t = true → eget env' t = eget en.env t := fun t ht => by rw [henv', eget_erestr, if_pos ht]
  have hER : EnvR K st.nx env' a.tmps := by
    intro t x hx
    rw [henv', eget_erestr] at hx
    split at hx
    · rename_i ht
      exact hr.env t x (by rw [hread t ht]; exact hx)
    · cases hx
  have hg' : guardOk env' en.d.s.guard = some bb := by rw [guardOk_congr hagree]; exact hg
  have hw := wanted_of hER h2 hg'
  have hlk : ∀ t, lk S' b (T1 ++ en :: T0) t = if en.d.s.dst = some t then en.x else lk S b (T1 ++ en :: T0) t := lk_done hS'
    (fun f hf => ⟨(hb1 f hf).1, fun t h6 h7 => hbef1 f hf ((hb1 f hf).2 (dep_write h7 (.inr h6)))⟩) (fun f hf => (hb0 f hf).1) hn
  unfold wpOpIn
  simp only [ho, hw]
  rcases hob with ⟨rfl, hx⟩ | ⟨rfl, ao, y, hact, hx, hev, _⟩
  · simp only [Bool.false_eq_true, if_false]
    refine ⟨fun f _ => trivial, hk K _ (Ext.refl _ _) ?_⟩
    rw [h4]
    exact hr.put (Ext.refl _ _) hr.good h5 (x := some (.tup [])) (fun y hy => by cases hy; exact VR_undef _ _) (by rw [← hx]; exact hlk)
  · simp only [if_true, Oper.wpIn]
    refine ⟨fun f _ => trivial, ?_⟩
    rw [hact] at h3
    obtain ⟨hsnd, hnd⟩ := op_sound (act_op h3.op)
    have hev' : opEv ao env' st.heap st.nx = some (.val y, st.heap, st.nx) := by
      rw [← hev]
      exact opEv_congr fun o' ho' => opnds_congr hagree o' (by rw [hact]; exact ho')
    obtain ⟨K', rr, hrun, hext, hgood, hout⟩ := hsnd w0 K st.heap st.nx env' a _ _ _ hr.good hER hev'
    rw [Oper.semAt_eq _ _ _ hnd, hrun]
    cases rr <;> simp only [outR] at hout <;> first | exact hout.elim | skip
    rename_i v
    simp only [Oper.uponIn, h4]
    exact hk K' _ hext (hr.put hext hgood h5 (x := some y) (fun z hz => by cases hz; exact hout) (by rw [← hx]; exact hlk))
end
end Go.Ab
namespace Go.Ab
open Go.RowKit
set_option linter.unusedVariables false
set_option linter.unusedSimpArgs false
theorem hget_append (h' h : Heap) (b : Nat) : hget (h' ++ h) b = (hget h' b).or (hget h b) := by
  induction h' with
  | nil => simp [hget]
  | cons p r ih =>
    obtain ⟨i, o⟩ := p
    simp only [List.cons_append, hget_cons, ih]
    split <;> simp
theorem VR.lo {K : Wd} {n : Nat} {x : AV} {v : Value} (l : Nat) (h : VR K n x v) : VR { K with lo := l } n x v := by
  induction h with
  | int k n => exact .int k n
  | bool b => exact .bool b
  | str l s h => exact .str l s h
  | agg cs c hs h1 h ih => exact .agg cs c hs h1 ih
  | tup cs c hs h ih => exact .tup cs c hs ih
  | lst0 sz es A n cap h0 hn hA => exact .lst0 sz es A n cap h0 hn hA
  | lst sz es a n cap c hn hc hcap hsz h1 hr h ih => exact .lst sz es a n cap c hn hc hcap hsz h1 hr ih
  | fp cs a c h1 hr h ih => exact .fp cs a c h1 hr ih
  | op b off hb a ha => exact .op b off hb a ha
  | os b off e sz len a n cap hn hb hc hcap hA hroom => exact .os b off e sz len a n cap hn hb hc hcap hA hroom
  | nilS => exact .nilS
  | emp A => exact .emp A
  | nilP => exact .nilP
  | nilI => exact .nilI
  | nilF => exact .nilF
  | nilM => exact .nilM
  | mp b hb r hr => exact .mp b hb r hr
  | fn f caps c hs h ih => exact .fn f caps c hs ih
  | bm f fs caps c1 c hs1 hs h1 h ih1 ih => exact .bm f fs caps c1 c hs1 hs ih1 ih
  | ifc t x v h ih => exact .ifc t x v ih
  | ne0 a cap => exact .ne0 a cap
  | yl b hb l hl => exact .yl b hb l hl
  | any v h => exact .any v h
  | oc b off e sz len cap a hb hc hcap hA hroom => exact .oc b off e sz len cap a hb hc hcap hA hroom
theorem Good.reroot {w0 : World} {K : Wd} {h : Heap} {nx : Nat} (g : Good w0 K h nx) : Good K.w { K with lo := K.w.heap.size } [] nx :=
  ⟨fun b o hb => by simp [hget] at hb, fun b b' o o' hb => by simp [hget] at hb, Below.refl _ _, g.zin, rfl, fun gi cs hg => (g.gl gi cs hg).lo _⟩
theorem OR.lo {K : Wd} {n : Nat} {o : AO} {ob : Obj} (l : Nat) (h : OR K n o ob) : OR { K with lo := l } n o ob := by
  cases h with
  | cells cs c e hs h1 h => exact .cells cs c e hs h1 fun i x v hx hv => (h i x v hx hv).lo l
  | map es st clock en hs hl h hb hc => exact .map es st clock en hs hl (fun i x y hx hy => ⟨(h i x y hx hy).1.lo l, (h i x y hx hy).2.1.lo l, (h i x y hx hy).2.2⟩) hb hc
  | mit b since seen last hb r hr => exact .mit b since seen last hb r hr
  | sit s l' hl pos => exact .sit s l' hl pos
  | dfd => exact .dfd
  | loop busy fn N env ps as bd dm hd tmps hs D hD h => exact .loop busy fn N env ps as bd dm hd tmps hs D hD fun t x hx => let ⟨v, h1, h2⟩ := h t x hx; ⟨v, h1, h2.lo l⟩
  | left j r h1 h2 => exact .left j r h1 h2
theorem Ext.lo' {K K' : Wd} {n n' : Nat} (l : Nat) (h : Ext { K with lo := l } n K' n') (hz : ∀ b o, K'.Z b o → K.Z b o ∨ K.lo ≤ b) : Ext K n { K' with lo := K.lo } n' :=
  ⟨h.le, h.m, h.Z, h.ice, h.size, rfl, hz, h.ds⟩
theorem Good.up {w0 : World} {K K' : Wd} {h h' : Heap} {nx nx' : Nat} (hg : Good w0 K h nx) (hext : Ext { K with lo := K.w.heap.size } nx K' nx') (hgood : Good K.w K' h' nx') : Ext K nx { K' with lo := K.lo } nx' ∧ Good w0 { K' with lo := K.lo } (h' ++ h) nx' ∧ ∀ c o, hget h c = some o → hget h' c = none := by
  have hle : w0.heap.size ≤ K.w.heap.size := hg.below.size
  have hK : K.lo = w0.heap.size := hg.lo
  have hZ : ∀ b o, K'.Z b o → K.Z b o ∨ K.lo ≤ b := fun b o hz => (hext.Zn b o hz).imp id fun (e : K.w.heap.size ≤ b) => by omega
  have hext' : Ext K nx { K' with lo := K.lo } nx' := hext.lo' _ hZ
  refine ⟨hext', ?_, ?_⟩
  · skip
    have hi : ∀ b o, hget h' b = some o → K.w.heap.size ≤ K'.m b := fun b o hb => (hgood.live b o hb).2.1
    have lo : ∀ b o, hget h b = some o → K'.m b < K.w.heap.size := fun b o hb => by
      obtain ⟨h1, h2, h3, ob, h4, h5⟩ := hg.live b o hb
      rw [hext.m b h1]; exact lt_of_row h4
    have key : ∀ b o, hget (h' ++ h) b = some o → hget h' b = some o ∨ hget h b = some o := by
      intro b o hb
      rw [hget_append] at hb
      cases hq : hget h' b with
      | none => rw [hq] at hb; exact .inr (by simpa using hb)
      | some o' => rw [hq] at hb; exact .inl (by simpa using hb)
    refine ⟨fun b o hb => ?_, fun b b' o o' hb hb' e => ?_, ?_, hgood.zin, hK, fun gi cs hg => (hgood.gl gi cs hg).lo _⟩
    · rcases key b o hb with hb | hb
      · obtain ⟨h1, h2, h3, ob, h4, h5⟩ := hgood.live b o hb
        exact ⟨h1, Nat.le_trans hle h2, h3, ob, h4, h5.lo _⟩
      · obtain ⟨h1, h2, h3, ob, h4, h5⟩ := hg.live b o hb
        have hm : K'.m b = K.m b := hext.m b h1
        have hlt := lt_of_row h4
        refine ⟨Nat.lt_of_lt_of_le h1 hext.le, by simp only [hm]; exact h2, fun off hz => ?_, ob, ?_, h5.mono hext'⟩
        · simp only [hm] at hz
          rcases hext.Zn _ _ hz with hz | hz
          · exact h3 off hz
          · have hz' : K.w.heap.size ≤ K.m b := hz
            omega
        · simp only [hm]
          rw [hgood.below.block _ hlt]; exact h4
    · rcases key b o hb with hb | hb <;> rcases key b' o' hb' with hb' | hb'
      · exact hgood.inj b b' o o' hb hb' e
      · have := hi b o hb; have := lo b' o' hb'; simp only at e; omega
      · have := hi b' o' hb'; have := lo b o hb; simp only at e; omega
      · have e1 : K'.m b = K.m b := hext.m b (hg.live b o hb).1
        have e2 : K'.m b' = K.m b' := hext.m b' (hg.live b' o' hb').1
        simp only [e1, e2] at e
        exact hg.inj b b' o o' hb hb' e
    · exact hg.below.trans (hgood.below.mono hle)
  · intro c o hc
    cases hq2 : hget h' c with
    | none => rfl
    | some o' =>
      obtain ⟨h1, h2, h3, ob, h4, h5⟩ := hg.live c o hc
      have h6 := (hgood.live c o' hq2).2.1
      have e1 : K'.m c = K.m c := hext.m c h1
      rw [e1] at h6
      have h7 := lt_of_row h4
      exact absurd h7 (Nat.not_lt.2 h6)
theorem AC.frame {P : Program} {f : FuncId} {xs : List AV} {nx : Nat} {Q : AE → Heap → Nat → Prop} (hc : AC P f xs [] nx Q) (h : Heap) : AC P f xs h nx fun y h'' n' => ∃ h', h'' = h' ++ h ∧ nx ≤ n' ∧ (∀ c o, hget h c = some o → hget h' c = none) ∧ Q y h' n' := by
  refine ⟨hc.1, fun w0 K args hg ha => ?_⟩
  refine (hc.2 K.w { K with lo := K.w.heap.size } args hg.reroot ⟨ha.1, fun i x v hx hv => (ha.2 i x v hx hv).lo _⟩).mono ?_
  rintro e w' ⟨K', h', nx', y, rfl, hext, hgood, her, hq⟩
  obtain ⟨u1, u2, u3⟩ := hg.up hext hgood
  refine ⟨{ K' with lo := K.lo }, h' ++ h, nx', y, rfl, u1, u2, ?_, h', rfl, hext.le, u3, hq⟩
  cases y <;> cases e <;> simp only [AER] at her ⊢ <;> first | exact her.lo _ | (obtain ⟨v, h1, h2⟩ := her; exact ⟨v, h1, h2.lo _⟩)
def Wd.allocG (K : Wd) (ob : Obj) : Wd := { K with w := K.w.alloc ob }
theorem Ext.allocG {w0 : World} {K : Wd} {h : Heap} {nx : Nat} (g : Good w0 K h nx) (ob : Obj) : Ext K nx (K.allocG ob) nx :=
  ⟨by omega, fun b hb => rfl, fun _ _ h => h, fun b o hz => by
    have hb := g.zin b o hz
    simp only [Wd.allocG, World.cell?, alloc_old _ _ hb], fun b c e hb => ⟨c, by simp only [Wd.allocG]; rw [alloc_old _ _ (lt_of_row hb)]; exact hb, rfl⟩, rfl, fun b o hz => .inl hz, rfl⟩
theorem Good.allocG {w0 : World} {K : Wd} {h : Heap} {nx : Nat} (g : Good w0 K h nx) (ob : Obj) : Good w0 (K.allocG ob) h nx := by
  have he := Ext.allocG g ob
  refine ⟨fun b o' hb => ?_, g.inj, g.below.alloc g.below.size ob, fun b off hz => ?_, g.lo, g.gl.mono he⟩
  · obtain ⟨h1, h2, h3, ob', h4, h5⟩ := g.live b o' hb
    exact ⟨h1, h2, h3, ob', by simp only [Wd.allocG]; rw [alloc_old _ _ (lt_of_row h4)]; exact h4, h5.mono he⟩
  · have := g.zin b off hz
    simp only [Wd.allocG, World.size_alloc]; omega
structure Waits (w0 : World) (K : Wd) (h : Heap) (g : Nat) (ob : Obj) : Prop where
  at_ : K.w.heap[g]? = some ob
  above : w0.heap.size ≤ g
  cold : ∀ off, ¬ K.Z g off
  apart : ∀ b o, hget h b = some o → K.m b ≠ g
def Wd.adopt (K : Wd) (nx g : Nat) : Wd := { K with m := fun b => if b = nx then g else K.m b }
theorem Ext.adopt (K : Wd) (nx g : Nat) : Ext K nx (K.adopt nx g) (nx + 1) :=
  ⟨by omega, fun b hb => by simp only [Wd.adopt]; rw [if_neg (by omega)], fun _ _ h => h, fun _ _ _ => rfl, fun _ c _ h => ⟨c, h, rfl⟩, rfl, fun _ _ h => .inl h, rfl⟩
theorem Good.adopt {w0 : World} {K : Wd} {h : Heap} {nx g : Nat} {ob : Obj} {o : AO} (G : Good w0 K h nx) (W : Waits w0 K h g ob) (ho : OR (K.adopt nx g) (nx + 1) o ob) : Good w0 (K.adopt nx g) ((nx, o) :: h) (nx + 1) := by
  have he := Ext.adopt K nx g
  have hm : (K.adopt nx g).m nx = g := by simp [Wd.adopt]
  have key : ∀ b o', hget ((nx, o) :: h) b = some o' → (b = nx ∧ o' = o) ∨ (b ≠ nx ∧ hget h b = some o' ∧ (K.adopt nx g).m b = K.m b) := by
    intro b o' hb
    rw [hget_cons] at hb
    split at hb
    · rename_i e; subst e; injection hb with hb; exact .inl ⟨rfl, hb.symm⟩
    · rename_i e; exact .inr ⟨fun h => e h.symm, hb, he.m b (G.live b o' hb).1⟩
  refine ⟨fun b o' hb => ?_, fun b b' o1 o2 hb hb' e => ?_, G.below, G.zin, G.lo, G.gl.mono he⟩
  · rcases key b o' hb with ⟨rfl, rfl⟩ | ⟨hne, hb, hmb⟩
    · exact ⟨by omega, by rw [hm]; exact W.above, by rw [hm]; exact W.cold, ob, by rw [hm]; exact W.at_, ho⟩
    · obtain ⟨h1, h2, h3, ob', h4, h5⟩ := G.live b o' hb
      exact ⟨by omega, by rw [hmb]; exact h2, by rw [hmb]; exact h3, ob', by rw [hmb]; exact h4, h5.mono he⟩
  · rcases key b o1 hb with ⟨k1, _⟩ | ⟨k1, k2, k3⟩ <;> rcases key b' o2 hb' with ⟨j1, _⟩ | ⟨j1, j2, j3⟩
    · rw [k1, j1]
    · rw [k1, hm, j3] at e; exact absurd e.symm (W.apart b' _ j2)
    · rw [j1, hm, k3] at e; exact absurd e (W.apart b _ k2)
    · rw [k3, j3] at e; exact G.inj b b' _ _ k2 j2 e
theorem alloc_run {P : Program} {t : TypeId} {z : List AV} (ht : zeroT P t = some z) : ∃ c : Array Value, (∀ w : World, (Instr.alloc t true (.tuple #[])).run P w = .ok (.pointer (some ⟨w.heap.size, 0, none⟩)) (w.alloc (.cells c t (0, 0)))) ∧ ∀ K nx, OR K nx (.cells z) (.cells c t (0, 0)) := by
  obtain ⟨i, v, hi, hv, hz, hrun⟩ := run_zeroT ht
  have hcr : ∀ (K : Wd) (nx : Nat), CR K nx z v.cells.toList := fun K nx => CR.ofC hz
  refine ⟨v.cells, fun w => by simp [Instr.alloc, hrun, newVar, newRow, newObj, Sem.run], fun K nx => ?_⟩
  have hl := (hcr K nx).len
  exact .cells z v.cells t (by simp at hl; omega) (hcr K nx).one fun i x u hx hu => (hcr K nx).at_ i x u hx (by simpa using hu)
theorem act_alloc {P : Program} {o : Oper} {ow : Bool} {z : List AV} {t : TypeId} (h3 : compileAct P ow o = some (.op (.alloc z))) (ho : o.op = .alloc t) : zeroT P t = some z := by
  have h : compileOp P ow o = some (.alloc z) := by
    have h4 := h3
    unfold compileAct at h4
    split at h4
    · rename_i x hx; simp only [ho] at h4; cases h4; exact hx
    · simp only [ho] at h4; cases h4
  unfold compileOp at h
  simp only [compileOp0, ho] at h
  cases hz : zeroT P t with
  | some z' => simp only [hz, Option.map_some, Option.some.injEq, AOp.alloc.injEq] at h; rw [h]
  | none => simp [hz, compileM] at h
theorem load_same {P : Program} {o : Oper} {ow : Bool} {sz : Nat} {ag : Bool} {x y : Operand} {t : TypeId} (h3 : compileAct P ow o = some (.op (.load sz ag x))) (ho : o.op = .load t y) {w0 : World} {K : Wd} {h h' : Heap} {nx nx' : Nat} (g : Good w0 K h nx)
    {env : Env} {a : Act} (he : EnvR K nx env a.tmps) {v : AV} (hev : opEv (.load sz ag x) env h nx = some (.val v, h', nx')) : ∃ u, (execOp a.eval o).run P K.w = .ok (.value u) K.w ∧ VR K nx v u := by
  have hc : compileOp P ow o = some (.load sz ag x) := by
    have h4 := h3
    unfold compileAct at h4
    split at h4
    · rename_i x hx; simp only [ho] at h4; cases h4; exact hx
    · simp only [ho] at h4; cases h4
  unfold compileOp at hc
  cases h0 : compileOp0 P ow o with
  | none =>
    simp only [h0] at hc
    split at hc
    · cases hc
    · simp [ho] at hc
  | some z =>
    simp only [h0, Option.some.injEq] at hc; subst hc
    simp only [compileOp0, ho] at h0
    split at h0 <;> first | (cases h0; done) | skip
    all_goals first
      | (rename_i h5; cases h5; done)
      | skip
    rename_i t' x' hne h5
    cases h5
    obtain ⟨d, hd, h0⟩ := Option.map_eq_some_iff.1 h0
    cases h0
    simp only [opEv] at hev
    split at hev
    · rename_i p hp
      split at hev
      · rename_i cs hcs
        split at hev
        · rename_i y hy
          cases hev
          obtain ⟨u, h1, h2⟩ := load_sound g hd hcs hy (oev_sound he hp)
          exact ⟨u, by simp [execOp, ho, h1], h2⟩
        · cases hev
      · cases hev
    · cases hev
theorem Good.unroot {w0 : World} {K K1 : Wd} {h : Heap} {nx n1 : Nat} (hg : Good w0 K h nx) (hext : Ext { K with lo := K.w.heap.size } nx K1 n1) (hgood : Good K.w K1 [] n1) : Ext K nx { K1 with lo := K.lo } n1 ∧ Good w0 { K1 with lo := K.lo } h n1 :=
  let ⟨u1, u2, _⟩ := hg.up hext hgood
  ⟨u1, u2⟩
section
variable {P : Program} {own : Nat → Bool} {N : Nat} {ops : Array Oper} {ms : List Nat} {fr : Option Nat} {L : List DStep} {b : Nat → Option AV} {S : Nat → Bool} {Q : AX → ASt → Prop} {ro : Option Nat}
theorem Obl.turn {en : Ent} {h h' : Heap} {nx nx' : Nat} {pd : Pend} {late : List Nat} (ho : Obl en h nx pd) (hl : late.contains en.d.i = true) (hp : pendOk h' (pendKeep late pd)) : Obl en h' nx' (pendKeep late pd) := by
  obtain ⟨bb, h1, h2⟩ := ho
  refine ⟨bb, h1, ?_⟩
  rcases h2 with h2 | ⟨h2, ao, y, h3, h4, h5, h6⟩
  · exact .inl h2
  · refine .inr ⟨h2, ao, y, h3, h4, ?_⟩
    rcases h6 with h6 | ⟨sz, ag, o, p, rfl, h7, h8, h9⟩
    · exact ⟨quiet_any h6 h5, .inl h6⟩
    · have hr : reload h' sz ag p = some y := by
        rcases h9 with h9 | h9
        · cases p <;> simp only [AV.isFp] at h9 <;> first | (cases h9; done) | exact h8
        · exact pendOk_mem hp _ _ _ _ _ (pendKeep_mem h9 hl)
      refine ⟨load_reload h7 hr, .inr ⟨sz, ag, o, p, rfl, h7, hr, ?_⟩⟩
      rcases h9 with h9 | h9
      · exact .inl h9
      · exact .inr (pendKeep_mem h9 hl)
theorem DInv.exec {T : List Ent} {d : DStep} {r : List DStep} {pd : Pend} {st : ASt} (hL : LaidD P own N ops ms fr L) (hi : DInv L b S T (d :: r) pd st) (hw : d.s.act.isW = true) (hbef : ∀ j, bef ms fr L d.i j → S j = true)
    {S' : Nat → Bool} (hS' : ∀ j, S' j = (S j || j == d.i)) (x : Option AV) (y : AV) (hxy : x = some y) (st' : ASt) (he : st'.env = setE d.s.dst y st.env) (hpo : pendOk st'.heap (pendKeep d.late pd)) :
    DInv L b S' (⟨d, x, st.env⟩ :: T) r (pendKeep d.late pd) st' := by
  obtain ⟨hb0, hb1⟩ := hi.head hL
  refine ⟨by rw [← hi.split]; simp, fun e he => ?_, fun t => ?_, fun T1 en T0 hT hS => ?_⟩
  · rw [hS', hi.sub e (List.mem_cons_of_mem _ he)]
    have := (hb1 e he).1
    simp; exact fun h => this h.symm
  · simp only [lk, true_and]
    rw [← hi.env t, he]
    cases hd : d.s.dst with
    | none => simp [setE]
    | some u => simp [setE, eget_cons, hxy]
  · cases T1 with
    | nil =>
      simp only [List.nil_append, List.cons.injEq] at hT
      obtain ⟨rfl, rfl⟩ := hT
      simp [hS'] at hS
    | cons e T1 =>
      simp only [List.cons_append, List.cons.injEq] at hT
      obtain ⟨rfl, rfl⟩ := hT
      have hS2 : S en.d.i = false := by
        rw [hS'] at hS; simp only [Bool.or_eq_false_iff] at hS; exact hS.1
      obtain ⟨h7, h8⟩ := hi.obl T1 en T0 rfl hS2
      refine ⟨h7, h8.turn ?_ hpo⟩
      refine dep_late ?_ hw
      cases hdep : en.d.dep d with
      | false => rfl
      | true =>
        have := hbef en.d.i ((hb0 en (List.mem_append_right _ List.mem_cons_self)).2 hdep)
        rw [hS2] at this; cases this
theorem exec_call {K : Wd} {nx i : Nat} {o : Oper} {a : Act} {ow : Bool} {env' : Env} {fo : Operand} {args : List Operand} {f : FuncId} {caps xs : List AV} {R : Ending → World → Prop} {Kont : Act → World → Prop} {Qx : Exit → Act → World → Prop} (ho : ops[i]? = some o)
    (hwt : Region.wanted o (yielded ops a.tmps) = true) (h3 : compileAct P ow o = some (.call fo args)) (hER : EnvR K nx env' a.tmps) (hf' : oev env' fo = some (.fn (.func f) caps)) (hx' : oevs env' args = some xs)
    (h1 : ∀ args w, (callFunc f args).run P w = .ok (.enter f args) w) (hc : ∀ {vs : Array Value}, ArgR K nx (xs ++ caps) vs → Calls P f vs K.w R)
    (hk : ∀ e w', R e w' → (∀ v, e = .returned v → Kont (a.put o.dst v) w') ∧ (∀ ch, e = .panicked ch → Qx (.panic ch) a w') ∧ e ≠ .outgrown) : wpOpIn { Fence.wide with round := ro } 0 P ops Qx i Kont a K.w := by
  have hop : ∃ c : Call, o.op = .call c ∧ c.callee = .value fo ∧ c.args.toList = args := inv_call' (own := fun _ => ow) (i := 0) h3 hx'
  obtain ⟨c, hop, hcal, hargs⟩ := hop
  have hnd : ∀ c, o.op ≠ .defer c := by intro c; rw [hop]; simp
  have hfv := oev_sound hER hf'
  unfold wpOpIn
  simp only [ho, hwt, if_true, Oper.wpIn]
  refine ⟨fun f _ => trivial, ?_⟩
  generalize hcf : a.eval fo = cf at hfv
  cases hfv with
  | fn _ _ cv hcs hcr =>
  obtain ⟨hl, hrel⟩ := oevs_sound hER args xs hx'
  have hres : (execOp a.eval o).run P K.w = .ok (.enter f (c.args.map a.eval ++ cv)) K.w := by
    simp only [execOp, hop, Sem.run_bind, resolve, hcal, hcf, Deferred.ofValue, Sem.run_pure, Result.andThen_ok, invoke]
    have he : (#[] : Array Value) ++ c.args.map a.eval = c.args.map a.eval := by simp
    rw [he]
    exact h1 _ _
  have harg : ArgR K nx (xs ++ caps) (c.args.map a.eval ++ cv) := by
    have hsz : (c.args.map a.eval).size = xs.length := by rw [Array.size_map, hl, ← hargs]; simp
    refine ⟨by simp only [Array.size_append, List.length_append, hsz, hcs], fun j x v hj hv => ?_⟩
    rw [List.getElem?_append] at hj
    rw [Array.getElem?_append, hsz] at hv
    split at hj
    · rename_i hlt
      rw [if_pos hlt] at hv
      refine hrel j x v hj ?_
      rw [← hargs]
      simpa using hv
    · rename_i hlt
      rw [if_neg hlt] at hv
      exact hcr _ x v hj hv
  rw [Oper.semAt_eq _ _ _ hnd, hres]
  simp only [Oper.uponIn]
  refine ⟨fun hh => by simp [Fence.wide] at hh, ?_⟩
  have hcalls := hc harg
  have hcin : CallsIn Fence.wide (0 - 1) P f (c.args.map a.eval ++ cv) K.w _ := callsIn_wide.2 hcalls
  have hcin2 : CallsIn { Fence.wide with round := ro } (0 - 1) P f (c.args.map a.eval ++ cv) K.w _ := hcin
  refine hcin2.mono ?_
  intro e w' hR
  obtain ⟨k1, k2, k3⟩ := hk e w' hR
  cases e with
  | returned v => exact k1 v rfl
  | panicked ch => exact k2 ch rfl
  | outgrown => exact absurd rfl k3
theorem exec_callB {K : Wd} {nx i : Nat} {o : Oper} {a : Act} {ow : Bool} {env' : Env} {fo : Operand} {args : List Operand} {f : FuncId} {fs caps xs : List AV} {R : Ending → World → Prop} {Kont : Act → World → Prop} {Qx : Exit → Act → World → Prop} (ho : ops[i]? = some o)
    (hwt : Region.wanted o (yielded ops a.tmps) = true) (h3 : compileAct P ow o = some (.call fo args)) (hER : EnvR K nx env' a.tmps) (hf' : oev env' fo = some (.bm (.func f) fs caps)) (hx' : oevs env' args = some xs)
    (h1 : ∀ args w, (callFunc f args).run P w = .ok (.enter f args) w) (hc : ∀ {vs : Array Value}, ArgR K nx (fs ++ (xs ++ caps)) vs → Calls P f vs K.w R)
    (hk : ∀ e w', R e w' → (∀ v, e = .returned v → Kont (a.put o.dst v) w') ∧ (∀ ch, e = .panicked ch → Qx (.panic ch) a w') ∧ e ≠ .outgrown) : wpOpIn { Fence.wide with round := ro } 0 P ops Qx i Kont a K.w := by
  have hop : ∃ c : Call, o.op = .call c ∧ c.callee = .value fo ∧ c.args.toList = args := inv_call' (own := fun _ => ow) (i := 0) h3 hx'
  obtain ⟨c, hop, hcal, hargs⟩ := hop
  have hnd : ∀ c, o.op ≠ .defer c := by intro c; rw [hop]; simp
  have hfv := oev_sound hER hf'
  unfold wpOpIn
  simp only [ho, hwt, if_true, Oper.wpIn]
  refine ⟨fun f _ => trivial, ?_⟩
  generalize hcf : a.eval fo = cf at hfv
  cases hfv with
  | bm _ _ _ c1 cv hcs1 hcs hcr1 hcr =>
  obtain ⟨hl, hrel⟩ := oevs_sound hER args xs hx'
  have hres : (execOp a.eval o).run P K.w = .ok (.enter f (c1 ++ c.args.map a.eval ++ cv)) K.w := by
    simp only [execOp, hop, Sem.run_bind, resolve, hcal, hcf, Deferred.ofValue, Sem.run_pure, Result.andThen_ok, invoke]
    exact h1 _ _
  have harg : ArgR K nx (fs ++ (xs ++ caps)) (c1 ++ c.args.map a.eval ++ cv) := by
    have hsz : (c.args.map a.eval).size = xs.length := by rw [Array.size_map, hl, ← hargs]; simp
    have hin : ArgR K nx (xs ++ caps) (c.args.map a.eval ++ cv) := by
      refine ⟨by simp only [Array.size_append, List.length_append, hsz, hcs], fun j x v hj hv => ?_⟩
      rw [List.getElem?_append] at hj
      rw [Array.getElem?_append, hsz] at hv
      split at hj
      · rename_i hlt
        rw [if_pos hlt] at hv
        refine hrel j x v hj ?_
        rw [← hargs]
        simpa using hv
      · rename_i hlt
        rw [if_neg hlt] at hv
        exact hcr _ x v hj hv
    rw [Array.append_assoc]
    refine ⟨by rw [Array.size_append, List.length_append, hcs1, hin.1], fun j x v hj hv => ?_⟩
    rw [List.getElem?_append] at hj
    rw [Array.getElem?_append, hcs1] at hv
    split at hj
    · rename_i hlt
      rw [if_pos hlt] at hv
      exact hcr1 j x v hj hv
    · rename_i hlt
      rw [if_neg hlt] at hv
      exact hin.2 _ x v hj hv
  rw [Oper.semAt_eq _ _ _ hnd, hres]
  simp only [Oper.uponIn]
  refine ⟨fun hh => by simp [Fence.wide] at hh, ?_⟩
  have hcalls := hc harg
  have hcin : CallsIn Fence.wide (0 - 1) P f (c1 ++ c.args.map a.eval ++ cv) K.w _ := callsIn_wide.2 hcalls
  have hcin2 : CallsIn { Fence.wide with round := ro } (0 - 1) P f (c1 ++ c.args.map a.eval ++ cv) K.w _ := hcin
  refine hcin2.mono ?_
  intro e w' hR
  obtain ⟨k1, k2, k3⟩ := hk e w' hR
  cases e with
  | returned v => exact k1 v rfl
  | panicked ch => exact k2 ch rfl
  | outgrown => exact absurd rfl k3
theorem exec_new {w0 : World} {K : Wd} {T : List Ent} {d : DStep} {r : List DStep} {pd : Pend} {st : ASt} {a : Act} (hL : LaidD P own N ops ms fr L) (hi : DInv L b S T (d :: r) pd st) (ha : AD P Q (d :: r) pd st)
    (hg : guardOk st.env d.s.guard = some true) (hw : d.s.act.isW = true)
    (hr : StRD w0 N K S b T st.heap st.nx st.dm a) (hbef : ∀ j, bef ms fr L d.i j → S j = true) {S' : Nat → Bool} (hS' : ∀ j, S' j = (S j || j == d.i))
    {Kont : Act → World → Prop} {K0 : Wd} {n0 : Nat} (h0 : Ext K0 n0 K st.nx)
    (hk : ∀ K' a' en pd' st', Ext K st.nx K' st'.nx → en.d = d → DInv L b S' (en :: T) r pd' st' → AD P Q r pd' st' → StRD w0 N K' S' b (en :: T) st'.heap st'.nx st'.dm a' → Kont a' K'.w) :
    wpOpIn { Fence.wide with round := ro } 0 P ops (Post w0 N K0 n0 Q) d.i Kont a K.w := by
  have hdL : d ∈ L := by rw [← hi.split]; exact List.mem_append_right _ List.mem_cons_self
  obtain ⟨o, ho, h2, h3, h4, h5⟩ := hL.step d hdL
  obtain ⟨hb0, hb1⟩ := hi.head hL
  have hSd := hi.sub d List.mem_cons_self
  have hread : ∀ t, d.s.looks t = true → lk S b T t = eget st.env t := by
    intro t ht
    rw [hi.env t]
    exact lk_congr fun f hf hd => hbef f.d.i ((hb0 f hf).2 (dep_write hd (.inl ht)))
  obtain ⟨env', henv'⟩ : ∃ env' : Env, env' = erestr (fun t => d.s.looks t) st.env := ⟨_, rfl⟩
  have hagree : ∀ t, d.s.looks t = true → eget env' t = eget st.env t := fun t ht => by rw [henv', eget_erestr, if_pos ht]
  have hER : EnvR K st.nx env' a.tmps := by
    intro t x hx
    rw [henv', eget_erestr] at hx
    split at hx
    · rename_i ht
      exact hr.env t x (by rw [hread t ht]; exact hx)
    · cases hx
  have hg' : guardOk env' d.s.guard = some true := by rw [guardOk_congr hagree]; exact hg
  have hwt := wanted_of hER h2 hg'
  have hlk : ∀ (x : Option AV) (e : Env) (t : Nat), lk S' b (⟨d, x, e⟩ :: T) t = if d.s.dst = some t then x else lk S b T t := by
    intro x e t
    have h6 : S' d.i = true := by simp [hS']
    simp only [lk, h6, true_and]
    split
    · rfl
    · exact lk_congr fun f hf _ => by rw [hS']; have := (hb0 f hf).1; simp [this]
  have hinv : ∀ (x : Option AV) (y : AV) (hxy : x = some y) (st' : ASt), st'.env = setE d.s.dst y st.env → pendOk st'.heap (pendKeep d.late pd) →
      DInv L b S' (⟨d, x, st.env⟩ :: T) r (pendKeep d.late pd) st' := fun x y hxy st' he hpo => hi.exec hL hw hbef hS' x y hxy st' he hpo
  have fin : ∀ {fo : Operand} {args : List Operand} {f : FuncId} {caps xs : List AV}, compileAct P (own d.i) o = some (.call fo args) → oev st.env fo = some (.fn (.func f) caps) → oevs st.env args = some xs → (∀ o' ∈ fo :: args, o' ∈ d.s.act.opnds) →
      (AC P f (xs ++ caps) st.heap st.nx fun y h' n' => pendOk h' (pendKeep d.late pd) ∧ match y with
        | .ret x => AD P Q r (pendKeep d.late pd) { st with env := setE d.s.dst x st.env, heap := h', nx := n' }
        | .panic x => Q (.panic x) { env := [], heap := h', nx := n', dm := st.dm }) → wpOpIn { Fence.wide with round := ro } 0 P ops (Post w0 N K0 n0 Q) d.i Kont a K.w := by
    intro fo args f caps xs h3 hf hx hmem ha
    have hcong := opnds_congr hagree
    have hf' : oev env' fo = some (.fn (.func f) caps) := by rw [hcong fo (hmem fo (by simp))]; exact hf
    have hx' : oevs env' args = some xs := by rw [← hx]; exact oevs_congr fun o' ho' => hcong o' (hmem o' (by simp [ho']))
    refine exec_call (K := K) (nx := st.nx) ho hwt h3 hER hf' hx' ha.1 (ha.2 w0 K _ hr.good) fun e w' hR => ?_
    obtain ⟨K', h', nx', y, rfl, hext, hgood, her, hpo, hq⟩ := hR
    cases y with
    | ret x =>
      cases e <;> simp only [AER] at her <;> first | exact her.elim | skip
      rename_i v
      refine ⟨fun v' hv => ?_, fun ch hch => (by cases hch), by simp⟩
      cases hv
      rw [h4]
      exact hk K' _ ⟨d, some x, st.env⟩ _ _ hext rfl (hinv (some x) x rfl { st with env := setE d.s.dst x st.env, heap := h', nx := nx' } rfl hpo) hq (hr.put hext hgood h5 (x := some x) (fun z hz => by cases hz; exact her) (hlk _ _))
    | panic x =>
      cases e <;> simp only [AER] at her <;> first | exact her.elim | skip
      rename_i ch
      refine ⟨fun v' hv => (by cases hv), fun ch' hch => ?_, by simp⟩
      cases hch
      refine ⟨K', { env := [], heap := h', nx := nx', dm := st.dm }, .panic x, rfl, h0.trans hext, ⟨hgood, fun t x hx => by simp [eget] at hx, hr.size, ?_, fun b hb => Nat.lt_of_lt_of_le (hr.dm b hb) hext.le⟩, her, hq⟩
      rw [marks_ext hext hr.dm]; exact hr.defers
  have finB : ∀ {fo : Operand} {args : List Operand} {f : FuncId} {fs caps xs : List AV}, compileAct P (own d.i) o = some (.call fo args) → oev st.env fo = some (.bm (.func f) fs caps) → oevs st.env args = some xs → (∀ o' ∈ fo :: args, o' ∈ d.s.act.opnds) →
      (AC P f (fs ++ (xs ++ caps)) st.heap st.nx fun y h' n' => pendOk h' (pendKeep d.late pd) ∧ match y with
        | .ret x => AD P Q r (pendKeep d.late pd) { st with env := setE d.s.dst x st.env, heap := h', nx := n' }
        | .panic x => Q (.panic x) { env := [], heap := h', nx := n', dm := st.dm }) → wpOpIn { Fence.wide with round := ro } 0 P ops (Post w0 N K0 n0 Q) d.i Kont a K.w := by
    intro fo args f fs caps xs h3 hf hx hmem ha
    have hcong := opnds_congr hagree
    have hf' : oev env' fo = some (.bm (.func f) fs caps) := by rw [hcong fo (hmem fo (by simp))]; exact hf
    have hx' : oevs env' args = some xs := by rw [← hx]; exact oevs_congr fun o' ho' => hcong o' (hmem o' (by simp [ho']))
    refine exec_callB (K := K) (nx := st.nx) ho hwt h3 hER hf' hx' ha.1 (ha.2 w0 K _ hr.good) fun e w' hR => ?_
    obtain ⟨K', h', nx', y, rfl, hext, hgood, her, hpo, hq⟩ := hR
    cases y with
    | ret x =>
      cases e <;> simp only [AER] at her <;> first | exact her.elim | skip
      rename_i v
      refine ⟨fun v' hv => ?_, fun ch hch => (by cases hch), by simp⟩
      cases hv
      rw [h4]
      exact hk K' _ ⟨d, some x, st.env⟩ _ _ hext rfl (hinv (some x) x rfl { st with env := setE d.s.dst x st.env, heap := h', nx := nx' } rfl hpo) hq (hr.put hext hgood h5 (x := some x) (fun z hz => by cases hz; exact her) (hlk _ _))
    | panic x =>
      cases e <;> simp only [AER] at her <;> first | exact her.elim | skip
      rename_i ch
      refine ⟨fun v' hv => (by cases hv), fun ch' hch => ?_, by simp⟩
      cases hch
      refine ⟨K', { env := [], heap := h', nx := nx', dm := st.dm }, .panic x, rfl, h0.trans hext, ⟨hgood, fun t x hx => by simp [eget] at hx, hr.size, ?_, fun b hb => Nat.lt_of_lt_of_le (hr.dm b hb) hext.le⟩, her, hq⟩
      rw [marks_ext hext hr.dm]; exact hr.defers
  unfold AD at ha
  simp only [hg] at ha
  cases hact : d.s.act with
  | op ao =>
    unfold wpOpIn
    simp only [ho, hwt, if_true, Oper.wpIn]
    refine ⟨fun f _ => trivial, ?_⟩
    rw [hact] at h3
    simp only [hact] at ha
    have hq : ¬ ao.quiet = true := by rw [hact] at hw; simp only [AAct.isW, Bool.and_eq_true, Bool.not_eq_true'] at hw; simp [hw.1]
    rw [if_neg hq] at ha
    obtain ⟨hsnd, hnd⟩ := op_sound (act_op h3.op)
    have hev' : ∀ hp n, opEv ao env' hp n = opEv ao st.env hp n := fun hp n => opEv_congr fun o' ho' => opnds_congr hagree o' (by rw [hact]; exact ho')
    have ha' : (match opEv ao st.env st.heap st.nx with
            | some (.val x, h', n') => pendOk h' (pendKeep d.late pd) ∧ AD P Q r (pendKeep d.late pd) { st with env := setE d.s.dst x st.env, heap := h', nx := n' }
            | some (.skip, h', n') => pendOk h' (pendKeep d.late pd) ∧ AD P Q r (pendKeep d.late pd) { st with env := dropE d.s.dst st.env, heap := h', nx := n' }
            | none => False) := by
      rw [hact] at hw
      simp only [AAct.isW, Bool.and_eq_true, Bool.not_eq_true'] at hw
      cases ao <;> first | exact ha | (simp [AOp.isLoad] at hw; done)
    split at ha'
    · rename_i x h' n' hev
      obtain ⟨K', rr, hrun, hext, hgood, hout⟩ := hsnd w0 K st.heap st.nx env' a _ _ _ hr.good hER (by rw [hev']; exact hev)
      rw [Oper.semAt_eq _ _ _ hnd, hrun]
      cases rr <;> simp only [outR] at hout <;> first | exact hout.elim | skip
      rename_i v
      simp only [Oper.uponIn, h4]
      exact hk K' _ ⟨d, some x, st.env⟩ _ _ hext rfl (hinv (some x) x rfl { st with env := setE d.s.dst x st.env, heap := h', nx := n' } rfl ha'.1) ha'.2 (hr.put hext hgood h5 (x := some x) (fun z hz => by cases hz; exact hout) (hlk _ _))
    · rename_i h' n' hev
      obtain ⟨K', rr, hrun, hext, hgood, hout⟩ := hsnd w0 K st.heap st.nx env' a _ _ _ hr.good hER (by rw [hev']; exact hev)
      rw [Oper.semAt_eq _ _ _ hnd, hrun]
      cases rr <;> simp only [outR] at hout <;> first | exact hout.elim | skip
      simp only [Oper.uponIn, h4]
      exact hk K' _ ⟨d, some (.tup []), st.env⟩ _ _ hext rfl (hinv (some (.tup [])) (.tup []) rfl { st with env := dropE d.s.dst st.env, heap := h', nx := n' } rfl ha'.1) ha'.2 (hr.put hext hgood h5 (x := some (.tup [])) (fun z hz => by cases hz; exact VR_undef _ _) (hlk _ _))
    · exact ha'.elim
  | call fo args =>
    simp only [hact] at ha
    rw [hact] at h3
    split at ha
    · rename_i f caps xs hf hx
      exact fin h3.call hf hx (fun o' ho' => hact ▸ ho') ha
    · rename_i f fs caps xs hf hx
      exact finB h3.call hf hx (fun o' ho' => hact ▸ ho') ha
    · exact ha.elim
  | callZ fo args =>
    simp only [hact] at ha
    split at ha
    case h_2 => exact ha.elim
    rename_i f caps xs hf hx
    rw [hact] at h3
    exact fin h3.callZ hf hx (fun o' ho' => hact ▸ ho') ((ha.frame st.heap).mono fun y h'' n' ⟨h', e1, _, hd, hz⟩ => by
      have := hz hd
      subst e1
      exact this)
def listedB (l : Array Bool) (j : Nat) : Bool := l.getD j false
theorem listedB_set {l : Array Bool} {i : Nat} (h : i < l.size) (j : Nat) : listedB (l.setIfInBounds i true) j = (listedB l j || j == i) := by
  unfold listedB
  simp only [Array.getD_eq_getD_getElem?, Array.getElem?_setIfInBounds]
  by_cases e : i = j
  · subst e; simp [h]
  · simp [e, Ne.symm e]
theorem ready_nil {md : Region.Mode} {l : Array Bool} (hsz : l.size = ops.size) (hlow : ∀ i o, ops[i]? = some o → ∀ e ∈ o.after, Region.binds md e = true → e.on < i) (h : Region.ready md ops l = []) : ∀ i, i < ops.size → listedB l i = true := by
  intro i
  induction i using Nat.strongRecOn with
  | _ i ih =>
    intro hi
    cases hl : listedB l i with
    | true => rfl
    | false =>
      have : i ∈ Region.ready md ops l := by
        rw [mem_ready]
        unfold listedB at hl
        refine ⟨?_, ops[i], Array.getElem?_eq_getElem hi, fun e he hb => ?_⟩
        · have h1 : i < l.size := by omega
          simp [Array.getD_eq_getD_getElem?, h1] at hl ⊢
          exact hl
        · have := hlow i ops[i] (Array.getElem?_eq_getElem hi) e he hb
          exact ih e.on this (by omega)
      rw [h] at this; cases this
theorem exec_pend {w0 : World} {K : Wd} {T1 T0 : List Ent} {en : Ent} {suf : List DStep} {pd : Pend} {st : ASt} {a : Act} {ex : Option Tmp} (hL : LaidD P own N ops ms fr L) (hi : DInv L b S (T1 ++ en :: T0) suf pd st)
    (hr : StRG w0 N K (fun t => if ex = some t then none else lk S b (T1 ++ en :: T0) t) st.heap st.nx st.dm a) (hn : S en.d.i = false) (hbef : ∀ j, bef ms fr L en.d.i j → S j = true) (hdone : ∀ f ∈ T1, S f.d.i = true → ∀ j, bef ms fr L f.d.i j → S j = true) {S' : Nat → Bool} (hS' : ∀ j, S' j = (S j || j == en.d.i))
    (hex : ∀ t, ex = some t → en.d.s.looks t = false ∧ en.d.s.dst ≠ some t) (hld : ∀ o sz ag x, ops[en.d.i]? = some o → en.d.s.act = .op (.load sz ag x) → ∃ t y, o.op = .load t y)
    {Kont : Act → World → Prop} {Qx : Exit → Act → World → Prop} (hk : ∀ K' a', Ext K st.nx K' st.nx → (∀ g, g < K.w.heap.size → K'.w.heap[g]? = K.w.heap[g]?) → (∀ b o, K'.Z b o → K.Z b o ∨ K.w.heap.size ≤ b) → (∀ t, ex = some t → a'.tmps[t]? = a.tmps[t]?) →
      StRG w0 N K' (fun t => if ex = some t then none else lk S' b (T1 ++ en :: T0) t) st.heap st.nx st.dm a' → Kont a' K'.w) :
    wpOpIn { Fence.wide with round := ro } 0 P ops Qx en.d.i Kont a K.w := by
  obtain ⟨o, ho, h2, h3, h4, h5⟩ := hL.step en.d (hi.mem (List.mem_append_right _ List.mem_cons_self))
  obtain ⟨hb0, hb1⟩ := hi.around hL
  obtain ⟨henv, bb, hg, hob⟩ := hi.obl T1 en T0 rfl hn
  have hbef1 : ∀ f ∈ T1, bef ms fr L f.d.i en.d.i → S f.d.i = false := by
    intro f hf hb
    cases hSf : S f.d.i with
    | false => rfl
    | true =>
      have := hdone f hf hSf en.d.i hb
      rw [hn] at this; cases this
  have hread : ∀ t, en.d.s.looks t = true → lk S b (T1 ++ en :: T0) t = eget en.env t := by
    intro t ht
    rw [henv t]
    rw [lk_skip (T1 := T1) fun f hf hd => hbef1 f hf ((hb1 f hf).2 (dep_read hd ht))]
    simp only [lk, hn, Bool.false_eq_true, false_and, if_false]
    refine lk_congr fun f hf hd => ?_
    exact hbef f.d.i ((hb0 f hf).2 (dep_write hd (.inl ht)))
  obtain ⟨env', henv'⟩ : ∃ env' : Env, env' = erestr (fun t => en.d.s.looks t) en.env := ⟨_, rfl⟩
  have hagree : ∀ t, en.d.s.looks t = true → eget env' t = eget en.env t := fun t ht => by rw [henv', eget_erestr, if_pos ht]
  have hER : EnvR K st.nx env' a.tmps := by
    intro t x hx
    rw [henv', eget_erestr] at hx
    split at hx
    · rename_i ht
      refine hr.env t x ?_
      rw [if_neg (fun e => by have := (hex t e).1; rw [ht] at this; cases this), hread t ht]; exact hx
    · cases hx
  have hg' : guardOk env' en.d.s.guard = some bb := by rw [guardOk_congr hagree]; exact hg
  have hw := wanted_of hER h2 hg'
  have hlk : ∀ t, (if ex = some t then none else lk S' b (T1 ++ en :: T0) t) = if en.d.s.dst = some t then en.x else (if ex = some t then none else lk S b (T1 ++ en :: T0) t) := by
    intro t
    rw [lk_done (b := b) hS' (fun f hf => ⟨(hb1 f hf).1, fun t h6 h7 => hbef1 f hf ((hb1 f hf).2 (dep_write h7 (.inr h6)))⟩) (fun f hf => (hb0 f hf).1) hn t]
    by_cases e : ex = some t
    · rw [if_pos e, if_pos e, if_neg (hex t e).2]
    · rw [if_neg e, if_neg e]
  have keep : ∀ v t, ex = some t → (a.put o.dst v).tmps[t]? = a.tmps[t]? := by
    intro v t e
    rw [h4]
    cases hd : en.d.s.dst with
    | none => rfl
    | some u =>
      simp only [Act.put]
      rw [Array.getElem?_setIfInBounds, if_neg]
      intro e'; subst e'; exact (hex _ e).2 hd
  unfold wpOpIn
  simp only [ho, hw]
  rcases hob with ⟨rfl, hx⟩ | ⟨rfl, ao, y, hact, hx, hev, hql⟩
  · simp only [Bool.false_eq_true, if_false]
    refine ⟨fun f _ => trivial, hk K _ (Ext.refl _ _) (fun _ _ => rfl) (fun _ _ h => .inl h) (keep _) ?_⟩
    rw [h4]
    exact hr.put (Ext.refl _ _) hr.good h5 (x := some (.tup [])) (fun y hy => by cases hy; exact VR_undef _ _) (by rw [← hx]; exact hlk)
  · simp only [if_true, Oper.wpIn]
    refine ⟨fun f _ => trivial, ?_⟩
    have h3' := h3
    rw [hact] at h3
    obtain ⟨hsnd, hnd⟩ := op_sound (act_op h3.op)
    have hev' : opEv ao env' st.heap st.nx = some (.val y, st.heap, st.nx) := by
      rw [← hev]
      exact opEv_congr fun o' ho' => opnds_congr hagree o' (by rw [hact]; exact ho')
    rcases hql with hq | ⟨sz, ag, o1, p1, rfl, _⟩
    · have hgr := hr.good.reroot
      have hERr : EnvR { K with lo := K.w.heap.size } st.nx env' a.tmps := fun t x hx => let ⟨v, k1, k2⟩ := hER t x hx; ⟨v, k1, k2.lo _⟩
      obtain ⟨K1, rr, hrun, hext, hgood, hout⟩ := hsnd K.w _ [] st.nx env' a _ _ _ hgr hERr (quiet_any hq hev')
      obtain ⟨hext2, hgood2⟩ := hr.good.unroot hext hgood
      rw [Oper.semAt_eq _ _ _ hnd, hrun]
      cases rr <;> simp only [outR] at hout <;> first | exact hout.elim | skip
      rename_i v
      simp only [Oper.uponIn]
      refine hk { K1 with lo := K.lo } _ hext2 (fun g hg => hgood.below.block g hg) (fun b o hz => hext.Zn b o hz) (keep _) ?_
      rw [h4]
      exact hr.put hext2 hgood2 h5 (x := some y) (fun z hz => by cases hz; exact hout.lo _) (by rw [← hx]; exact hlk)
    · obtain ⟨t, y1, hop⟩ := hld o sz ag o1 ho hact
      obtain ⟨u, hrun, hvr⟩ := load_same h3.op hop hr.good hER hev'
      rw [Oper.semAt_eq _ _ _ hnd, hrun]
      simp only [Oper.uponIn]
      refine hk K _ (Ext.refl _ _) (fun _ _ => rfl) (fun _ _ h => .inl h) (keep _) ?_
      rw [h4]
      exact hr.put (Ext.refl _ _) hr.good h5 (x := some y) (fun z hz => by cases hz; exact hvr) (by rw [← hx]; exact hlk)
theorem exec_alloc {K : Wd} {d : DStep} {z : List AV} {a : Act} (hL : LaidD P own N ops ms fr L) (hd : d ∈ L) (hg : d.s.guard = none) (hact : d.s.act = .op (.alloc z)) (hop : ∀ o, ops[d.i]? = some o → ∃ t, o.op = .alloc t)
    {Kont : Act → World → Prop} {Qx : Exit → Act → World → Prop} (hk : ∀ ob, (∀ K nx, OR K nx (.cells z) ob) → Kont (a.put d.s.dst (.pointer (some ⟨K.w.heap.size, 0, none⟩))) (K.w.alloc ob)) :
    wpOpIn { Fence.wide with round := ro } 0 P ops Qx d.i Kont a K.w := by
  obtain ⟨o, ho, h2, h3, h4, h5⟩ := hL.step d hd
  obtain ⟨t, hot⟩ := hop o ho
  rw [hact] at h3
  obtain ⟨c, hrun, hor⟩ := alloc_run (act_alloc h3.op hot)
  have hER : EnvR K 0 [] a.tmps := fun t x hx => by simp [eget] at hx
  have hw := wanted_of hER h2 (show guardOk [] d.s.guard = some true by rw [hg]; rfl)
  have hnd : ∀ c, o.op ≠ .defer c := by intro c; rw [hot]; simp
  unfold wpOpIn
  simp only [ho, hw, if_true, Oper.wpIn]
  refine ⟨fun f _ => trivial, ?_⟩
  have he : (execOp a.eval o).run P K.w = .ok (.value (.pointer (some ⟨K.w.heap.size, 0, none⟩))) (K.w.alloc (.cells c t (0, 0))) := by simp [execOp, hot, hrun]
  rw [Oper.semAt_eq _ _ _ hnd, he]
  simp only [Oper.uponIn, h4]
  exact hk _ hor
theorem obl_not {en : Ent} {h : Heap} {nx : Nat} {pd : Pend} {z : List AV} (hg : en.d.s.guard = none) (ha : en.d.s.act = .op (.alloc z)) (ho : Obl en h nx pd) : False := by
  obtain ⟨bb, h1, h2⟩ := ho
  rw [hg] at h1
  simp only [guardOk, Option.some.injEq] at h1; subst h1
  rcases h2 with ⟨h2, _⟩ | ⟨_, ao, y, h3, _, _, h4⟩
  · cases h2
  · rw [ha] at h3; cases h3
    rcases h4 with h4 | ⟨_, _, _, _, h4, _⟩
    · cases h4
    · cases h4
def MainP (P : Program) (N : Nat) (ops : Array Oper) (ro : Option Nat) (ms : List Nat) (fr : Option Nat) (L : List DStep) (b : Nat → Option AV) (Q : AX → ASt → Prop) (w0 : World) (K0 : Wd) (n0 : Nat) (fuel : Nat) : Prop :=
  ∀ (l : Array Bool) (T : List Ent) (suf : List DStep) (pd : Pend) (st : ASt) (K : Wd) (a : Act), l.size = ops.size → l.toList.count false ≤ fuel →
    Closed ops (listedB l) → (∀ q, fr = some q → listedB l q = true → ∀ d ∈ L, lightS ms q d = true → listedB l d.i = true) → DInv L b (listedB l) T suf pd st → AD P Q suf pd st → (suf = [] ∨ ∃ d r, suf = d :: r ∧ guardOk st.env d.s.guard = some true ∧ d.s.act.isW = true) → StRD w0 N K (listedB l) b T st.heap st.nx st.dm a → Ext K0 n0 K st.nx →
    wpAnyIn { Fence.wide with round := ro } 0 P .any ops (Post w0 N K0 n0 Q) fuel l a K.w
def PendP (P : Program) (N : Nat) (ops : Array Oper) (ro : Option Nat) (L : List DStep) (b : Nat → Option AV) (Q : AX → ASt → Prop) (dq : DStep) (zq : List AV) (w0 : World) (K0 : Wd) (n0 : Nat) (fuel : Nat) : Prop :=
  ∀ (l : Array Bool) (T : List Ent) (d : DStep) (r : List DStep) (pd : Pend) (st : ASt) (K : Wd) (a : Act) (g : Nat) (ob : Obj), l.size = ops.size → l.toList.count false ≤ fuel →
    Closed ops (listedB l) → d.i ≠ dq.i → dq ∈ r → d.s.act.isW = true → listedB l dq.i = true → DInv L b (fun j => listedB l j && j != dq.i) T (d :: r) pd st → AD P Q (d :: r) pd st → Waits w0 K st.heap g ob → (∀ K nx, OR K nx (.cells zq) ob) →
    (∀ t, dq.s.dst = some t → a.tmps[t]? = some (.pointer (some ⟨g, 0, none⟩))) → StRG w0 N K (fun t => if dq.s.dst = some t then none else lk (fun j => listedB l j && j != dq.i) b T t) st.heap st.nx st.dm a → Ext K0 n0 K st.nx →
    wpAnyIn { Fence.wide with round := ro } 0 P .any ops (Post w0 N K0 n0 Q) fuel l a K.w
theorem pw_uniq {R : DStep → DStep → Prop} : ∀ {L : List DStep}, L.Pairwise (fun d e => d.i ≠ e.i ∧ R d e) → ∀ d ∈ L, ∀ e ∈ L, d.i = e.i → d = e
  | [], _, d, hd, e, he, hi => by simp at hd
  | c :: r, h, d, hd, e, he, hi => by
    rw [List.pairwise_cons] at h
    rcases List.mem_cons.1 hd with h1 | h1 <;> rcases List.mem_cons.1 he with h2 | h2
    · rw [h1, h2]
    · subst h1; exact absurd hi (h.1 e h2).1
    · subst h2; exact absurd hi.symm (h.1 d h1).1
    · exact pw_uniq h.2 d h1 e h2 hi
theorem LaidD.uniq (hL : LaidD P own N ops ms fr L) {d e : DStep} (hd : d ∈ L) (he : e ∈ L) (hi : d.i = e.i) : d = e := pw_uniq hL.pairs d hd e he hi
theorem light_i {q : Nat} {d : DStep} (h : lightS ms q d = true) : lightB d = true ∧ before ms q d.i = false ∧ before ms d.i q = false ∧ d.i ≠ q := by
  simp only [lightS, Bool.and_eq_true, Bool.not_eq_true', bne_iff_ne, ne_eq] at h
  exact ⟨h.1.1.1, h.1.1.2, h.1.2, h.2⟩
theorem obl_light {en : Ent} {h : Heap} {nx : Nat} {pd : Pend} (hl : lightB en.d = true) (ho : Obl en h nx pd) : False := by
  obtain ⟨bb, h1, h2⟩ := ho
  simp only [lightB, Bool.and_eq_true, Option.isNone_iff_eq_none] at hl
  obtain ⟨hg, hl⟩ := hl
  rw [hg] at h1
  simp only [guardOk, Option.some.injEq] at h1; subst h1
  rcases h2 with ⟨h2, _⟩ | ⟨_, ao, y, h3, _, _, h4⟩
  · cases h2
  · rw [h3] at hl
    split at hl
    · rename_i z h5
      cases h5
      rcases h4 with h4 | ⟨_, _, _, _, h4, _⟩
      · cases h4
      · cases h4
    · rename_i h5; cases h5
    · cases hl
theorem ready_facts {l : Array Bool} {fuel i : Nat} (hsz : l.size = ops.size) (hcnt : l.toList.count false ≤ fuel + 1) (hC : Closed ops (listedB l)) (hmem : i ∈ Region.ready .any ops l) :
    i < ops.size ∧ listedB l i = false ∧ (∀ o, ops[i]? = some o → ∀ e ∈ o.after, Region.binds .any e = true → listedB l e.on = true) ∧ (∀ j, listedB (l.setIfInBounds i true) j = (listedB l j || j == i)) ∧
    (l.setIfInBounds i true).size = ops.size ∧ (l.setIfInBounds i true).toList.count false ≤ fuel ∧ Closed ops (listedB (l.setIfInBounds i true)) := by
    obtain ⟨h1, o, ho, hafter⟩ := mem_ready.1 hmem
    have hlt : i < ops.size := (Array.getElem?_eq_some_iff.1 ho).1
    have hll : i < l.size := by omega
    have hf : listedB l i = false := by
      unfold listedB
      simp [Array.getD_eq_getD_getElem?, hll] at h1 ⊢
      exact h1
    have hrdy : ∀ o, ops[i]? = some o → ∀ e ∈ o.after, Region.binds .any e = true → listedB l e.on = true := fun o' ho' e he hb => by
      rw [ho] at ho'; injection ho' with ho'; subst ho'; exact hafter e he hb
    have hset := listedB_set hll
    have hsz' : (l.setIfInBounds i true).size = ops.size := by simp [hsz]
    have hcnt' : (l.setIfInBounds i true).toList.count false ≤ fuel := by
      have hx : l.toList[i]'(by simpa using hll) = false := by
        unfold listedB at hf
        simp [Array.getD_eq_getD_getElem?, hll] at hf
        simpa using hf
      have hpos : 0 < l.toList.count false := List.count_pos_iff.2 (hx ▸ List.getElem_mem _)
      rw [Array.toList_setIfInBounds, List.count_set (by simpa using hll), hx]
      simp only [beq_self_eq_true, if_true]
      have : (true == false) = false := rfl
      simp only [this, Bool.false_eq_true, if_false]
      omega
    have hC' : Closed ops (listedB (l.setIfInBounds i true)) := by
      intro j oj hj hSj e he hb
      rw [hset] at hSj ⊢
      simp only [Bool.or_eq_true, beq_iff_eq] at hSj ⊢
      rcases hSj with hSj | rfl
      · exact .inl (hC j oj hj hSj e he hb)
      · exact .inl (hrdy oj hj e he hb)
    exact ⟨hlt, hf, hrdy, hset, hsz', hcnt', hC'⟩
theorem pend_cont {w0 : World} (hL : LaidD P own N ops ms fr L) {K0 : Wd} {n0 : Nat} {dq : DStep} {zq : List AV} (hfr : fr = some dq.i) (hdq : dq ∈ L) (hgq : dq.s.guard = none) (haq : dq.s.act = .op (.alloc zq)) {fuel : Nat}
    (hM : MainP P N ops ro ms fr L b Q w0 K0 n0 fuel) (hP : PendP P N ops ro L b Q dq zq w0 K0 n0 fuel) {l : Array Bool} {T : List Ent} {r : List DStep} {pd : Pend} {st : ASt} {K : Wd} {a : Act} {g : Nat} {ob : Obj} (hsz : l.size = ops.size) (hcnt : l.toList.count false ≤ fuel)
    (hC : Closed ops (listedB l)) (hTq : ∀ en ∈ T, en.d.i ≠ dq.i) (hlq : listedB l dq.i = true) (hi : DInv L b (fun j => listedB l j && j != dq.i) T r pd st) (ha : AD P Q r pd st) (hwt : Waits w0 K st.heap g ob) (hor : ∀ K nx, OR K nx (.cells zq) ob)
    (htq : ∀ t, dq.s.dst = some t → a.tmps[t]? = some (.pointer (some ⟨g, 0, none⟩))) (hr : StRG w0 N K (fun t => if dq.s.dst = some t then none else lk (fun j => listedB l j && j != dq.i) b T t) st.heap st.nx st.dm a) (h0 : Ext K0 n0 K st.nx) :
    wpAnyIn { Fence.wide with round := ro } 0 P .any ops (Post w0 N K0 n0 Q) fuel l a K.w := by
  obtain ⟨hql, hnqq, hal, hfree, hlds⟩ := hL.free dq.i hfr
  have hwq : dq.s.act.isW = true := by rw [haq]; rfl
  obtain ⟨T1, suf', pd2, st2, hi2, ha2, hs2, e1, e2, e3, hT1⟩ := advance r _ _ _ hi ha
  have hqs : dq ∈ suf' := by
    have h1 := hdq
    rw [← hi2.split] at h1
    rcases List.mem_append.1 h1 with h1 | h1
    · obtain ⟨en, hen, h2⟩ := List.mem_map.1 (List.mem_reverse.1 h1)
      exfalso
      obtain ⟨U1, U0, hU⟩ := List.append_of_mem hen
      obtain ⟨_, hob⟩ := hi2.obl U1 en U0 hU (by rw [h2]; simp)
      exact obl_not (by rw [h2]; exact hgq) (by rw [h2]; exact haq) hob
    · exact h1
  rcases hs2 with rfl | ⟨d2, r2, rfl, hg2, hw2⟩
  · cases hqs
  have hlk2 : ∀ t, lk (fun j => listedB l j && j != dq.i) b (T1 ++ T) t = lk (fun j => listedB l j && j != dq.i) b T t := fun t => lk_skip fun e he _ => hT1 e he
  by_cases hd2 : d2.i = dq.i
  rotate_left
  · -- it waits on
    have hqr : dq ∈ r2 := by
      rcases List.mem_cons.1 hqs with h1 | h1
      · exact absurd (by rw [h1]) hd2
      · exact h1
    refine hP l (T1 ++ T) d2 r2 pd2 st2 K a g ob hsz hcnt hC hd2 hqr hw2 hlq hi2 ha2 (by rw [e1]; exact hwt) hor htq ?_ (by rw [e2]; exact h0)
    rw [e1, e2, e3]
    refine ⟨hr.good, fun t x hx => hr.env t x ?_, hr.size, hr.defers, hr.dm⟩
    rw [hlk2] at hx; exact hx
  have hd2L : d2 ∈ L := by rw [← hi2.split]; exact List.mem_append_right _ List.mem_cons_self
  have hd2e : d2 = dq := hL.uniq hd2L hdq hd2
  subst hd2e
  have hTq' : ∀ en ∈ T1 ++ T, en.d.i ≠ d2.i := fun en hen => ((hi2.head hL).1 en hen).1
  have hlt : ∀ d ∈ L, lightS ms d2.i d = true → (listedB l d.i && d.i != d2.i) = true := by
    intro d hd hld
    obtain ⟨l1, l2, l3, l4⟩ := light_i hld
    have h1 := hd
    rw [← hi2.split] at h1
    rcases List.mem_append.1 h1 with h1 | h1
    · obtain ⟨en, hen, h2⟩ := List.mem_map.1 (List.mem_reverse.1 h1)
      cases hS : (listedB l d.i && d.i != d2.i) with
      | true => rfl
      | false =>
        exfalso
        obtain ⟨U1, U0, hU⟩ := List.append_of_mem hen
        obtain ⟨_, hob⟩ := hi2.obl U1 en U0 hU (by rw [h2]; exact hS)
        exact obl_light (by rw [h2]; exact l1) hob
    · rcases List.mem_cons.1 h1 with h1 | h1
      · exact absurd (by rw [h1]) l4
      · exfalso
        rcases ((hi2.head hL).2 d h1).2 (dep_w hwq) with hb | ⟨hb, _⟩
        · rw [l3] at hb; cases hb
        · rw [hfr] at hb; injection hb with hb; exact l4 hb.symm
  have hbq : ∀ j, bef ms fr L d2.i j → (listedB l j && j != d2.i) = true := by
    intro j hj
    rcases hj with hj | ⟨_, d', hd', rfl, hl'⟩
    · have h3 := Closed.before hL.masked hC d2.i ops[d2.i] (Array.getElem?_eq_getElem hql) (hC d2.i _ (Array.getElem?_eq_getElem hql) hlq) _ hj
      have hjq : j ≠ d2.i := by rintro rfl; rw [hnqq] at hj; cases hj
      simp [h3, hjq]
    · exact hlt d' hd' hl'
  have hS2 : ∀ j, listedB l j = ((fun j => listedB l j && j != d2.i) j || j == d2.i) := by
    intro j
    by_cases e : j = d2.i
    · subst e; simp [hlq]
    · have : (j == d2.i) = false := by simpa using e
      have h7 : (j != d2.i) = true := by simpa using e
      simp [this, h7]
  have ha3 : pendOk ((st2.nx, .cells zq) :: st2.heap) (pendKeep d2.late pd2) ∧ AD P Q r2 (pendKeep d2.late pd2) { st2 with env := setE d2.s.dst (.op st2.nx 0) st2.env, heap := (st2.nx, .cells zq) :: st2.heap, nx := st2.nx + 1 } := by
    unfold AD at ha2
    simp only [hgq, guardOk, haq, AOp.quiet, Bool.false_eq_true, if_false, opEv] at ha2
    exact ha2
  have hi3 := hi2.exec hL hwq hbq hS2 (some (.op st2.nx 0)) _ rfl { st2 with env := setE d2.s.dst (.op st2.nx 0) st2.env, heap := (st2.nx, .cells zq) :: st2.heap, nx := st2.nx + 1 } rfl ha3.1
  obtain ⟨T3, suf3, pd3, st3, hi4, ha4, hs4, f1, f2, f3, hT3⟩ := advance r2 _ _ _ hi3 ha3.2
  simp only at f1 f2 f3
  have hwt2 : Waits w0 K st2.heap g ob := by rw [e1]; exact hwt
  have hgd2 : Good w0 K st2.heap st2.nx := by rw [e1, e2]; exact hr.good
  have hg2' := hgd2.adopt hwt2 (hor (K.adopt st2.nx g) (st2.nx + 1))
  have hx2 : Ext K st2.nx (K.adopt st2.nx g) (st2.nx + 1) := Ext.adopt K st2.nx g
  have hm2 : (K.adopt st2.nx g).m st2.nx = g := by simp [Wd.adopt]
  refine hM l _ suf3 pd3 st3 (K.adopt st2.nx g) a hsz hcnt hC (fun q hq hlq' d hd hld => ?_) hi4 ha4 hs4 ?_ (by rw [f2]; exact h0.trans (by rw [← e2]; exact hx2))
  · rw [hfr] at hq; injection hq with hq; subst hq
    have := hlt d hd hld
    rw [Bool.and_eq_true] at this
    exact this.1
  refine ⟨by rw [f1, f2]; exact hg2', fun t x hx => ?_, hr.size, ?_, fun b' hb' => ?_⟩
  · rw [lk_skip fun e he _ => hT3 e he] at hx
    simp only [lk, hlq, true_and] at hx
    rw [f2]
    by_cases c1 : d2.s.dst = some t
    · rw [if_pos c1] at hx
      cases hx
      exact ⟨.pointer (some ⟨g, 0, none⟩), htq t c1, .op _ _ (by omega) _ (by rw [hm2])⟩
    · rw [if_neg c1] at hx
      have hx' : lk (fun j => listedB l j && j != d2.i) b (T1 ++ T) t = some x := by
        rw [← hx]
        refine lk_congr fun en hen _ => ?_
        have := hTq' en hen
        simp [this]
      rw [hlk2] at hx'
      obtain ⟨v, h1, h2⟩ := hr.env t x (by rw [if_neg c1]; exact hx')
      exact ⟨v, h1, by rw [e2] at hx2 ⊢; exact h2.mono hx2⟩
  · rw [f3, e3, marks_ext (by rw [e2] at hx2 ⊢; exact hx2) hr.dm]; exact hr.defers
  · rw [f2, e2]
    rw [f3, e3] at hb'
    exact Nat.lt_succ_of_lt (hr.dm b' hb')
theorem dpend_step {w0 : World} (hL : LaidD P own N ops ms fr L) {K0 : Wd} {n0 : Nat} {dq : DStep} {zq : List AV} (hfr : fr = some dq.i) (hdq : dq ∈ L) (hgq : dq.s.guard = none) (haq : dq.s.act = .op (.alloc zq)) (fuel : Nat)
    (hM : MainP P N ops ro ms fr L b Q w0 K0 n0 fuel) (hP : PendP P N ops ro L b Q dq zq w0 K0 n0 fuel) : PendP P N ops ro L b Q dq zq w0 K0 n0 (fuel + 1) := by
  have hlow : ∀ i o, ops[i]? = some o → ∀ e ∈ o.after, Region.binds .any e = true → e.on < i := fun i o ho => (before_spec hL.masked ho).1
  obtain ⟨hql, hnqq, hal, hfree, hlds⟩ := hL.free dq.i hfr
  have hwq : dq.s.act.isW = true := by rw [haq]; rfl
  intro l T d r pd st K a g ob hsz hcnt hC hdne hqr hwd hlq hi ha hwt hor htq hr h0
  have hmd : ∀ e ∈ d :: r, e ∈ L := fun e he => by rw [← hi.split]; exact List.mem_append_right _ he
  have hdL := hmd d List.mem_cons_self
  have hld : listedB l d.i = false := by
    have := hi.sub d List.mem_cons_self
    simp only [Bool.and_eq_false_iff, bne_eq_false_iff_eq] at this
    exact this.resolve_right hdne
  have hqb : ∀ j, before ms dq.i j = true → listedB l j = true := fun j hj => Closed.before hL.masked hC dq.i ops[dq.i] (Array.getElem?_eq_getElem hql) (hC dq.i _ (Array.getElem?_eq_getElem hql) hlq) _ hj
  have hlight : lightS ms dq.i d = true := by
    rcases ((hi.head hL).2 dq hqr).2 (dep_w hwd) with hb | ⟨_, d', hd', he', hl'⟩
    · rw [hqb _ hb] at hld; cases hld
    · rw [← hL.uniq hd' hdL he']; exact hl'
  obtain ⟨l1, l2, l3, l4⟩ := light_i hlight
  obtain ⟨hf1, hf2⟩ := hfree d hdL hlight
  have bfr : ∀ i o, ops[i]? = some o → (∀ e ∈ o.after, Region.binds .any e = true → listedB l e.on = true) → ∀ j, before ms i j = true → (listedB l j && j != dq.i) = true := by
    intro i o ho he j hj
    have h1 := Closed.before hL.masked hC i o ho he j hj
    rw [h1, Bool.true_and, bne_iff_ne]
    rintro rfl
    have h2 := Closed.before hL.masked hC i o ho he d.i (hf1 i (Array.getElem?_eq_some_iff.1 ho).1 hj)
    rw [hld] at h2; cases h2
  have hTq : ∀ en ∈ T, en.d.i ≠ dq.i := by
    intro en hen e
    obtain ⟨T1, T0, rfl⟩ := List.append_of_mem hen
    obtain ⟨_, ho⟩ := hi.obl T1 en T0 rfl (by simp [e])
    obtain ⟨h2, ⟨z, h3⟩, _⟩ := hal en.d (hi.mem hen) e
    exact obl_not h2 h3 ho
  refine ⟨fun hnil => ?_, fun i hmem => ?_⟩
  · obtain ⟨od, hod, _⟩ := hL.step d hdL
    have := ready_nil hsz hlow hnil d.i (Array.getElem?_eq_some_iff.1 hod).1
    rw [hld] at this; cases this
  obtain ⟨hlt, hf, hrdy, hset, hsz', hcnt', hC'⟩ := ready_facts hsz hcnt hC hmem
  have ho : ops[i]? = some ops[i] := Array.getElem?_eq_getElem hlt
  obtain ⟨di, hdiL, hdii⟩ := hL.all i hlt
  subst hdii
  have hdiL0 := hdiL
  rw [← hi.split] at hdiL
  rcases List.mem_append.1 hdiL with hdiL | hdiL
  · -- an old one
    obtain ⟨en, hen, rfl⟩ := List.mem_map.1 (List.mem_reverse.1 hdiL)
    have hne := hTq en hen
    have hnd : (listedB l en.d.i && en.d.i != dq.i) = false := by rw [hf]; rfl
    obtain ⟨T1, T0, rfl⟩ := List.append_of_mem hen
    have hpw := List.pairwise_append.1 (hi.pairs hL)
    have hnodep : en.d.dep dq = false := by
      cases hdep : en.d.dep dq with
      | false => rfl
      | true =>
        exfalso
        rcases (hpw.2.2 en.d (List.mem_reverse.2 (List.mem_map.2 ⟨en, hen, rfl⟩)) dq (List.mem_cons_of_mem _ hqr)).2 hdep with h1 | ⟨_, d', hd', he', hl'⟩
        · rw [hqb _ h1] at hf; cases hf
        · have := hL.uniq hd' hdiL0 he'
          subst this
          obtain ⟨_, hob⟩ := hi.obl T1 en T0 rfl hnd
          exact obl_light (light_i hl').1 hob
    refine exec_pend (ex := dq.s.dst) (S := fun j => listedB l j && j != dq.i) hL hi hr hnd (fun j hj => ?_) (fun f hf hS j hj => ?_) (S' := fun j => listedB (l.setIfInBounds en.d.i true) j && j != dq.i) (fun j => ?_) (fun t ht => ⟨?_, fun ht2 => ?_⟩) (fun o sz ag x h1 h2 => hlds en.d (hi.mem hen) o sz ag x h1 h2) ?_
    · rcases hj with hj | ⟨hj, _⟩
      · exact bfr _ _ ho (hrdy _ ho) j hj
      · rw [hfr] at hj; injection hj with hj; exact absurd hj.symm hne
    · simp only [Bool.and_eq_true, bne_iff_ne, ne_eq] at hS
      have hfm : f ∈ T1 ++ en :: T0 := List.mem_append_left _ hf
      obtain ⟨of, hof, _⟩ := hL.step f.d (hi.mem hfm)
      rcases hj with hj | ⟨hj, _⟩
      · exact bfr _ _ hof (hC _ _ hof hS.1) j hj
      · rw [hfr] at hj; injection hj with hj; exact absurd hj.symm hS.2
    · simp only [hset]
      by_cases e : j = en.d.i
      · subst e; simp [hne]
      · have : (j == en.d.i) = false := by simpa using e
        simp [this]
    · cases hl : en.d.s.looks t with
      | false => rfl
      | true => rw [dep_read ht hl] at hnodep; cases hnodep
    · rw [dep_write ht2 (.inr ht)] at hnodep; cases hnodep
    · intro K' a' hext hsame hZ htm hr'
      refine hP _ (T1 ++ en :: T0) d r pd st K' a' g ob hsz' hcnt' hC' hdne hqr hwd (by rw [hset, hlq]; rfl) ⟨hi.split, fun e he => ?_, hi.env, fun T1' en' T0' hT hS => ?_⟩ ha ?_ hor (fun t ht => by rw [htm t ht]; exact htq t ht) hr' (h0.trans hext)
      · have h1 := hi.sub e he
        simp only [Bool.and_eq_false_iff, bne_eq_false_iff_eq] at h1 ⊢
        refine h1.imp (fun h1 => ?_) id
        rw [hset, h1]
        have := (hpw.2.2 en.d (List.mem_reverse.2 (List.mem_map.2 ⟨en, hen, rfl⟩)) e he).1
        simp; exact fun h => this h.symm
      · refine hi.obl T1' en' T0' hT ?_
        simp only [Bool.and_eq_false_iff, bne_eq_false_iff_eq] at hS ⊢
        refine hS.imp (fun h1 => ?_) id
        rw [hset] at h1; simp only [Bool.or_eq_false_iff] at h1; exact h1.1
      · have hg := lt_of_row hwt.at_
        refine ⟨by rw [hsame g hg]; exact hwt.at_, hwt.above, fun off hz => ?_, fun b' o' hb => ?_⟩
        · rcases hZ _ _ hz with hz | hz
          · exact hwt.cold off hz
          · omega
        · rw [hext.m b' (hr.good.live b' o' hb).1]; exact hwt.apart b' o' hb
  rcases List.mem_cons.1 hdiL with rfl | hdiL
  rotate_left
  · -- it must wait for the next one
    exfalso
    rcases ((hi.head hL).2 di hdiL).2 (dep_w hwd) with hb | ⟨hb, _⟩
    · have := Closed.before hL.masked hC di.i _ ho (hrdy _ ho) d.i hb
      rw [hld] at this; cases this
    · rw [hfr] at hb; injection hb with hb; rw [← hb, hlq] at hf; cases hf
  · -- the next one
    have hbp : ∀ j, bef ms fr L di.i j → (listedB l j && j != dq.i) = true := by
      intro j hj
      rcases hj with hj | ⟨hj, _⟩
      · exact bfr _ _ ho (hrdy _ ho) j hj
      · rw [hfr] at hj; injection hj with hj; exact absurd hj.symm hdne
    have hS1 : ∀ j, (listedB (l.setIfInBounds di.i true) j && j != dq.i) = ((fun j => listedB l j && j != dq.i) j || j == di.i) := by
      intro j
      rw [hset]
      by_cases e : j = di.i
      · subst e; simp [hdne]
      · have : (j == di.i) = false := by simpa using e
        simp [this]
    obtain ⟨o5, ho5, h2, h3, h4, h5⟩ := hL.step di hdL
    have hgw := lt_of_row hwt.at_
    have htd : ∀ t, dq.s.dst = some t → di.s.looks t = false ∧ di.s.dst ≠ some t := fun t ht => hf2 dq hdq rfl t ht
    have hgd := hr.good
    have hself : (listedB (l.setIfInBounds di.i true) di.i && di.i != dq.i) = true := by rw [hS1]; simp
    have hlkS : ∀ (x : Option AV) (e : Env) (t : Nat), lk (fun j => listedB (l.setIfInBounds di.i true) j && j != dq.i) b (⟨di, x, e⟩ :: T) t = if di.s.dst = some t then x else lk (fun j => listedB l j && j != dq.i) b T t := by
      intro x e t
      simp only [lk, hself, true_and]
      split
      · rfl
      · refine lk_congr fun f hf _ => ?_
        rw [hS1]
        have := ((hi.head hL).1 f hf).1
        simp [this]
    have step : ∀ (K' : Wd) (v : Value) (x : AV) (h' : Heap) (nx' : Nat), Ext K st.nx K' nx' → Good w0 K' h' nx' → VR K' nx' x v → Waits w0 K' h' g ob → pendOk h' (pendKeep di.late pd) → AD P Q r (pendKeep di.late pd) { st with env := setE di.s.dst x st.env, heap := h', nx := nx' } →
        wpAnyIn { Fence.wide with round := ro } 0 P .any ops (Post w0 N K0 n0 Q) fuel (l.setIfInBounds di.i true) (a.put di.s.dst v) K'.w := by
      intro K' v x h' nx' hext hgood hv hw' hpo had
      have hi1 := hi.exec hL hwd hbp hS1 (some x) x rfl { st with env := setE di.s.dst x st.env, heap := h', nx := nx' } rfl hpo
      refine pend_cont hL hfr hdq hgq haq hM hP hsz' hcnt' hC' (fun en hen => ?_) (by rw [hset, hlq]; rfl) hi1 had hw' hor (fun t ht => ?_) ?_ (h0.trans hext)
      · rcases List.mem_cons.1 hen with rfl | hen
        · exact hdne
        · exact hTq en hen
      · rw [← htq t ht]
        cases hd : di.s.dst with
        | none => rfl
        | some u =>
          simp only [Act.put]
          rw [Array.getElem?_setIfInBounds, if_neg]
          intro e; subst e; exact (htd _ ht).2 hd
      · refine hr.put hext hgood h5 (x := some x) (fun y hy => by cases hy; exact hv) fun t => ?_
        by_cases c : dq.s.dst = some t
        · rw [if_pos c, if_neg (htd t c).2, if_pos c]
        · rw [if_neg c, if_neg c, hlkS]
    simp only [lightB, Bool.and_eq_true, Option.isNone_iff_eq_none] at l1
    obtain ⟨hgd1, l1⟩ := l1
    have ha0 := ha
    unfold AD at ha
    simp only [hgd1, guardOk] at ha
    have hE0 : EnvR { K with lo := K.w.heap.size } st.nx [] a.tmps := fun t x hx => by simp [eget] at hx
    have hwt1 := wanted_of hE0 h2 (show guardOk [] di.s.guard = some true by rw [hgd1]; rfl)
    have hWt : ∀ (K' : Wd) (h' : Heap) (nx' : Nat), Ext { K with lo := K.w.heap.size } st.nx K' nx' → Good K.w K' h' nx' → Waits w0 { K' with lo := K.lo } (h' ++ st.heap) g ob := by
      intro K' h' nx' hext hgood
      refine ⟨(hgood.below.block g hgw).trans hwt.at_, hwt.above, fun off hz => ?_, fun b' o' hb e => ?_⟩
      · rcases hext.Zn _ _ hz with hz | hz
        · exact hwt.cold off hz
        · have hz' : K.w.heap.size ≤ g := hz
          omega
      · rw [hget_append] at hb
        cases hq2 : hget h' b' with
        | none =>
          rw [hq2] at hb
          have hb : hget st.heap b' = some o' := by simpa using hb
          have e1 : K'.m b' = K.m b' := hext.m b' (hgd.live b' o' hb).1
          exact hwt.apart b' o' hb (e1 ▸ e)
        | some o1 =>
          have h6 := (hgood.live b' o1 hq2).2.1
          have e' : K'.m b' = g := e
          rw [e'] at h6
          exact absurd hgw (Nat.not_lt.2 h6)
    cases hact : di.s.act with
    | call f xs => rw [hact] at l1; cases l1
    | op ao =>
      rw [hact] at l1
      cases ao <;> simp only [Bool.false_eq_true] at l1
      rename_i zp
      simp only [hact, AOp.quiet, Bool.false_eq_true, if_false, opEv] at ha
      rw [hact] at h3
      obtain ⟨hsnd, hnd⟩ := op_sound (act_op h3.op)
      obtain ⟨K', rr, hrun, hext, hgood, hout⟩ := hsnd K.w _ [] st.nx [] a _ _ _ hgd.reroot hE0 (show opEv (.alloc zp) [] [] st.nx = some (.val (.op st.nx 0), [(st.nx, .cells zp)], st.nx + 1) from rfl)
      obtain ⟨u1, u2, u3⟩ := hgd.up hext hgood
      unfold wpOpIn
      simp only [ho5, hwt1, if_true, Oper.wpIn]
      refine ⟨fun f _ => trivial, ?_⟩
      rw [Oper.semAt_eq _ _ _ hnd, hrun]
      cases rr <;> simp only [outR] at hout <;> first | exact hout.elim | skip
      rename_i v
      simp only [Oper.uponIn, h4]
      exact step { K' with lo := K.lo } v _ ([(st.nx, .cells zp)] ++ st.heap) (st.nx + 1) u1 u2 (hout.lo _) (hWt K' _ _ hext hgood) (by exact ha.1) (by exact ha.2)
    | callZ fo args =>
      simp only [hact] at ha
      split at ha
      case h_2 => exact ha.elim
      rename_i f caps xs hf' hx'
      rw [hact] at h3
      have hread : ∀ t, di.s.looks t = true → lk (fun j => listedB l j && j != dq.i) b T t = eget st.env t := by
        intro t ht
        rw [hi.env t]
        exact lk_congr fun f hf hd => hbp f.d.i (((hi.head hL).1 f hf).2 (dep_write hd (.inl ht)))
      have hER : EnvR { K with lo := K.w.heap.size } st.nx (erestr (fun t => di.s.looks t) st.env) a.tmps := by
        intro t x hx
        rw [eget_erestr] at hx
        split at hx
        · rename_i ht
          obtain ⟨v, k1, k2⟩ := hr.env t x (by
            rw [if_neg (fun e => by have := (htd t e).1; rw [ht] at this; cases this), hread t ht]; exact hx)
          exact ⟨v, k1, k2.lo _⟩
        · cases hx
      have hagree : ∀ t, di.s.looks t = true → eget (erestr (fun t => di.s.looks t) st.env) t = eget st.env t := fun t ht => by rw [eget_erestr, if_pos ht]
      have hcong := opnds_congr hagree
      have hf2' : oev (erestr (fun t => di.s.looks t) st.env) fo = some (.fn (.func f) caps) := by rw [hcong fo (by rw [hact]; simp [AAct.opnds])]; exact hf'
      have hx2' : oevs (erestr (fun t => di.s.looks t) st.env) args = some xs := by rw [← hx']; exact oevs_congr fun o' ho' => hcong o' (by rw [hact]; simp [AAct.opnds, ho'])
      refine exec_call (K := { K with lo := K.w.heap.size }) (nx := st.nx) ho5 hwt1 h3.callZ hER hf2' hx2' ha.1 (ha.2 K.w _ _ hgd.reroot) fun e w' hR => ?_
      obtain ⟨K', h', nx', y, rfl, hext, hgood, her, hq⟩ := hR
      obtain ⟨u1, u2, u3⟩ := hgd.up hext hgood
      obtain ⟨hpo, hq⟩ := hq u3
      cases y with
      | ret x =>
        cases e <;> simp only [AER] at her <;> first | exact her.elim | skip
        rename_i v
        refine ⟨fun v' hv => ?_, fun ch hch => (by cases hch), by simp⟩
        cases hv
        rw [h4]
        exact step { K' with lo := K.lo } v x (h' ++ st.heap) nx' u1 u2 (her.lo _) (hWt K' h' nx' hext hgood) hpo hq
      | panic x =>
        cases e <;> simp only [AER] at her <;> first | exact her.elim | skip
        rename_i ch
        refine ⟨fun v' hv => (by cases hv), fun ch' hch => ?_, by simp⟩
        cases hch
        refine ⟨{ K' with lo := K.lo }, { env := [], heap := h' ++ st.heap, nx := nx', dm := st.dm }, .panic x, rfl, h0.trans u1, ⟨u2, fun t x hx => by simp [eget] at hx, hr.size, ?_, fun b hb => Nat.lt_of_lt_of_le (hr.dm b hb) u1.le⟩, ?_, hq⟩
        · rw [marks_ext u1 hr.dm]; exact hr.defers
        · obtain ⟨v, h1, h2⟩ := her; exact ⟨v, h1, h2.lo _⟩
theorem dmain {w0 : World} (hL : LaidD P own N ops ms fr L) {K0 : Wd} {n0 : Nat} : ∀ (fuel : Nat), MainP P N ops ro ms fr L b Q w0 K0 n0 fuel ∧ ∀ dq zq, fr = some dq.i → dq ∈ L → dq.s.guard = none → dq.s.act = .op (.alloc zq) → PendP P N ops ro L b Q dq zq w0 K0 n0 fuel := by
  have hlow : ∀ i o, ops[i]? = some o → ∀ e ∈ o.after, Region.binds .any e = true → e.on < i := fun i o ho => (before_spec hL.masked ho).1
  have done : ∀ (l : Array Bool) (T : List Ent) (suf : List DStep) (pd : Pend) (st : ASt) (K : Wd) (a : Act), (∀ i, i < ops.size → listedB l i = true) → DInv L b (listedB l) T suf pd st → AD P Q suf pd st →
      StRD w0 N K (listedB l) b T st.heap st.nx st.dm a → Ext K0 n0 K st.nx → Post w0 N K0 n0 Q .normal a K.w := by
    intro l T suf pd st K a hall hi ha hr h0
    cases suf with
    | cons d r =>
      have hdL : d ∈ L := by rw [← hi.split]; exact List.mem_append_right _ List.mem_cons_self
      obtain ⟨o, ho, _⟩ := hL.step d hdL
      have := hall d.i (Array.getElem?_eq_some_iff.1 ho).1
      rw [hi.sub d List.mem_cons_self] at this; cases this
    | nil =>
      refine ⟨K, st, .normal, rfl, h0, ⟨hr.good, fun t x hx => ?_, hr.size, hr.defers, hr.dm⟩, trivial, ha⟩
      refine hr.env t x ?_
      rw [← hx, hi.env t]
      refine lk_congr fun en hen _ => ?_
      obtain ⟨o, ho, _⟩ := hL.step en.d (hi.mem hen)
      exact hall en.d.i (Array.getElem?_eq_some_iff.1 ho).1
  intro fuel
  induction fuel with
  | zero =>
    refine ⟨fun l T suf pd st K a hsz hcnt hC hV hi ha hs hr h0 => ?_, fun dq zq hfr hdq hgq haq l T d r pd st K a g ob hsz hcnt hC hdne hqr hwd hlq hi ha hwt hor htq hr h0 => ?_⟩
    rotate_left
    · have hdL : d ∈ L := by rw [← hi.split]; exact List.mem_append_right _ List.mem_cons_self
      obtain ⟨od, hod, _⟩ := hL.step d hdL
      have h1 : d.i < l.size := by rw [hsz]; exact (Array.getElem?_eq_some_iff.1 hod).1
      have hz : l.toList.count false = 0 := by omega
      rw [List.count_eq_zero] at hz
      exfalso; apply hz
      have hld : listedB l d.i = false := by
        have := hi.sub d List.mem_cons_self
        simp only [Bool.and_eq_false_iff, bne_eq_false_iff_eq] at this
        exact this.resolve_right hdne
      unfold listedB at hld
      simp [Array.getD_eq_getD_getElem?, h1] at hld
      rw [← hld]; simp
    have hall : ∀ i, i < ops.size → listedB l i = true := by
      intro i hi
      have h1 : i < l.size := by omega
      have hz : l.toList.count false = 0 := by omega
      rw [List.count_eq_zero] at hz
      cases hl : listedB l i with
      | true => rfl
      | false =>
        exfalso; apply hz
        unfold listedB at hl
        simp [Array.getD_eq_getD_getElem?, h1] at hl
        rw [← hl]; simp
    refine ⟨?_, done l T suf pd st K a hall hi ha hr h0⟩
    cases hrd : Region.ready .any ops l with
    | nil => rfl
    | cons i r =>
      have hm : i ∈ Region.ready .any ops l := by rw [hrd]; exact List.mem_cons_self
      obtain ⟨h1, o, ho, _⟩ := mem_ready.1 hm
      have h2 := hall i (Array.getElem?_eq_some_iff.1 ho).1
      have h3 : i < l.size := by rw [hsz]; exact (Array.getElem?_eq_some_iff.1 ho).1
      unfold listedB at h2
      simp [Array.getD_eq_getD_getElem?, h3] at h1 h2
      rw [h1] at h2; cases h2
  | succ fuel ih =>
    refine ⟨fun l T suf pd st K a hsz hcnt hC hV hi ha hs hr h0 => ?_, fun dq zq hfr hdq hgq haq => dpend_step hL hfr hdq hgq haq fuel ih.1 (ih.2 dq zq hfr hdq hgq haq)⟩
    refine ⟨fun hnil => done l T suf pd st K a (ready_nil hsz hlow hnil) hi ha hr h0, fun i hmem => ?_⟩
    obtain ⟨hlt, hf, hrdy, hset, hsz', hcnt', hC'⟩ := ready_facts hsz hcnt hC hmem
    obtain ⟨o, ho⟩ : ∃ o, ops[i]? = some o := ⟨_, Array.getElem?_eq_getElem hlt⟩
    have hTl : ∀ en ∈ T, lightB en.d = true → listedB l en.d.i = true := by
      intro en hen e
      cases hl : listedB l en.d.i with
      | true => rfl
      | false =>
        obtain ⟨T1, T0, rfl⟩ := List.append_of_mem hen
        obtain ⟨_, hob⟩ := hi.obl T1 en T0 rfl hl
        exact (obl_light e hob).elim
    have hTq : ∀ en ∈ T, fr = some en.d.i → listedB l en.d.i = true := by
      intro en hen e
      obtain ⟨h2, ⟨z, h3⟩, _⟩ := (hL.free _ e).2.2.1 en.d (hi.mem hen) rfl
      exact hTl en hen (by simp [lightB, h2, h3])
    have hdn : ∀ f ∈ T, listedB l f.d.i = true → ∀ j, bef ms fr L f.d.i j → listedB l j = true := by
      intro f hf hS j hj
      obtain ⟨of, hof, _⟩ := hL.step f.d (hi.mem hf)
      rcases hj with hj | ⟨hq, d', hd', rfl, hl'⟩
      · exact Closed.before hL.masked hC _ of hof (hC _ _ hof hS) j hj
      · exact hV _ hq hS d' hd' hl'
    obtain ⟨d, hdL, hdi⟩ := hL.all i hlt
    subst hdi
    have hdL0 := hdL
    rw [← hi.split] at hdL
    rcases List.mem_append.1 hdL with hdL | hdL
    · obtain ⟨en, hen, rfl⟩ := List.mem_map.1 (List.mem_reverse.1 hdL)
      have hnq : fr ≠ some en.d.i := fun e => by
        have := hTq en hen e
        rw [hf] at this; cases this
      obtain ⟨T1, T0, rfl⟩ := List.append_of_mem hen
      refine exec_old hL hi hr hf (fun j hj => ?_) (fun f hfm => hdn f (List.mem_append_left _ hfm)) hset ?_
      · rcases hj with hj | ⟨hq, _⟩
        · exact Closed.before hL.masked hC _ o ho (hrdy o ho) j hj
        · exact absurd hq hnq
      intro K' a' hext hr'
      refine ih.1 _ (T1 ++ en :: T0) suf pd st K' a' hsz' hcnt' hC' (fun q hq hlq d' hd' hl' => ?_) ⟨hi.split, fun d hd => ?_, hi.env, fun T1' en' T0' hT hS => ?_⟩ ha hs hr' (h0.trans hext)
      · rw [hset] at hlq ⊢
        simp only [Bool.or_eq_true, beq_iff_eq] at hlq ⊢
        rcases hlq with hlq | hlq
        · exact .inl (hV q hq hlq d' hd' hl')
        · exact absurd (hlq ▸ hq) hnq
      · rw [hset, hi.sub d hd]
        have hp := List.pairwise_append.1 (hi.pairs hL)
        have := (hp.2.2 en.d (List.mem_reverse.2 (List.mem_map.2 ⟨en, hen, rfl⟩)) d hd).1
        simp; exact fun h => this h.symm
      · refine hi.obl T1' en' T0' hT ?_
        rw [hset] at hS; simp only [Bool.or_eq_false_iff] at hS; exact hS.1
    · rcases hs with rfl | ⟨d1, r, rfl, hg, hw⟩
      · cases hdL
      · rcases List.mem_cons.1 hdL with rfl | hdL
        · -- the next one
          have hqp : fr = some d.i → ∀ d' ∈ L, lightS ms d.i d' = true → listedB l d'.i = true := by
            intro hfr d' hd' hl'
            obtain ⟨l1, l2, l3, l4⟩ := light_i hl'
            have h1 := hd'
            rw [← hi.split] at h1
            rcases List.mem_append.1 h1 with h1 | h1
            · obtain ⟨en, hen, rfl⟩ := List.mem_map.1 (List.mem_reverse.1 h1)
              exact hTl en hen l1
            · rcases List.mem_cons.1 h1 with h1 | h1
              · exact absurd (by rw [h1]) l4
              · exfalso
                rcases ((hi.head hL).2 d' h1).2 (dep_w hw) with hb | ⟨hb, _⟩
                · rw [l3] at hb; cases hb
                · rw [hfr] at hb; injection hb with hb; exact l4 hb.symm
          refine exec_new hL hi ha hg hw hr (fun j hj => ?_) hset h0 ?_
          · rcases hj with hj | ⟨hq, d', hd', rfl, hl'⟩
            · exact Closed.before hL.masked hC _ o ho (hrdy o ho) j hj
            · exact hqp hq d' hd' hl'
          intro K' a' en pd' st' hext _ hi' ha' hr'
          obtain ⟨T1, suf', pd2, st2, h3, h4, h5, h6, h7, h8, h9⟩ := advance r _ pd' st' hi' ha'
          refine ih.1 _ _ suf' pd2 st2 K' a' hsz' hcnt' hC' (fun q hq hlq d' hd' hl' => ?_) h3 h4 h5 ?_ (by rw [h7]; exact h0.trans hext)
          · rw [hset] at hlq ⊢
            simp only [Bool.or_eq_true, beq_iff_eq] at hlq ⊢
            rcases hlq with hlq | hlq
            · exact .inl (hV q hq hlq d' hd' hl')
            · subst hlq; exact .inl (hqp hq d' hd' hl')
          refine ⟨by rw [h6, h7]; exact hr'.good, fun t x hx => ?_, hr'.size, by rw [h8]; exact hr'.defers, by rw [h7, h8]; exact hr'.dm⟩
          rw [lk_skip fun e he _ => h9 e he] at hx
          rw [h7]; exact hr'.env t x hx
        · -- it must wait for the one before it, or it is the new block
          rcases ((hi.head hL).2 d hdL).2 (dep_w hw) with hb | ⟨hfr, _, _, _, _⟩
          · exfalso
            have := Closed.before hL.masked hC d.i o ho (hrdy o ho) d1.i hb
            rw [hi.sub d1 List.mem_cons_self] at this; cases this
          · obtain ⟨hql, hnqq, hal, hfree, hlds⟩ := hL.free d.i hfr
            obtain ⟨hgq, ⟨zq, haq⟩, hopq⟩ := hal d hdL0 rfl
            have hne := ((hi.head hL).2 d hdL).1
            refine exec_alloc (K := K) hL hdL0 hgq haq hopq fun ob hor => ?_
            have hSe : (fun j => listedB (l.setIfInBounds d.i true) j && j != d.i) = listedB l := by
              funext j
              rw [hset]
              by_cases e : j = d.i
              · subst e; simp [hf]
              · have : (j == d.i) = false := by simpa using e
                simp [this, e]
            have hgd := hr.good
            refine ih.2 d zq hfr hdL0 hgq haq _ T d1 r pd st (K.allocG ob) _ K.w.heap.size ob hsz' hcnt' hC' hne hdL hw (by rw [hset]; simp) (by rw [hSe]; exact hi) ha
              ⟨by simp only [Wd.allocG]; exact alloc_new _ _, hgd.below.size, fun off hz => absurd (hgd.zin _ _ hz) (by omega), fun b' o' hb' e => ?_⟩ hor (fun t ht => ?_) ?_ (h0.trans (Ext.allocG hgd ob))
            · obtain ⟨h1, h2, h3, ob', h4, h5⟩ := hgd.live b' o' hb'
              have := lt_of_row h4
              have e' : K.m b' = K.w.heap.size := e
              omega
            · obtain ⟨o2, ho2, _, _, _, h5⟩ := hL.step d hdL0
              rw [ht]; simp only [Act.put]
              rw [Array.getElem?_setIfInBounds, if_pos rfl, if_pos (by rw [hr.size]; exact h5 t ht)]
            · rw [hSe]
              obtain ⟨o2, ho2, _, _, _, h5⟩ := hL.step d hdL0
              refine hr.put (Ext.allocG hgd ob) (hgd.allocG ob) h5 (x := none) (fun y hy => by cases hy) fun t => rfl
end
theorem inv_regionR {P : Program} {own : Nat → Nat → Bool} {N : Nat} {c : Code} {x : ACode} (hx : ∀ l, x ≠ .region l) (hs : (∃ L, x = .dregion L) ∨ ∃ t, x = .tregion t) (h : compile P own N c = some x) : ∃ id os, c = .region id os true ∧ compileR P (own id) N os = some x := by
  unfold compile at h
  split at h
  case h_3 => rename_i id os; exact ⟨id, os, rfl, h⟩
  all_goals
    exfalso
    rcases hs with ⟨L, rfl⟩ | ⟨t, rfl⟩ <;> first | (cases h; done) | (split at h <;> cases h; done) | (simp at h; done)
theorem inv_dregion {P : Program} {own : Nat → Nat → Bool} {N : Nat} {c : Code} {L : List DStep} (h : compile P own N c = some (.dregion L)) : ∃ id os, c = .region id os true ∧ compileD P (own id) N os = some L := by
  obtain ⟨id, os, rfl, h1⟩ := inv_regionR (fun l => by simp) (.inl ⟨L, rfl⟩) h
  rcases compileR_or h1 with ⟨L', e, h2⟩ | ⟨t, e, _⟩
  · cases e; exact ⟨id, os, rfl, h2⟩
  · cases e
theorem inv_tregion {P : Program} {own : Nat → Nat → Bool} {N : Nat} {c : Code} {t : DT} (h : compile P own N c = some (.tregion t)) : ∃ id os, c = .region id os true ∧ compileT P (own id) N os = some t := by
  obtain ⟨id, os, rfl, h1⟩ := inv_regionR (fun l => by simp) (.inr ⟨t, rfl⟩) h
  rcases compileR_or h1 with ⟨L', e, _⟩ | ⟨t', e, h2⟩
  · cases e
  · cases e; exact ⟨id, os, rfl, h2⟩
theorem AW_dregion {P : Program} {own : Nat → Nat → Bool} {ro : Option Nat} {N : Nat} {Q : AX → ASt → Prop} {st : ASt} {L : List DStep} (hm : P.follows .mixedOrders = true) (h : AD P Q L [] st) : AW P own ro N (.dregion L) Q st := by
  intro c hc w0 K a hs
  obtain ⟨id, os, rfl, h1⟩ := inv_dregion hc
  obtain ⟨ms, fr, hL⟩ := compileD_spec h1
  refine wpIn_region_any hm ?_
  have hnone : ∀ j, listedB (Array.replicate os.size false) j = false := by
    intro j; unfold listedB
    simp only [Array.getD_eq_getD_getElem?, Array.getElem?_replicate]
    split <;> rfl
  have hi : DInv L (eget st.env) (listedB (Array.replicate os.size false)) [] L [] st := ⟨by simp, fun d _ => hnone _, fun t => rfl, fun T1 en T0 hT => by simp at hT⟩
  obtain ⟨T1, suf, pd, st', h3, h4, h5, h6, h7, h8, h9⟩ := advance L [] [] st hi h
  have hext : Ext K st.nx { K with w := { K.w with drawn := K.w.drawn + 1 } } st.nx := Ext.of_heap rfl
  have hgood : Good w0 { K with w := { K.w with drawn := K.w.drawn + 1 } } st.heap st.nx := hs.good.drew _
  refine (dmain hL (K0 := K) (n0 := st.nx) os.size).1 _ _ suf pd st' { K with w := { K.w with drawn := K.w.drawn + 1 } } a (by simp) ?_ ?_ (fun _ _ h => by rw [hnone] at h; cases h) h3 h4 h5 ?_ (by rw [h7]; exact hext)
  · simp [List.count_replicate]
  · intro i o ho hS; rw [hnone] at hS; cases hS
  · refine ⟨by rw [h6, h7]; exact hgood, fun t x hx => ?_, hs.size, by rw [h8, hs.defers]; rfl, by rw [h7, h8]; exact hs.dm⟩
    rw [lk_skip fun e he _ => h9 e he] at hx
    obtain ⟨v, h10, h11⟩ := hs.env t x hx
    exact ⟨v, h10, by rw [h7]; exact h11.mono hext⟩
end Go.Ab
namespace Go.Ab
open Go.RowKit
set_option linter.unusedVariables false
set_option linter.unusedSimpArgs false
def ADk (P : Program) (Q : AX → ASt → Prop) (d : DStep) (pd : Pend) (st : ASt) (KK : Pend → ASt → Prop) : Prop := match guardOk st.env d.s.guard with
    | none => False
    | some false => KK pd { st with env := dropE d.s.dst st.env }
    | some true => match d.s.act with
      | .op ao => if ao.quiet = true then (match opEv ao st.env st.heap st.nx with
          | some (.val x, _, _) => KK pd { st with env := setE d.s.dst x st.env }
          | _ => False)
        else match ao with
          | .load sz ag o => (match oev st.env o with
            | some p => (match reload st.heap sz ag p with
              | some x => KK (if p.isFp = true then pd else (d.i, sz, ag, p, x) :: pd) { st with env := setE d.s.dst x st.env }
              | none => False)
            | none => False)
          | ao => (match opEv ao st.env st.heap st.nx with
            | some (.val x, h', n') => pendOk h' (pendKeep d.late pd) ∧ KK (pendKeep d.late pd) { st with env := setE d.s.dst x st.env, heap := h', nx := n' }
            | some (.skip, h', n') => pendOk h' (pendKeep d.late pd) ∧ KK (pendKeep d.late pd) { st with env := dropE d.s.dst st.env, heap := h', nx := n' }
            | none => False)
      | .call f args => match oev st.env f, oevs st.env args with
        | some (.fn (.func fid) caps), some xs => AC P fid (xs ++ caps) st.heap st.nx fun y h' n' => pendOk h' (pendKeep d.late pd) ∧ match y with
          | .ret x => KK (pendKeep d.late pd) { st with env := setE d.s.dst x st.env, heap := h', nx := n' }
          | .panic x => Q (.panic x) { env := [], heap := h', nx := n', dm := st.dm }
        | some (.bm (.func fid) fs caps), some xs => AC P fid (fs ++ (xs ++ caps)) st.heap st.nx fun y h' n' => pendOk h' (pendKeep d.late pd) ∧ match y with
          | .ret x => KK (pendKeep d.late pd) { st with env := setE d.s.dst x st.env, heap := h', nx := n' }
          | .panic x => Q (.panic x) { env := [], heap := h', nx := n', dm := st.dm }
        | _, _ => False
      | .callZ f args => match oev st.env f, oevs st.env args with
        | some (.fn (.func fid) caps), some xs => AC P fid (xs ++ caps) [] st.nx fun y h' n' => (∀ c o, hget st.heap c = some o → hget h' c = none) → pendOk (h' ++ st.heap) (pendKeep d.late pd) ∧ match y with
          | .ret x => KK (pendKeep d.late pd) { st with env := setE d.s.dst x st.env, heap := h' ++ st.heap, nx := n' }
          | .panic x => Q (.panic x) { env := [], heap := h' ++ st.heap, nx := n', dm := st.dm }
        | _, _ => False
def ADT (P : Program) (Q : AX → ASt → Prop) : DT → Pend → ASt → Prop
  | .nil, _, st => Q .normal st
  | .step d r, pd, st => ADk P Q d pd st (ADT P Q r)
  | .alt a b, pd, st => ADT P Q a pd st ∧ ADT P Q b pd st
def DT.br : DT → List (DStep × DT)
  | .nil => []
  | .step d r => [(d, r)]
  | .alt a b => a.br ++ b.br
theorem DT.paths_ne : ∀ t : DT, ∃ p, p ∈ t.paths
  | .nil => ⟨[], by simp [DT.paths]⟩
  | .step d r => let ⟨p, h⟩ := r.paths_ne; ⟨d :: p, by simp [DT.paths, h]⟩
  | .alt a b => let ⟨p, h⟩ := a.paths_ne; ⟨p, by simp [DT.paths, h]⟩
theorem DT.heads_br : ∀ (t : DT) (d : DStep), d ∈ t.heads → ∃ r, (d, r) ∈ t.br
  | .nil, d, h => by simp [DT.heads] at h
  | .step d' r, d, h => by simp [DT.heads] at h; subst h; exact ⟨r, by simp [DT.br]⟩
  | .alt a b, d, h => by
    simp only [DT.heads, List.mem_append] at h
    rcases h with h | h
    · obtain ⟨r, hr⟩ := a.heads_br d h; exact ⟨r, by simp [DT.br, hr]⟩
    · obtain ⟨r, hr⟩ := b.heads_br d h; exact ⟨r, by simp [DT.br, hr]⟩
theorem DT.br_paths : ∀ (t : DT) (d : DStep) (r : DT), (d, r) ∈ t.br → ∀ p ∈ r.paths, d :: p ∈ t.paths
  | .nil, d, r, h, p, hp => by simp [DT.br] at h
  | .step d' r', d, r, h, p, hp => by simp [DT.br] at h; obtain ⟨rfl, rfl⟩ := h; simp [DT.paths, hp]
  | .alt a b, d, r, h, p, hp => by
    simp only [DT.br, List.mem_append] at h
    simp only [DT.paths, List.mem_append]
    rcases h with h | h
    · exact .inl (a.br_paths d r h p hp)
    · exact .inr (b.br_paths d r h p hp)
theorem DT.br_ok {ms : List Nat} : ∀ (t : DT) (top : Bool) (d : DStep) (r : DT), (d, r) ∈ t.br → t.ok ms top = true → r.ok ms true = true
  | .nil, top, d, r, h, ho => by simp [DT.br] at h
  | .step d' r', top, d, r, h, ho => by
    simp [DT.br] at h; obtain ⟨rfl, rfl⟩ := h
    simp only [DT.ok, Bool.and_eq_true] at ho; exact ho.2
  | .alt a b, top, d, r, h, ho => by
    simp only [DT.br, List.mem_append] at h
    simp only [DT.ok, Bool.and_eq_true] at ho
    rcases h with h | h
    · exact a.br_ok false d r h ho.1.2
    · exact b.br_ok false d r h ho.2
theorem DT.br_A : ∀ (t : DT) (d : DStep) (r : DT), (d, r) ∈ t.br → t.okA = true → d.s.act.isW = true ∧ d.s.guard = none
  | .nil, d, r, h, ho => by simp [DT.br] at h
  | .step d' r', d, r, h, ho => by
    simp [DT.br] at h; obtain ⟨rfl, rfl⟩ := h
    simp only [DT.okA, Bool.and_eq_true, Option.isNone_iff_eq_none] at ho; exact ho
  | .alt a b, d, r, h, ho => by
    simp only [DT.br, List.mem_append] at h
    simp only [DT.okA, Bool.and_eq_true] at ho
    rcases h with h | h
    · exact a.br_A d r h ho.1
    · exact b.br_A d r h ho.2
theorem DT.okA_br : ∀ (t : DT), t.okA = true → ∃ d r, (d, r) ∈ t.br
  | .nil, h => by simp [DT.okA] at h
  | .step d r, _ => ⟨d, r, by simp [DT.br]⟩
  | .alt a b, h => by
    simp only [DT.okA, Bool.and_eq_true] at h
    obtain ⟨d, r, hr⟩ := a.okA_br h.1
    exact ⟨d, r, by simp [DT.br, hr]⟩
theorem DT.br_AT {P : Program} {Q : AX → ASt → Prop} : ∀ (t : DT) (d : DStep) (r : DT), (d, r) ∈ t.br → ∀ pd st, ADT P Q t pd st → ADk P Q d pd st (ADT P Q r)
  | .nil, d, r, h, pd, st, ha => by simp [DT.br] at h
  | .step d' r', d, r, h, pd, st, ha => by simp [DT.br] at h; obtain ⟨rfl, rfl⟩ := h; exact ha
  | .alt a b, d, r, h, pd, st, ha => by
    simp only [DT.br, List.mem_append] at h
    rcases h with h | h
    · exact a.br_AT d r h pd st ha.1
    · exact b.br_AT d r h pd st ha.2
theorem DT.cover_mem {ms : List Nat} {t : DT} (h : t.cover ms = true) {p : List DStep} (hp : p ∈ t.paths) {e : DStep} (he : e ∈ p) : ∃ d r, (d, r) ∈ t.br ∧ (d.i = e.i ∨ before ms e.i d.i = true) := by
  unfold DT.cover at h
  have h1 := List.all_eq_true.1 (List.all_eq_true.1 h p hp) e he
  obtain ⟨d, hd, h2⟩ := List.any_eq_true.1 h1
  obtain ⟨r, hr⟩ := t.heads_br d hd
  simp only [Bool.or_eq_true, beq_iff_eq] at h2
  exact ⟨d, r, hr, h2⟩
section
variable {P : Program} {own : Nat → Bool} {N : Nat} {ops : Array Oper} {ms : List Nat} {fr : Option Nat} {L : List DStep} {b : Nat → Option AV} {S : Nat → Bool} {Q : AX → ASt → Prop} {ro : Option Nat}
theorem exec_oldX {w0 : World} {K : Wd} {T1 T0 : List Ent} {en : Ent} {suf : List DStep} {pd : Pend} {st : ASt} {a : Act} (hst : ∃ o, ops[en.d.i]? = some o ∧ compileGuard ops o = some en.d.s.guard ∧ ActR (compileAct P (own en.d.i) o) en.d.s.act ∧ o.dst = en.d.s.dst ∧ ∀ t, en.d.s.dst = some t → t < N) (hi : DInv L b S (T1 ++ en :: T0) suf pd st)
    (hr : StRD w0 N K S b (T1 ++ en :: T0) st.heap st.nx st.dm a) (hn : S en.d.i = false) (hne0 : ∀ f ∈ T0, f.d.i ≠ en.d.i) (hne1 : ∀ f ∈ T1, en.d.i ≠ f.d.i) (hP0 : ∀ f ∈ T0, f.d.dep en.d = true → S f.d.i = true) (hP1 : ∀ f ∈ T1, en.d.dep f.d = true → S f.d.i = false) {S' : Nat → Bool} (hS' : ∀ j, S' j = (S j || j == en.d.i))
    {Kont : Act → World → Prop} {Qx : Exit → Act → World → Prop} (hk : ∀ K' a', Ext K st.nx K' st.nx → StRD w0 N K' S' b (T1 ++ en :: T0) st.heap st.nx st.dm a' → Kont a' K'.w) :
    wpOpIn { Fence.wide with round := ro } 0 P ops Qx en.d.i Kont a K.w := by
  obtain ⟨o, ho, h2, h3, h4, h5⟩ := hst
  obtain ⟨henv, bb, hg, hob⟩ := hi.obl T1 en T0 rfl hn
  have hread : ∀ t, en.d.s.looks t = true → lk S b (T1 ++ en :: T0) t = eget en.env t := by
    intro t ht
    rw [henv t]
    rw [lk_skip (T1 := T1) fun f hf hd => hP1 f hf ((dep_read hd ht))]
    simp only [lk, hn, Bool.false_eq_true, false_and, if_false]
    refine lk_congr fun f hf hd => ?_
    exact hP0 f hf (dep_write hd (.inl ht))
  obtain ⟨env', henv'⟩ : ∃ env' : Env, env' = erestr (fun t => en.d.s.looks t) en.env := ⟨_, rfl⟩
  have hagree : ∀ t, en.d.s.looks t = true → eget env' t = eget en.env t := fun t ht => by rw [henv', eget_erestr, if_pos ht]
  have hER : EnvR K st.nx env' a.tmps := by
    intro t x hx
    rw [henv', eget_erestr] at hx
    split at hx
    · rename_i ht
      exact hr.env t x (by rw [hread t ht]; exact hx)
    · cases hx
  have hg' : guardOk env' en.d.s.guard = some bb := by rw [guardOk_congr hagree]; exact hg
  have hw := wanted_of hER h2 hg'
  have hlk : ∀ t, lk S' b (T1 ++ en :: T0) t = if en.d.s.dst = some t then en.x else lk S b (T1 ++ en :: T0) t := lk_done hS'
    (fun f hf => ⟨hne1 f hf, fun t h6 h7 => hP1 f hf ((dep_write h7 (.inr h6)))⟩) (fun f hf => hne0 f hf) hn
  unfold wpOpIn
  simp only [ho, hw]
  rcases hob with ⟨rfl, hx⟩ | ⟨rfl, ao, y, hact, hx, hev, _⟩
  · simp only [Bool.false_eq_true, if_false]
    refine ⟨fun f _ => trivial, hk K _ (Ext.refl _ _) ?_⟩
    rw [h4]
    exact hr.put (Ext.refl _ _) hr.good h5 (x := some (.tup [])) (fun y hy => by cases hy; exact VR_undef _ _) (by rw [← hx]; exact hlk)
  · simp only [if_true, Oper.wpIn]
    refine ⟨fun f _ => trivial, ?_⟩
    rw [hact] at h3
    obtain ⟨hsnd, hnd⟩ := op_sound (act_op h3.op)
    have hev' : opEv ao env' st.heap st.nx = some (.val y, st.heap, st.nx) := by
      rw [← hev]
      exact opEv_congr fun o' ho' => opnds_congr hagree o' (by rw [hact]; exact ho')
    obtain ⟨K', rr, hrun, hext, hgood, hout⟩ := hsnd w0 K st.heap st.nx env' a _ _ _ hr.good hER hev'
    rw [Oper.semAt_eq _ _ _ hnd, hrun]
    cases rr <;> simp only [outR] at hout <;> first | exact hout.elim | skip
    rename_i v
    simp only [Oper.uponIn, h4]
    exact hk K' _ hext (hr.put hext hgood h5 (x := some y) (fun z hz => by cases hz; exact hout) (by rw [← hx]; exact hlk))
theorem DInv.execX {T : List Ent} {d : DStep} {r : List DStep} {pd : Pend} {st : ASt} (hi : DInv L b S T (d :: r) pd st) (hw : d.s.act.isW = true) (hne : ∀ e ∈ r, d.i ≠ e.i) (hP : ∀ f ∈ T, f.d.dep d = true → S f.d.i = true)
    {S' : Nat → Bool} (hS' : ∀ j, S' j = (S j || j == d.i)) (x : Option AV) (y : AV) (hxy : x = some y) (st' : ASt) (he : st'.env = setE d.s.dst y st.env) (hpo : pendOk st'.heap (pendKeep d.late pd)) :
    DInv L b S' (⟨d, x, st.env⟩ :: T) r (pendKeep d.late pd) st' := by
  refine ⟨by rw [← hi.split]; simp, fun e he => ?_, fun t => ?_, fun T1 en T0 hT hS => ?_⟩
  · rw [hS', hi.sub e (List.mem_cons_of_mem _ he)]
    have := hne e he
    simp; exact fun h => this h.symm
  · simp only [lk, true_and]
    rw [← hi.env t, he]
    cases hd : d.s.dst with
    | none => simp [setE]
    | some u => simp [setE, eget_cons, hxy]
  · cases T1 with
    | nil =>
      simp only [List.nil_append, List.cons.injEq] at hT
      obtain ⟨rfl, rfl⟩ := hT
      simp [hS'] at hS
    | cons e T1 =>
      simp only [List.cons_append, List.cons.injEq] at hT
      obtain ⟨rfl, rfl⟩ := hT
      have hS2 : S en.d.i = false := by
        rw [hS'] at hS; simp only [Bool.or_eq_false_iff] at hS; exact hS.1
      obtain ⟨h7, h8⟩ := hi.obl T1 en T0 rfl hS2
      refine ⟨h7, h8.turn ?_ hpo⟩
      refine dep_late ?_ hw
      cases hdep : en.d.dep d with
      | false => rfl
      | true =>
        have := hP en (List.mem_append_right _ List.mem_cons_self) hdep
        rw [hS2] at this; cases this
theorem exec_newK {w0 : World} {K : Wd} {T : List Ent} {d : DStep} {r : List DStep} {pd : Pend} {st : ASt} {a : Act} (hst : ∃ o, ops[d.i]? = some o ∧ compileGuard ops o = some d.s.guard ∧ ActR (compileAct P (own d.i) o) d.s.act ∧ o.dst = d.s.dst ∧ ∀ t, d.s.dst = some t → t < N) (hi : DInv L b S T (d :: r) pd st) {KK : Pend → ASt → Prop} (ha : ADk P Q d pd st KK)
    (hg : guardOk st.env d.s.guard = some true) (hw : d.s.act.isW = true)
    (hr : StRD w0 N K S b T st.heap st.nx st.dm a) (hne0 : ∀ f ∈ T, f.d.i ≠ d.i) (hne : ∀ e ∈ r, d.i ≠ e.i) (hP : ∀ f ∈ T, f.d.dep d = true → S f.d.i = true) {S' : Nat → Bool} (hS' : ∀ j, S' j = (S j || j == d.i))
    {Kont : Act → World → Prop} {K0 : Wd} {n0 : Nat} (h0 : Ext K0 n0 K st.nx)
    (hk : ∀ K' a' en pd' st', Ext K st.nx K' st'.nx → en.d = d → DInv L b S' (en :: T) r pd' st' → KK pd' st' → StRD w0 N K' S' b (en :: T) st'.heap st'.nx st'.dm a' → Kont a' K'.w) :
    wpOpIn { Fence.wide with round := ro } 0 P ops (Post w0 N K0 n0 Q) d.i Kont a K.w := by
  obtain ⟨o, ho, h2, h3, h4, h5⟩ := hst
  have hSd := hi.sub d List.mem_cons_self
  have hread : ∀ t, d.s.looks t = true → lk S b T t = eget st.env t := by
    intro t ht
    rw [hi.env t]
    exact lk_congr fun f hf hd => hP f hf (dep_write hd (.inl ht))
  obtain ⟨env', henv'⟩ : ∃ env' : Env, env' = erestr (fun t => d.s.looks t) st.env := ⟨_, rfl⟩
  have hagree : ∀ t, d.s.looks t = true → eget env' t = eget st.env t := fun t ht => by rw [henv', eget_erestr, if_pos ht]
  have hER : EnvR K st.nx env' a.tmps := by
    intro t x hx
    rw [henv', eget_erestr] at hx
    split at hx
    · rename_i ht
      exact hr.env t x (by rw [hread t ht]; exact hx)
    · cases hx
  have hg' : guardOk env' d.s.guard = some true := by rw [guardOk_congr hagree]; exact hg
  have hwt := wanted_of hER h2 hg'
  have hlk : ∀ (x : Option AV) (e : Env) (t : Nat), lk S' b (⟨d, x, e⟩ :: T) t = if d.s.dst = some t then x else lk S b T t := by
    intro x e t
    have h6 : S' d.i = true := by simp [hS']
    simp only [lk, h6, true_and]
    split
    · rfl
    · exact lk_congr fun f hf _ => by rw [hS']; have := hne0 f hf; simp [this]
  have hinv : ∀ (x : Option AV) (y : AV) (hxy : x = some y) (st' : ASt), st'.env = setE d.s.dst y st.env → pendOk st'.heap (pendKeep d.late pd) →
      DInv L b S' (⟨d, x, st.env⟩ :: T) r (pendKeep d.late pd) st' := fun x y hxy st' he hpo => hi.execX hw hne hP hS' x y hxy st' he hpo
  have fin : ∀ {fo : Operand} {args : List Operand} {f : FuncId} {caps xs : List AV}, compileAct P (own d.i) o = some (.call fo args) → oev st.env fo = some (.fn (.func f) caps) → oevs st.env args = some xs → (∀ o' ∈ fo :: args, o' ∈ d.s.act.opnds) →
      (AC P f (xs ++ caps) st.heap st.nx fun y h' n' => pendOk h' (pendKeep d.late pd) ∧ match y with
        | .ret x => KK (pendKeep d.late pd) { st with env := setE d.s.dst x st.env, heap := h', nx := n' }
        | .panic x => Q (.panic x) { env := [], heap := h', nx := n', dm := st.dm }) → wpOpIn { Fence.wide with round := ro } 0 P ops (Post w0 N K0 n0 Q) d.i Kont a K.w := by
    intro fo args f caps xs h3 hf hx hmem ha
    have hcong := opnds_congr hagree
    have hf' : oev env' fo = some (.fn (.func f) caps) := by rw [hcong fo (hmem fo (by simp))]; exact hf
    have hx' : oevs env' args = some xs := by rw [← hx]; exact oevs_congr fun o' ho' => hcong o' (hmem o' (by simp [ho']))
    refine exec_call (K := K) (nx := st.nx) ho hwt h3 hER hf' hx' ha.1 (ha.2 w0 K _ hr.good) fun e w' hR => ?_
    obtain ⟨K', h', nx', y, rfl, hext, hgood, her, hpo, hq⟩ := hR
    cases y with
    | ret x =>
      cases e <;> simp only [AER] at her <;> first | exact her.elim | skip
      rename_i v
      refine ⟨fun v' hv => ?_, fun ch hch => (by cases hch), by simp⟩
      cases hv
      rw [h4]
      exact hk K' _ ⟨d, some x, st.env⟩ _ _ hext rfl (hinv (some x) x rfl { st with env := setE d.s.dst x st.env, heap := h', nx := nx' } rfl hpo) hq (hr.put hext hgood h5 (x := some x) (fun z hz => by cases hz; exact her) (hlk _ _))
    | panic x =>
      cases e <;> simp only [AER] at her <;> first | exact her.elim | skip
      rename_i ch
      refine ⟨fun v' hv => (by cases hv), fun ch' hch => ?_, by simp⟩
      cases hch
      refine ⟨K', { env := [], heap := h', nx := nx', dm := st.dm }, .panic x, rfl, h0.trans hext, ⟨hgood, fun t x hx => by simp [eget] at hx, hr.size, ?_, fun b hb => Nat.lt_of_lt_of_le (hr.dm b hb) hext.le⟩, her, hq⟩
      rw [marks_ext hext hr.dm]; exact hr.defers
  have finB : ∀ {fo : Operand} {args : List Operand} {f : FuncId} {fs caps xs : List AV}, compileAct P (own d.i) o = some (.call fo args) → oev st.env fo = some (.bm (.func f) fs caps) → oevs st.env args = some xs → (∀ o' ∈ fo :: args, o' ∈ d.s.act.opnds) →
      (AC P f (fs ++ (xs ++ caps)) st.heap st.nx fun y h' n' => pendOk h' (pendKeep d.late pd) ∧ match y with
        | .ret x => KK (pendKeep d.late pd) { st with env := setE d.s.dst x st.env, heap := h', nx := n' }
        | .panic x => Q (.panic x) { env := [], heap := h', nx := n', dm := st.dm }) → wpOpIn { Fence.wide with round := ro } 0 P ops (Post w0 N K0 n0 Q) d.i Kont a K.w := by
    intro fo args f fs caps xs h3 hf hx hmem ha
    have hcong := opnds_congr hagree
    have hf' : oev env' fo = some (.bm (.func f) fs caps) := by rw [hcong fo (hmem fo (by simp))]; exact hf
    have hx' : oevs env' args = some xs := by rw [← hx]; exact oevs_congr fun o' ho' => hcong o' (hmem o' (by simp [ho']))
    refine exec_callB (K := K) (nx := st.nx) ho hwt h3 hER hf' hx' ha.1 (ha.2 w0 K _ hr.good) fun e w' hR => ?_
    obtain ⟨K', h', nx', y, rfl, hext, hgood, her, hpo, hq⟩ := hR
    cases y with
    | ret x =>
      cases e <;> simp only [AER] at her <;> first | exact her.elim | skip
      rename_i v
      refine ⟨fun v' hv => ?_, fun ch hch => (by cases hch), by simp⟩
      cases hv
      rw [h4]
      exact hk K' _ ⟨d, some x, st.env⟩ _ _ hext rfl (hinv (some x) x rfl { st with env := setE d.s.dst x st.env, heap := h', nx := nx' } rfl hpo) hq (hr.put hext hgood h5 (x := some x) (fun z hz => by cases hz; exact her) (hlk _ _))
    | panic x =>
      cases e <;> simp only [AER] at her <;> first | exact her.elim | skip
      rename_i ch
      refine ⟨fun v' hv => (by cases hv), fun ch' hch => ?_, by simp⟩
      cases hch
      refine ⟨K', { env := [], heap := h', nx := nx', dm := st.dm }, .panic x, rfl, h0.trans hext, ⟨hgood, fun t x hx => by simp [eget] at hx, hr.size, ?_, fun b hb => Nat.lt_of_lt_of_le (hr.dm b hb) hext.le⟩, her, hq⟩
      rw [marks_ext hext hr.dm]; exact hr.defers
  unfold ADk at ha
  simp only [hg] at ha
  cases hact : d.s.act with
  | op ao =>
    unfold wpOpIn
    simp only [ho, hwt, if_true, Oper.wpIn]
    refine ⟨fun f _ => trivial, ?_⟩
    rw [hact] at h3
    simp only [hact] at ha
    have hq : ¬ ao.quiet = true := by rw [hact] at hw; simp only [AAct.isW, Bool.and_eq_true, Bool.not_eq_true'] at hw; simp [hw.1]
    rw [if_neg hq] at ha
    obtain ⟨hsnd, hnd⟩ := op_sound (act_op h3.op)
    have hev' : ∀ hp n, opEv ao env' hp n = opEv ao st.env hp n := fun hp n => opEv_congr fun o' ho' => opnds_congr hagree o' (by rw [hact]; exact ho')
    have ha' : (match opEv ao st.env st.heap st.nx with
            | some (.val x, h', n') => pendOk h' (pendKeep d.late pd) ∧ KK (pendKeep d.late pd) { st with env := setE d.s.dst x st.env, heap := h', nx := n' }
            | some (.skip, h', n') => pendOk h' (pendKeep d.late pd) ∧ KK (pendKeep d.late pd) { st with env := dropE d.s.dst st.env, heap := h', nx := n' }
            | none => False) := by
      rw [hact] at hw
      simp only [AAct.isW, Bool.and_eq_true, Bool.not_eq_true'] at hw
      cases ao <;> first | exact ha | (simp [AOp.isLoad] at hw; done)
    split at ha'
    · rename_i x h' n' hev
      obtain ⟨K', rr, hrun, hext, hgood, hout⟩ := hsnd w0 K st.heap st.nx env' a _ _ _ hr.good hER (by rw [hev']; exact hev)
      rw [Oper.semAt_eq _ _ _ hnd, hrun]
      cases rr <;> simp only [outR] at hout <;> first | exact hout.elim | skip
      rename_i v
      simp only [Oper.uponIn, h4]
      exact hk K' _ ⟨d, some x, st.env⟩ _ _ hext rfl (hinv (some x) x rfl { st with env := setE d.s.dst x st.env, heap := h', nx := n' } rfl ha'.1) ha'.2 (hr.put hext hgood h5 (x := some x) (fun z hz => by cases hz; exact hout) (hlk _ _))
    · rename_i h' n' hev
      obtain ⟨K', rr, hrun, hext, hgood, hout⟩ := hsnd w0 K st.heap st.nx env' a _ _ _ hr.good hER (by rw [hev']; exact hev)
      rw [Oper.semAt_eq _ _ _ hnd, hrun]
      cases rr <;> simp only [outR] at hout <;> first | exact hout.elim | skip
      simp only [Oper.uponIn, h4]
      exact hk K' _ ⟨d, some (.tup []), st.env⟩ _ _ hext rfl (hinv (some (.tup [])) (.tup []) rfl { st with env := dropE d.s.dst st.env, heap := h', nx := n' } rfl ha'.1) ha'.2 (hr.put hext hgood h5 (x := some (.tup [])) (fun z hz => by cases hz; exact VR_undef _ _) (hlk _ _))
    · exact ha'.elim
  | call fo args =>
    simp only [hact] at ha
    rw [hact] at h3
    split at ha
    · rename_i f caps xs hf hx
      exact fin h3.call hf hx (fun o' ho' => hact ▸ ho') ha
    · rename_i f fs caps xs hf hx
      exact finB h3.call hf hx (fun o' ho' => hact ▸ ho') ha
    · exact ha.elim
  | callZ fo args =>
    simp only [hact] at ha
    split at ha
    case h_2 => exact ha.elim
    rename_i f caps xs hf hx
    rw [hact] at h3
    exact fin h3.callZ hf hx (fun o' ho' => hact ▸ ho') ((ha.frame st.heap).mono fun y h'' n' ⟨h', e1, _, hd, hz⟩ => by
      have := hz hd
      subst e1
      exact this)
structure LaidX (P : Program) (own : Nat → Bool) (N : Nat) (ops : Array Oper) (ms : List Nat) (L : List DStep) : Prop where
  masked : masks ops.toList [] = some ms
  step : ∀ d ∈ L, ∃ o, ops[d.i]? = some o ∧ compileGuard ops o = some d.s.guard ∧ ActR (compileAct P (own d.i) o) d.s.act ∧ o.dst = d.s.dst ∧ ∀ t, d.s.dst = some t → t < N
  all : ∀ i, i < ops.size → ∃ d ∈ L, d.i = i
  pairs : L.Pairwise fun d e => d.i ≠ e.i ∧ (d.dep e = true → before ms e.i d.i = true ∨ d.wU = true)
structure TI (P : Program) (own : Nat → Bool) (N : Nat) (ops : Array Oper) (ms : List Nat) (b : Nat → Option AV) (S : Nat → Bool) (T : List Ent) (t : DT) (pd : Pend) (st : ASt) : Prop where
  laid : ∀ p ∈ t.paths, LaidX P own N ops ms ((T.map (·.d)).reverse ++ p)
  sub : ∀ p ∈ t.paths, ∀ d ∈ p, S d.i = false
  dn : ∀ en ∈ T, en.d.wU = true → S en.d.i = true
  env : ∀ x, eget st.env x = lk (fun _ => true) b T x
  obl : ∀ T1 en T0, T = T1 ++ en :: T0 → S en.d.i = false → (∀ x, eget en.env x = lk (fun _ => true) b T0 x) ∧ Obl en st.heap st.nx pd
theorem TI.toD {T : List Ent} {t : DT} {pd : Pend} {st : ASt} (hi : TI P own N ops ms b S T t pd st) {p : List DStep} (hp : p ∈ t.paths) : DInv ((T.map (·.d)).reverse ++ p) b S T p pd st := ⟨rfl, hi.sub p hp, hi.env, hi.obl⟩
theorem TI.branch {T : List Ent} {t : DT} {pd : Pend} {st : ASt} (hi : TI P own N ops ms b S T t pd st) {d : DStep} {r : DT} (h : (d, r) ∈ t.br) : TI P own N ops ms b S T (.step d r) pd st := by
  have hp : ∀ p ∈ (DT.step d r).paths, p ∈ t.paths := fun p hp => by
    simp only [DT.paths, List.mem_map] at hp
    obtain ⟨q, hq, rfl⟩ := hp
    exact t.br_paths d r h q hq
  exact ⟨fun p h => hi.laid p (hp p h), fun p h => hi.sub p (hp p h), hi.dn, hi.env, hi.obl⟩
theorem TI.shift {T : List Ent} {d : DStep} {r : DT} {pd pd' : Pend} {st st' : ASt} {en : Ent} {S' : Nat → Bool} (hi : TI P own N ops ms b S T (.step d r) pd st) (he : en.d = d) (hS : ∀ j, j ≠ d.i → S' j = S j) (hdn : d.wU = true → S' d.i = true)
    (h : ∀ p ∈ r.paths, DInv ((T.map (·.d)).reverse ++ d :: p) b S' (en :: T) p pd' st') : TI P own N ops ms b S' (en :: T) r pd' st' := by
  have hm : ∀ p ∈ r.paths, d :: p ∈ (DT.step d r).paths := fun p hp => by simp [DT.paths, hp]
  obtain ⟨p0, hp0⟩ := r.paths_ne
  have h0 := h p0 hp0
  refine ⟨fun p hp => ?_, fun p hp e hep => ?_, fun f hf hw => ?_, h0.env, h0.obl⟩
  · have := hi.laid _ (hm p hp)
    simp only [List.map_cons, List.reverse_cons, List.append_assoc, List.singleton_append, he]; exact this
  · have h1 := hi.sub _ (hm p hp) e (List.mem_cons_of_mem _ hep)
    have h2 := (List.pairwise_append.1 (hi.laid _ (hm p hp)).pairs).2.1
    rw [List.pairwise_cons] at h2
    rw [hS e.i (fun e' => (h2.1 e hep).1 e'.symm)]; exact h1
  · rcases List.mem_cons.1 hf with rfl | hf
    · rw [he] at hw ⊢; exact hdn hw
    · have h2 := (List.pairwise_append.1 (hi.laid _ (hm p0 hp0)).pairs).2.2 f.d (List.mem_reverse.2 (List.mem_map.2 ⟨f, hf, rfl⟩)) d List.mem_cons_self
      rw [hS f.d.i h2.1]; exact hi.dn f hf hw
def Top (P : Program) (Q : AX → ASt → Prop) (ms : List Nat) (t : DT) (pd : Pend) (st : ASt) : Prop :=
  (t = .nil ∧ Q .normal st) ∨ ((∃ d r, (d, r) ∈ t.br) ∧ t.cover ms = true ∧ ∀ d r, (d, r) ∈ t.br → guardOk st.env d.s.guard = some true ∧ d.s.act.isW = true ∧ ADk P Q d pd st (ADT P Q r) ∧ r.ok ms true = true)
theorem advanceT : ∀ (t : DT) (T : List Ent) (pd : Pend) (st : ASt), TI P own N ops ms b S T t pd st → ADT P Q t pd st → t.ok ms true = true →
    ∃ T1 t' pd' st', TI P own N ops ms b S (T1 ++ T) t' pd' st' ∧ Top P Q ms t' pd' st' ∧ st'.heap = st.heap ∧ st'.nx = st.nx ∧ st'.dm = st.dm ∧ ∀ en ∈ T1, S en.d.i = false
  | .nil, T, pd, st, hi, ha, ho => ⟨[], .nil, pd, st, hi, .inl ⟨rfl, ha⟩, rfl, rfl, rfl, fun en h => by simp at h⟩
  | .alt a b', T, pd, st, hi, ha, ho => by
    have ho' := ho
    simp only [DT.ok, Bool.and_eq_true, Bool.not_true, Bool.false_or] at ho'
    obtain ⟨⟨⟨⟨o1, o2⟩, o3⟩, o4⟩, o5⟩ := ho'
    have hA : (DT.alt a b').okA = true := by simp [DT.okA, o1, o2]
    refine ⟨[], .alt a b', pd, st, hi, .inr ⟨DT.okA_br _ hA, o3, fun d r hd => ?_⟩, rfl, rfl, rfl, fun en h => by simp at h⟩
    obtain ⟨h1, h2⟩ := DT.br_A _ d r hd hA
    exact ⟨by rw [h2]; rfl, h1, DT.br_AT _ d r hd pd st ha, DT.br_ok _ true d r hd ho⟩
  | .step d r, T, pd, st, hi, ha, ho => by
    have ho' := ho
    simp only [DT.ok, Bool.and_eq_true, Bool.not_true, Bool.false_or] at ho'
    obtain ⟨hcv, hro⟩ := ho'
    obtain ⟨p0, hp0⟩ := r.paths_ne
    have hm : ∀ p ∈ r.paths, d :: p ∈ (DT.step d r).paths := fun p hp => by simp [DT.paths, hp]
    have hSd : S d.i = false := hi.sub _ (hm p0 hp0) d List.mem_cons_self
    have key : ∀ (x : AV) (pd' : Pend) (st' : ASt), (d.wU = false) → (∀ p ∈ r.paths, DInv ((T.map (·.d)).reverse ++ d :: p) b S (⟨d, some x, st.env⟩ :: T) p pd' st') → ADT P Q r pd' st' → st'.heap = st.heap → st'.nx = st.nx → st'.dm = st.dm →
      ∃ T1 t' pd' st', TI P own N ops ms b S (T1 ++ T) t' pd' st' ∧ Top P Q ms t' pd' st' ∧ st'.heap = st.heap ∧ st'.nx = st.nx ∧ st'.dm = st.dm ∧ ∀ en ∈ T1, S en.d.i = false := by
      intro x pd' st' hwu h1 h2 e1 e2 e3
      obtain ⟨T1, t', pd2, st2, h3, h4, h6, h7, h8, h9⟩ := advanceT r _ pd' st' (hi.shift rfl (fun _ _ => rfl) (fun h => by rw [hwu] at h; cases h) h1) h2 hro
      refine ⟨T1 ++ [⟨d, some x, st.env⟩], t', pd2, st2, by simpa using h3, h4, h6.trans e1, h7.trans e2, h8.trans e3, fun en he => ?_⟩
      rcases List.mem_append.1 he with he | he
      · exact h9 en he
      · simp only [List.mem_singleton] at he; subst he; exact hSd
    have stop : guardOk st.env d.s.guard = some true → d.s.act.isW = true → ∃ T1 t' pd' st', TI P own N ops ms b S (T1 ++ T) t' pd' st' ∧ Top P Q ms t' pd' st' ∧ st'.heap = st.heap ∧ st'.nx = st.nx ∧ st'.dm = st.dm ∧ ∀ en ∈ T1, S en.d.i = false := by
      intro hg hw
      rw [hw] at hcv
      refine ⟨[], .step d r, pd, st, hi, .inr ⟨⟨d, r, by simp [DT.br]⟩, by simpa using hcv, fun d' r' hd => ?_⟩, rfl, rfl, rfl, fun en h => by simp at h⟩
      simp [DT.br] at hd
      obtain ⟨rfl, rfl⟩ := hd
      exact ⟨hg, hw, ha, hro⟩
    have hD := fun p hp => hi.toD (hm p hp)
    have ha' := ha
    unfold ADT ADk at ha
    split at ha
    · exact ha.elim
    · rename_i hg
      exact key (.tup []) pd { st with env := dropE d.s.dst st.env } (by
        cases hgd : d.s.guard with
        | none => rw [hgd] at hg; cases hg
        | some g => simp [DStep.wU, hgd]) (fun p hp => (hD p hp).push (x := some (.tup [])) rfl rfl rfl rfl (fun q h => h) ⟨false, hg, .inl ⟨rfl, rfl⟩⟩) ha rfl rfl rfl
    · rename_i hg
      cases hact : d.s.act with
      | call f xs => exact stop hg (by rw [hact]; rfl)
      | callZ f xs => exact stop hg (by rw [hact]; rfl)
      | op ao =>
        by_cases hq : ao.quiet = true
        · simp only [hact, hq, if_true] at ha
          split at ha
          · rename_i x h1 n1 hev
            obtain ⟨x', hx'⟩ := quiet_val hq hev
            simp only [Prod.mk.injEq, Out.val.injEq] at hx'
            obtain ⟨rfl, rfl, rfl⟩ := hx'
            exact key x pd { st with env := setE d.s.dst x st.env } (by simp [DStep.wU, hact, AAct.isW, hq]) (fun p hp => (hD p hp).push (x := some x) rfl rfl rfl rfl (fun q h => h) ⟨true, hg, .inr ⟨rfl, ao, x, hact, rfl, hev, .inl hq⟩⟩) ha rfl rfl rfl
          · exact ha.elim
        · cases hld : ao.isLoad with
          | true =>
            cases ao <;> simp only [AOp.isLoad] at hld <;> first | (cases hld; done) | skip
            rename_i sz ag o
            simp only [hact, hq] at ha
            simp only [Bool.false_eq_true, if_false] at ha
            split at ha
            · rename_i p hp
              split at ha
              · rename_i x hx
                refine key x _ { st with env := setE d.s.dst x st.env } (by simp [DStep.wU, hact, AAct.isW, AOp.isLoad]) (fun q hq' => (hD q hq').push (x := some x) rfl rfl rfl rfl (fun q h => ?_) ⟨true, hg, .inr ⟨rfl, _, x, hact, rfl, load_reload hp hx, .inr ⟨sz, ag, o, p, rfl, hp, hx, ?_⟩⟩⟩) ha rfl rfl rfl
                · split
                  · exact h
                  · exact List.mem_cons_of_mem _ h
                · by_cases hf : p.isFp = true
                  · exact .inl hf
                  · refine .inr ?_; rw [if_neg hf]; exact List.mem_cons_self
              · exact ha.elim
            · exact ha.elim
          | false => exact stop hg (by rw [hact]; simp only [AAct.isW, hld]; simp [hq])
theorem tmain {w0 : World} {K0 : Wd} {n0 : Nat} : ∀ (fuel : Nat) (l : Array Bool) (T : List Ent) (t : DT) (pd : Pend) (st : ASt) (K : Wd) (a : Act), l.size = ops.size → l.toList.count false ≤ fuel →
    Closed ops (listedB l) → TI P own N ops ms b (listedB l) T t pd st → Top P Q ms t pd st → StRD w0 N K (listedB l) b T st.heap st.nx st.dm a → Ext K0 n0 K st.nx →
    wpAnyIn { Fence.wide with round := ro } 0 P .any ops (Post w0 N K0 n0 Q) fuel l a K.w := by
  have done : ∀ (l : Array Bool) (T : List Ent) (t : DT) (pd : Pend) (st : ASt) (K : Wd) (a : Act), (∀ i, i < ops.size → listedB l i = true) → TI P own N ops ms b (listedB l) T t pd st → Top P Q ms t pd st →
      StRD w0 N K (listedB l) b T st.heap st.nx st.dm a → Ext K0 n0 K st.nx → Post w0 N K0 n0 Q .normal a K.w := by
    intro l T t pd st K a hall hi ht hr h0
    rcases ht with ⟨rfl, hq⟩ | ⟨⟨d, r, hd⟩, _, _⟩
    · have hp : ([] : List DStep) ∈ DT.nil.paths := by simp [DT.paths]
      have hL := hi.laid _ hp
      have hD := hi.toD hp
      refine ⟨K, st, .normal, rfl, h0, ⟨hr.good, fun x y hx => ?_, hr.size, hr.defers, hr.dm⟩, trivial, hq⟩
      refine hr.env x y ?_
      rw [← hx, hi.env x]
      refine lk_congr fun en hen _ => ?_
      obtain ⟨o, ho, _⟩ := hL.step en.d (List.mem_append_left _ (List.mem_reverse.2 (List.mem_map.2 ⟨en, hen, rfl⟩)))
      exact hall en.d.i (Array.getElem?_eq_some_iff.1 ho).1
    · exfalso
      obtain ⟨p, hp⟩ := r.paths_ne
      have hm := t.br_paths d r hd p hp
      obtain ⟨o, ho, _⟩ := (hi.laid _ hm).step d (List.mem_append_right _ List.mem_cons_self)
      have := hall d.i (Array.getElem?_eq_some_iff.1 ho).1
      rw [hi.sub _ hm d List.mem_cons_self] at this; cases this
  intro fuel
  induction fuel with
  | zero =>
    intro l T t pd st K a hsz hcnt hC hi ht hr h0
    have hall : ∀ i, i < ops.size → listedB l i = true := by
      intro i hi
      have h1 : i < l.size := by omega
      have hz : l.toList.count false = 0 := by omega
      rw [List.count_eq_zero] at hz
      cases hl : listedB l i with
      | true => rfl
      | false =>
        exfalso; apply hz
        unfold listedB at hl
        simp [Array.getD_eq_getD_getElem?, h1] at hl
        rw [← hl]; simp
    refine ⟨?_, done l T t pd st K a hall hi ht hr h0⟩
    cases hrd : Region.ready .any ops l with
    | nil => rfl
    | cons i r =>
      have hm : i ∈ Region.ready .any ops l := by rw [hrd]; exact List.mem_cons_self
      obtain ⟨h1, o, ho, _⟩ := mem_ready.1 hm
      have h2 := hall i (Array.getElem?_eq_some_iff.1 ho).1
      have h3 : i < l.size := by rw [hsz]; exact (Array.getElem?_eq_some_iff.1 ho).1
      unfold listedB at h2
      simp [Array.getD_eq_getD_getElem?, h3] at h1 h2
      rw [h1] at h2; cases h2
  | succ fuel ih =>
    intro l T t pd st K a hsz hcnt hC hi ht hr h0
    obtain ⟨p0, hp0⟩ := t.paths_ne
    have hL := hi.laid p0 hp0
    have hD := hi.toD hp0
    have hlow : ∀ i o, ops[i]? = some o → ∀ e ∈ o.after, Region.binds .any e = true → e.on < i := fun i o ho => (before_spec hL.masked ho).1
    refine ⟨fun hnil => done l T t pd st K a (ready_nil hsz hlow hnil) hi ht hr h0, fun i hmem => ?_⟩
    obtain ⟨hlt, hf, hrdy, hset, hsz', hcnt', hC'⟩ := ready_facts hsz hcnt hC hmem
    obtain ⟨o, ho⟩ : ∃ o, ops[i]? = some o := ⟨_, Array.getElem?_eq_getElem hlt⟩
    have hbefore : ∀ j, before ms i j = true → listedB l j = true := fun j hj => Closed.before hL.masked hC i o ho (hrdy o ho) j hj
    have hdn : ∀ f ∈ T, listedB l f.d.i = true → ∀ j, before ms f.d.i j = true → listedB l j = true := by
      intro f hf hS j hj
      obtain ⟨of, hof, _⟩ := hL.step f.d (List.mem_append_left _ (List.mem_reverse.2 (List.mem_map.2 ⟨f, hf, rfl⟩)))
      exact Closed.before hL.masked hC _ of hof (hC _ _ hof hS) j hj
    obtain ⟨d, hdL, hdi⟩ := hL.all i hlt
    subst hdi
    rcases List.mem_append.1 hdL with hdT | hdp
    · obtain ⟨en, hen, rfl⟩ := List.mem_map.1 (List.mem_reverse.1 hdT)
      obtain ⟨T1, T0, rfl⟩ := List.append_of_mem hen
      have hpw := (List.pairwise_append.1 hL.pairs).1
      rw [List.pairwise_reverse, List.pairwise_map, List.pairwise_append] at hpw
      obtain ⟨_, hpw2, hpw3⟩ := hpw
      rw [List.pairwise_cons] at hpw2
      refine exec_oldX (hL.step en.d (List.mem_append_left _ (List.mem_reverse.2 (List.mem_map.2 ⟨en, hen, rfl⟩)))) hD hr hf (fun f hf' => (hpw2.1 f hf').1) (fun f hf' => (hpw3 f hf' en List.mem_cons_self).1) (fun f hf' hdep => ?_) (fun f hf' hdep => ?_) hset ?_
      · rcases (hpw2.1 f hf').2 hdep with h | h
        · exact hbefore _ h
        · exact hi.dn f (List.mem_append_right _ (List.mem_cons_of_mem _ hf')) h
      · cases hSf : listedB l f.d.i with
        | false => rfl
        | true =>
          rcases (hpw3 f hf' en List.mem_cons_self).2 hdep with h | h
          · have := hdn f (List.mem_append_left _ hf') hSf _ h
            rw [hf] at this; cases this
          · have := hi.dn en hen h
            rw [hf] at this; cases this
      intro K' a' hext hr'
      refine ih _ (T1 ++ en :: T0) t pd st K' a' hsz' hcnt' hC' ⟨hi.laid, fun p hp d hd => ?_, fun f hf' hw => by rw [hset, hi.dn f hf' hw]; rfl, hi.env, fun T1' en' T0' hT hS => ?_⟩ ht hr' (h0.trans hext)
      · rw [hset, hi.sub p hp d hd]
        have hpw := List.pairwise_append.1 (hi.laid p hp).pairs
        have := (hpw.2.2 en.d (List.mem_reverse.2 (List.mem_map.2 ⟨en, hen, rfl⟩)) d hd).1
        simp; exact fun h => this h.symm
      · refine hi.obl T1' en' T0' hT ?_
        rw [hset] at hS; simp only [Bool.or_eq_false_iff] at hS; exact hS.1
    · rcases ht with ⟨rfl, _⟩ | ⟨_, hcov, hbr⟩
      · simp [DT.paths] at hp0; subst hp0; simp at hdp
      · obtain ⟨d', r', hd', hor⟩ := DT.cover_mem hcov hp0 hdp
        have hsubd : listedB l d'.i = false := by
          obtain ⟨p1, hp1⟩ := r'.paths_ne
          exact hi.sub _ (t.br_paths d' r' hd' p1 hp1) d' List.mem_cons_self
        rcases hor with he | hb
        rotate_left
        · have := hbefore _ hb
          rw [hsubd] at this; cases this
        rw [← he] at hmem hlt hf hrdy hset hsz' hcnt' hC' ho hbefore ⊢
        obtain ⟨hg, hw, ha, hro⟩ := hbr d' r' hd'
        have hB := hi.branch hd'
        obtain ⟨p1, hp1⟩ := r'.paths_ne
        have hm1 : d' :: p1 ∈ (DT.step d' r').paths := by simp [DT.paths, hp1]
        have hq2 := (List.pairwise_append.1 (hB.laid _ hm1).pairs).2
        have hq3 := hq2.1
        rw [List.pairwise_cons] at hq3
        have hq4 := fun f (hf' : f ∈ T) => hq2.2 f.d (List.mem_reverse.2 (List.mem_map.2 ⟨f, hf', rfl⟩)) d' List.mem_cons_self
        refine exec_newK ((hB.laid _ hm1).step d' (List.mem_append_right _ List.mem_cons_self)) (hB.toD hm1) ha hg hw hr (fun f hf' => (hq4 f hf').1) (fun e he => (hq3.1 e he).1) (fun f hf' hdep => ?_) hset h0 ?_
        · rcases (hq4 f hf').2 hdep with h | h
          · exact hbefore _ h
          · exact hi.dn f hf' h
        intro K' a' en pd' st' hext hen hi' ha' hr'
        have hall : ∀ p ∈ r'.paths, DInv ((T.map (·.d)).reverse ++ d' :: p) b (listedB (l.setIfInBounds d'.i true)) (en :: T) p pd' st' := fun p hp => by
          have hm : d' :: p ∈ (DT.step d' r').paths := by simp [DT.paths, hp]
          refine ⟨by simp [hen], fun e he => ?_, hi'.env, hi'.obl⟩
          have h1 := hB.sub _ hm e (List.mem_cons_of_mem _ he)
          have h2 := (List.pairwise_append.1 (hB.laid _ hm).pairs).2.1
          rw [List.pairwise_cons] at h2
          rw [hset, h1]
          have := (h2.1 e he).1
          simp; exact fun h => this h.symm
        have hTI := hB.shift (en := en) (pd' := pd') (st' := st') (S' := listedB (l.setIfInBounds d'.i true)) hen (fun j hj => by rw [hset]; simp [hj]) (fun _ => by rw [hset]; simp) hall
        obtain ⟨T1, t', pd2, st2, h3, h4, h6, h7, h8, h9⟩ := advanceT r' _ pd' st' hTI ha' hro
        refine ih _ _ t' pd2 st2 K' a' hsz' hcnt' hC' h3 h4 ?_ (by rw [h7]; exact h0.trans hext)
        refine ⟨by rw [h6, h7]; exact hr'.good, fun x y hx => ?_, hr'.size, by rw [h8]; exact hr'.defers, by rw [h7, h8]; exact hr'.dm⟩
        rw [lk_skip fun e he _ => h9 e he] at hx
        rw [h7]; exact hr'.env x y hx
end
theorem altL_paths : ∀ (l : List DT) (p : List DStep), p ∈ (altL l).paths → p = [] ∨ ∃ t ∈ l, p ∈ t.paths
  | [], p, h => by simp [altL, DT.paths] at h; exact .inl h
  | [t], p, h => .inr ⟨t, by simp, h⟩
  | t :: u :: r, p, h => by
    simp only [altL, DT.paths, List.mem_append] at h
    rcases h with h | h
    · exact .inr ⟨t, by simp, h⟩
    · rcases altL_paths (u :: r) p h with e | ⟨x, hx, hp⟩
      · exact .inl e
      · exact .inr ⟨x, List.mem_cons_of_mem _ hx, hp⟩
theorem mkT_s {ms : List Nat} {w : Nat → Bool} {ss : List AStep} : ∀ (n done : Nat) (pend old : List Nat) (p : List DStep), p ∈ (mkT ms w ss n done pend old).paths → ∀ d ∈ p, d.s = ss.getD d.i default
  | 0, done, pend, old, p, hp, d, hd => by simp [mkT, DT.paths] at hp; subst hp; simp at hd
  | n + 1, done, pend, old, p, hp, d, hd => by
    unfold mkT at hp
    split at hp
    · rename_i i _
      simp only [DT.paths, List.mem_map] at hp
      obtain ⟨q, hq, rfl⟩ := hp
      rcases List.mem_cons.1 hd with rfl | hd
      · rfl
      · exact mkT_s n _ _ _ q hq d hd
    · rcases altL_paths _ p hp with e | ⟨t, ht, hp⟩
      · subst e; simp at hd
      · obtain ⟨i, _, rfl⟩ := List.mem_map.1 ht
        simp only [DT.paths, List.mem_map] at hp
        obtain ⟨q, hq, rfl⟩ := hp
        rcases List.mem_cons.1 hd with rfl | hd
        · rfl
        · exact mkT_s n _ _ _ q hq d hd
theorem pairsX_spec {ms : List Nat} : ∀ {L : List DStep}, pairsX ms L = true → L.Pairwise fun d e => d.i ≠ e.i ∧ (d.dep e = true → before ms e.i d.i = true ∨ d.wU = true)
  | [], _ => .nil
  | d :: r, h => by
    simp only [pairsX, Bool.and_eq_true, List.all_eq_true] at h
    refine .cons (fun e he => ?_) (pairsX_spec h.2)
    have := h.1 e he
    simp only [pairX, Bool.and_eq_true, bne_iff_ne, ne_eq, Bool.or_eq_true, Bool.not_eq_true'] at this
    refine ⟨this.1, fun hd => ?_⟩
    rcases this.2 with (h3 | h3) | h3
    · exact .inr h3
    · rw [hd] at h3; cases h3
    · exact .inl h3
theorem compileT_spec {P : Program} {own : Nat → Bool} {N : Nat} {ops : Array Oper} {t : DT} (h : compileT P own N ops = some t) : ∃ ms, t.ok ms true = true ∧ ∀ p ∈ t.paths, LaidX P own N ops ms p := by
  unfold compileT at h
  split at h
  · rename_i ss ms hss hms
    simp only at h
    split at h
    · rename_i hc
      simp only [Option.some.injEq] at h
      rw [Bool.and_eq_true] at hc
      obtain ⟨h1, h2⟩ := hc
      refine ⟨ms, by rw [← h]; exact h1, fun p hp => ?_⟩
      rw [h] at h2
      have h3 := List.all_eq_true.1 h2 p hp
      simp only [Bool.and_eq_true, List.all_eq_true, decide_eq_true_eq, List.mem_range, List.any_eq_true, beq_iff_eq] at h3
      obtain ⟨⟨h4, h5⟩, h6⟩ := h3
      refine ⟨hms, fun d hd => ?_, h6, pairsX_spec h4⟩
      have hlt := h5 d hd
      obtain ⟨s, h7, h8⟩ := steps_at hss d.i ops[d.i] (by simp [hlt])
      refine ⟨ops[d.i], Array.getElem?_eq_getElem hlt, ?_⟩
      have hs : d.s = ss.getD d.i default := mkT_s _ _ _ _ p (by rw [h]; exact hp) d hd
      have e : d.s = s := by rw [hs]; simp [List.getD_eq_getElem?_getD, h7]
      rw [e]
      simp only [Nat.zero_add] at h8
      exact ⟨h8.1, .inl h8.2.1, h8.2.2⟩
    · cases h
  · cases h
theorem AW_tregion {P : Program} {own : Nat → Nat → Bool} {ro : Option Nat} {N : Nat} {Q : AX → ASt → Prop} {st : ASt} {t : DT} (hm : P.follows .mixedOrders = true) (h : ADT P Q t [] st) : AW P own ro N (.tregion t) Q st := by
  intro c hc w0 K a hs
  obtain ⟨id, os, rfl, h1⟩ := inv_tregion hc
  obtain ⟨ms, hok, hL⟩ := compileT_spec h1
  refine wpIn_region_any hm ?_
  have hnone : ∀ j, listedB (Array.replicate os.size false) j = false := by
    intro j; unfold listedB
    simp only [Array.getD_eq_getD_getElem?, Array.getElem?_replicate]
    split <;> rfl
  have hi : TI P (own id) N os ms (eget st.env) (listedB (Array.replicate os.size false)) [] t [] st := ⟨fun p hp => by simpa using hL p hp, fun p hp d _ => hnone _, fun en h => by simp at h, fun t => rfl, fun T1 en T0 hT => by simp at hT⟩
  obtain ⟨T1, t', pd, st', h3, h4, h6, h7, h8, h9⟩ := advanceT t [] [] st hi h hok
  have hext : Ext K st.nx { K with w := { K.w with drawn := K.w.drawn + 1 } } st.nx := Ext.of_heap rfl
  have hgood : Good w0 { K with w := { K.w with drawn := K.w.drawn + 1 } } st.heap st.nx := hs.good.drew _
  refine tmain (K0 := K) (n0 := st.nx) os.size _ _ t' pd st' { K with w := { K.w with drawn := K.w.drawn + 1 } } a (by simp) ?_ ?_ h3 h4 ?_ (by rw [h7]; exact hext)
  · simp [List.count_replicate]
  · intro i o ho hS; rw [hnone] at hS; cases hS
  · refine ⟨by rw [h6, h7]; exact hgood, fun t x hx => ?_, hs.size, by rw [h8, hs.defers]; rfl, by rw [h7, h8]; exact hs.dm⟩
    rw [lk_skip fun e he _ => h9 e he] at hx
    obtain ⟨v, h10, h11⟩ := hs.env t x hx
    exact ⟨v, h10, by rw [h7]; exact h11.mono hext⟩
theorem ADk_mono {P : Program} {Q Q' : AX → ASt → Prop} {KK KK' : Pend → ASt → Prop} (hq : ∀ x s, Q x s → Q' x s) (hk : ∀ pd s, KK pd s → KK' pd s) {d : DStep} {pd : Pend} {st : ASt} (h : ADk P Q d pd st KK) : ADk P Q' d pd st KK' := by
  unfold ADk at h ⊢
  cases hg : guardOk st.env d.s.guard with
  | none => simp only [hg] at h
  | some c =>
  simp only [hg] at h
  cases c with
  | false => exact hk _ _ h
  | true =>
    simp only at h ⊢
    cases hact : d.s.act with
    | call f args =>
      simp only [hact] at h
      simp only
      split at h
      · rename_i hf hx
        (try simp only [hf, hx])
        refine h.mono fun y h' n' hy => ⟨hy.1, ?_⟩
        cases y with
        | ret x => exact hk _ _ hy.2
        | panic x => exact hq _ _ hy.2
      · rename_i hf hx
        (try simp only [hf, hx])
        refine h.mono fun y h' n' hy => ⟨hy.1, ?_⟩
        cases y with
        | ret x => exact hk _ _ hy.2
        | panic x => exact hq _ _ hy.2
      · exact h.elim
    | callZ f args =>
      simp only [hact] at h
      simp only
      split at h
      · rename_i hf hx
        (try simp only [hf, hx])
        refine h.mono fun y h' n' hz hd => ?_
        have hy := hz hd
        refine ⟨hy.1, ?_⟩
        cases y with
        | ret x => exact hk _ _ hy.2
        | panic x => exact hq _ _ hy.2
      · exact h.elim
    | op ao =>
      simp only [hact] at h
      simp only
      by_cases hqt : ao.quiet = true
      · simp only [hqt, if_true] at h ⊢
        split at h
        · rename_i hev
          (try simp only [hev])
          exact hk _ _ h
        · exact h.elim
      · simp only [hqt] at h ⊢
        simp only [Bool.false_eq_true, if_false] at h ⊢
        cases ao <;> simp only at h ⊢
        case load sz ag o =>
          split at h
          · rename_i p hp
            (try simp only [hp])
            split at h
            · rename_i x hx
              (try simp only [hx])
              exact hk _ _ h
            · exact h.elim
          · exact h.elim
        all_goals
          first
          | (exact absurd rfl hqt)
          | (split at h
             · rename_i hev; (try simp only [hev]); exact ⟨h.1, hk _ _ h.2⟩
             · rename_i hev; (try simp only [hev]); exact ⟨h.1, hk _ _ h.2⟩
             · exact h.elim)
theorem ADT_mono {P : Program} {Q Q' : AX → ASt → Prop} (hq : ∀ x s, Q x s → Q' x s) : ∀ (t : DT) (pd : Pend) (st : ASt), ADT P Q t pd st → ADT P Q' t pd st
  | .nil, pd, st, h => hq _ _ h
  | .step d r, pd, st, h => ADk_mono hq (fun pd s hs => ADT_mono hq r pd s hs) h
  | .alt a b, pd, st, h => ⟨ADT_mono hq a pd st h.1, ADT_mono hq b pd st h.2⟩
end Go.Ab
