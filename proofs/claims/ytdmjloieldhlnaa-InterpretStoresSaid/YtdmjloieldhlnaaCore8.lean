/- The abstract operations, how an operation of the model becomes one, and that it does the same. -/
import Derived.Test.YtdmjloieldhlnaaCore7
namespace Go.Ab
open Go.RowKit
set_option linter.unusedVariables false
set_option linter.unusedSimpArgs false

inductive AOp where
  | move (x : Operand)
  | pick (c a b : Operand)
  | alloc (z : List AV)
  | box (x : Operand)
  | build (z : List AV) (ps : List (Nat × Nat × Operand))
  | buildF (z : List AV) (len : Nat) (ps : List (Nat × Operand))
  | buildO (e : TypeId) (z : List AV) (len : Nat) (ps : List (Nat × Operand))
  | load (sz : Nat) (ag : Bool) (x : Operand)
  | store (sz : Nat) (p x : Operand)
  | nilck (x : Operand)
  | bin (op : BinOp) (x y : Operand)
  | eqS (neg : Bool) (ks : List FK) (x y : Operand)
  | eqN (neg : Bool) (k : NK) (x : Operand)
  | eqB (neg : Bool) (x y : Operand)
  | un (op : UnOp) (x : Operand)
  | conv (k : IntKind) (x : Operand)
  | mkif (t : TypeId) (x : Operand)
  | mkfn (f : Fn) (caps : List Operand)
  | mksl (e : TypeId) (z : List AV) (bytes : Nat) (l c : Operand)
  | slc (sz : Nat) (x : Operand) (lo hi mx : Option Operand)
  | slcs (x : Operand) (lo hi : Option Operand)
  | fieldA (off : Nat) (x : Operand)
  | field (off sz : Nat) (ag : Bool) (x : Operand)
  | idxA (sz : Nat) (x i : Operand)
  | idxR (len sz : Nat) (x i : Operand)
  | idx (len sz : Nat) (ag : Bool) (x i : Operand)
  | idxs (x i : Operand)
  | ext (x : Operand) (i : Nat)
  | len (x : Operand)
  | lens (x : Operand)
  | convS (x : Operand)
  | convBS (x : Operand)
  | mn (x y : Operand)
  | mx (x y : Operand)
  | app (e sz bytes : Nat) (s x : Operand)
  | appZ (e : TypeId) (z : List AV) (bytes : Nat) (s n : Operand)
  | cap (x : Operand)
  | copy (sz : Nat) (d x : Operand)
  | clear (z : List AV) (x : Operand)
  | ovl (x y : Operand)
  | bad
  deriving Inhabited

/-- The bytes of cells. -/
def bytesOf : List AV → Option (List UInt8)
  | [] => some []
  | .int .u8 n :: r => (bytesOf r).map (UInt8.ofNat n.toNat :: ·)
  | _ => none

/-- The first cells of a slice, as many as 'most' elements have. -/
def srcCells (sz : Nat) (h : Heap) (x : AV) (most : Nat) : Option (Nat × List AV) :=
  match x with
  | .oc b off _ s m _ => match hget h b with
    | some (.cells cs) => if s = sz ∧ off + min m most * sz ≤ cs.length then some (min m most, (cs.drop off).take (min m most * sz)) else none
    | _ => none
  | x => match sliceCells h x with
    | some (m, news) => if slSz x sz = true then some (min m most, news.take (min m most * sz)) else none
    | none => none
/-- copy: how many elements, and the blocks behind it. -/
def copyA (sz : Nat) (h : Heap) (d x : AV) : Option (Nat × Heap) :=
  match d with
  | .os b off _ s dl => (match srcCells sz h x dl, hget h b with
    | some (k, news), some (.cells cs) => if s = sz ∧ off + k * sz ≤ cs.length ∧ 0 < k then some (k, hset h b (.cells (splice cs off news))) else none
    | _, _ => none)
  | .oc b off _ s dl cap => (match srcCells sz h x dl, hget h b with
    | some (k, news), some (.cells cs) => if s = sz ∧ off ≤ cs.length ∧ 0 < k then some (k, hset h b (.cells (splice cs off news))) else none
    | _, _ => none)
  | _ => none
def clearA (z : List AV) (h : Heap) (x : AV) : Option Heap :=
  match x with
  | .oc b off _ s n cap => (match hget h b with
    | some (.cells cs) => if s = z.length ∧ 0 < n ∧ 0 < z.length ∧ off + n * z.length ≤ cs.length then some (hset h b (.cells (splice cs off (List.replicate n z).flatten))) else none
    | _ => none)
  | _ => none

/-- Where an own slice lies, if it has elements. -/
def slBlk : AV → Option Nat
  | .os b _ _ sz n => if 0 < sz ∧ 0 < n then some b else none
  | .oc b _ _ sz n _ => if 0 < sz ∧ 0 < n then some b else none
  | _ => none
/-- Two own slices in two blocks. -/
def ovA (h : Heap) (x y : AV) : Bool :=
  match slBlk x, slBlk y with
  | some b, some b' => b != b' && (match hget h b, hget h b' with
    | some (.cells _), some (.cells _) => true
    | _, _ => false)
  | _, _ => false

inductive Out where
  | val (x : AV)
  | skip

def asInt? : AV → Option Int
  | .int _ n => some n
  | _ => none
/-- A bound of a part of a slice. -/
def bnd (env : Env) (o : Option Operand) (d : Nat) : Option Nat :=
  match o with
  | none => some d
  | some x => match oev env x with
    | some (.int _ n) => if 0 ≤ n then some n.toNat else none
    | _ => none
def slcA (sz : Nat) (x : AV) (l h : Nat) (m : Option Nat) : Option AV :=
  match x, m with
  | .lst s es, none => if l ≤ h ∧ h ≤ es.length ∧ s = sz then some (.lst s ((es.take h).drop l)) else none
  | .lst s es, some m => if l ≤ h ∧ h ≤ m ∧ m ≤ es.length ∧ s = sz then (if m = l then some .emp else some (.lst s ((es.take h).drop l))) else none
  | .os b off e s len, none => if l ≤ h ∧ h ≤ len ∧ s = sz then some (.os b (off + l * s) e s (h - l)) else none
  | .os b off e s len, some m => if l = h ∧ h = m ∧ m ≤ len then some .emp else none
  | .oc b off e s len cap, none => if l ≤ h ∧ h ≤ cap ∧ s = sz then some (.oc b (off + l * s) e s (h - l) (cap - l)) else none
  | .oc b off e s len cap, some m => if l ≤ h ∧ h ≤ m ∧ m ≤ cap then some .any else none
  | .nilS, none => if l = 0 ∧ h = 0 then some .nilS else none
  | .nilS, some m => if l = 0 ∧ h = 0 ∧ m = 0 then some .nilS else none
  | .emp, none => if l = 0 ∧ h = 0 then some .emp else none
  | .emp, some m => if l = 0 ∧ h = 0 ∧ m = 0 then some .emp else none
  | _, _ => none
def lenA : AV → Option Nat
  | .lst _ es => some es.length
  | .os _ _ _ _ n => some n
  | .oc _ _ _ _ n _ => some n
  | .nilS => some 0
  | .emp => some 0
  | .ne0 => some 0
  | _ => none
def idxA (sz : Nat) (x : AV) (i : Int) : Option AV :=
  match x with
  | .lst s es => if 0 ≤ i ∧ s = sz then (es[i.toNat]?).map .fp else none
  | .os b off _ s n => if 0 ≤ i ∧ i < n ∧ s = sz then some (.op b (off + i.toNat * s)) else none
  | _ => none
def addA (off : Nat) : AV → Option AV
  | .fp cs => some (.fp (cs.drop off))
  | .op b o => some (.op b (o + off))
  | _ => none
def unA : UnOp → AV → Option AV
  | .neg, .int k n => some (.int k (k.wrap (0 - n)))
  | .xor, .int k n => (bitsA .xor k (if k.signed then -1 else k.max) n).map (.int k)
  | .not, .bool b => some (.bool (!b))
  | _, _ => none
/-- The operands of a list of parts. -/
def partsE (env : Env) : List (Nat × Operand) → Option (List (Nat × AV))
  | [] => some []
  | (i, o) :: r => match oev env o, partsE env r with
    | some x, some ys => some ((i, x) :: ys)
    | _, _ => none
def partsE3 (env : Env) : List (Nat × Nat × Operand) → Option (List (Nat × Nat × AV))
  | [] => some []
  | (i, s, o) :: r => match oev env o, partsE3 env r with
    | some x, some ys => some ((i, s, x) :: ys)
    | _, _ => none
def oevs (env : Env) : List Operand → Option (List AV)
  | [] => some []
  | o :: r => match oev env o, oevs env r with
    | some x, some ys => some (x :: ys)
    | _, _ => none

def opEv (o : AOp) (env : Env) (h : Heap) (nx : Nat) : Option (Out × Heap × Nat) :=
  match o with
  | .move x => match oev env x with
    | some y => some (.val y, h, nx)
    | none => none
  | .pick c a b => match oev env c with
    | some (.bool t) => (match (if t then oev env a else oev env b) with
      | some y => some (.val y, h, nx)
      | none => none)
    | _ => none
  | .alloc z => some (.val (.op nx 0), (nx, .cells z) :: h, nx + 1)
  | .box x => match oev env x with
    | some y => if y.plain = true then some (.val (.op nx 0), (nx, .cells (cellsOf y)) :: h, nx + 1) else none
    | none => none
  | .build z ps => match partsE3 env ps with
    | some qs => (match fillA z qs with
      | some r => some (.val (.agg r), h, nx)
      | none => none)
    | none => none
  | .buildF z len ps => match partsE env ps with
    | some qs => (match fillE z.length (List.replicate len z) qs with
      | some es => some (.val (if len = 0 then .emp else .lst z.length es), h, nx)
      | none => none)
    | none => none
  | .buildO e z len ps => match partsE env ps with
    | some qs => (match fillE z.length (List.replicate len z) qs with
      | some es => some (.val (.os nx 0 e z.length len), (nx, .cells es.flatten) :: h, nx + 1)
      | none => none)
    | none => none
  | .load sz ag x => match oev env x with
    | some p => (match ptrCells h p with
      | some cs => (match takeV sz ag cs with
        | some y => some (.val y, h, nx)
        | none => none)
      | none => none)
    | none => none
  | .store sz p x => match oev env p, oev env x with
    | some p, some x => if x.plain = true ∧ (cellsOf x).length = sz then (match storeH h p (cellsOf x) with
        | some h' => some (.skip, h', nx)
        | none => none) else none
    | _, _ => none
  | .nilck x => match oev env x with
    | some (.op b o) => some (.val (.op b o), h, nx)
    | some (.fp cs) => some (.val (.fp cs), h, nx)
    | _ => none
  | .bin op x y => match oev env x, oev env y with
    | some x, some y => (match binA op x y with
      | some r => some (.val r, h, nx)
      | none => none)
    | _, _ => none
  | .eqS neg ks x y => match oev env x, oev env y with
    | some (.agg xs), some (.agg ys) => (match eqL ks xs ys with
      | some r => some (.val (.bool (if neg then !r else r)), h, nx)
      | none => none)
    | _, _ => none
  | .eqN neg k x => match oev env x with
    | some x => (match nilA k x with
      | some r => some (.val (.bool (if neg then !r else r)), h, nx)
      | none => none)
    | _ => none
  | .eqB neg x y => match oev env x, oev env y with
    | some (.bool a), some (.bool b) => some (.val (.bool (if neg then !(a == b) else a == b)), h, nx)
    | _, _ => none
  | .un op x => match oev env x with
    | some x => (match unA op x with
      | some r => some (.val r, h, nx)
      | none => none)
    | none => none
  | .conv k x => match oev env x with
    | some (.int _ n) => some (.val (.int k (k.wrap n)), h, nx)
    | _ => none
  | .mkif t x => match oev env x with
    | some x => some (.val (.ifc t x), h, nx)
    | none => none
  | .mkfn f caps => match oevs env caps with
    | some cs => some (.val (.fn f cs), h, nx)
    | none => none
  | .mksl e z bytes l c => match oev env l, oev env c with
    | some (.int _ l), some (.int _ c) => if 0 ≤ l ∧ l ≤ c ∧ (bytes : Int) * c ≤ 281474976710656 ∧ c ≤ 9223372036854775807 then
        some (.val (.os nx 0 e z.length l.toNat), (nx, .cells (List.replicate l.toNat z).flatten) :: h, nx + 1) else none
    | _, _ => none
  | .slc sz x lo hi mx => match oev env x with
    | some x => (match lenA x with
      | some n => (match bnd env lo 0, bnd env hi n with
        | some l, some hh => (match mx with
          | none => (match slcA sz x l hh none with
            | some r => some (.val r, h, nx)
            | none => none)
          | some m => (match bnd env (some m) 0 with
            | some m => (match slcA sz x l hh (some m) with
              | some r => some (.val r, h, nx)
              | none => none)
            | none => none))
        | _, _ => none)
      | none => none)
    | none => none
  | .slcs x lo hi => match oev env x with
    | some (.str s) => (match bnd env lo 0, bnd env hi s.length with
      | some l, some hh => if l ≤ hh ∧ hh ≤ s.length then some (.val (.str ((s.take hh).drop l)), h, nx) else none
      | _, _ => none)
    | _ => none
  | .fieldA off x => match oev env x with
    | some x => (match addA off x with
      | some r => some (.val r, h, nx)
      | none => none)
    | none => none
  | .field off sz ag x => match oev env x with
    | some (.agg cs) => (match takeV sz ag (cs.drop off) with
      | some r => some (.val r, h, nx)
      | none => none)
    | _ => none
  | .idxA sz x i => match oev env x, oev env i with
    | some x, some (.int _ i) => (match idxA sz x i with
      | some r => some (.val r, h, nx)
      | none => none)
    | _, _ => none
  | .idxR len sz x i => match oev env x, oev env i with
    | some x, some (.int _ i) => if 0 ≤ i ∧ i < len then (match addA (i.toNat * sz) x with
        | some r => some (.val r, h, nx)
        | none => none) else none
    | _, _ => none
  | .idx len sz ag x i => match oev env x, oev env i with
    | some (.agg cs), some (.int _ i) => if 0 ≤ i ∧ i < len then (match takeV sz ag (cs.drop (i.toNat * sz)) with
        | some r => some (.val r, h, nx)
        | none => none) else none
    | _, _ => none
  | .idxs x i => match oev env x, oev env i with
    | some (.str s), some (.int _ i) => if 0 ≤ i then (match s[i.toNat]? with
        | some b => some (.val (.int .u8 b.toNat), h, nx)
        | none => none) else none
    | _, _ => none
  | .ext x i => match oev env x with
    | some (.tup cs) => (match cs[i]? with
      | some y => some (.val y, h, nx)
      | none => none)
    | _ => none
  | .len x => match oev env x with
    | some x => (match lenA x with
      | some n => some (.val (.int .i64 n), h, nx)
      | none => none)
    | none => none
  | .lens x => match oev env x with
    | some (.str s) => some (.val (.int .i64 s.length), h, nx)
    | _ => none
  | .convBS x => match oev env x with
    | some s => if slSz s 1 = true then (match sliceCells h s with
      | some (_, cs) => (match bytesOf cs with
        | some bs => some (.val (.str bs), h, nx)
        | none => none)
      | none => none) else none
    | none => none
  | .convS x => match oev env x with
    | some (.str s) => some (.val (.str s), h, nx)
    | _ => none
  | .mn x y => match oev env x, oev env y with
    | some (.int k a), some (.int k' b) => if k = k' then some (.val (.int k (if b < a then b else a)), h, nx) else none
    | _, _ => none
  | .mx x y => match oev env x, oev env y with
    | some (.int k a), some (.int k' b) => if k = k' then some (.val (.int k (if b > a then b else a)), h, nx) else none
    | _, _ => none
  | .app e sz bytes s x => match oev env s, oev env x with
    | some s, some x => (match appA e sz bytes h nx s x with
      | some (r, h', n') => some (.val r, h', n')
      | none => none)
    | _, _ => none
  | .appZ e z bytes s n => match oev env s, oev env n with
    | some .nilS, some (.int _ l) => if 0 < l ∧ l.toNat * bytes ≤ 140737488355328 ∧ l.toNat ≤ maxLen then some (.val (.os nx 0 e z.length l.toNat), (nx, .cells (List.replicate l.toNat z).flatten) :: h, nx + 1) else none
    | some (.oc b off e' sz' len cap), some (.int _ l) => (match hget h b with
      | some (.cells cs) => if off = 0 ∧ e' = e ∧ sz' = z.length ∧ 0 < l ∧ (cap : Int) < len + l ∧ len * sz' ≤ cs.length ∧ (len + l.toNat) * bytes ≤ 140737488355328 ∧ len + l.toNat ≤ maxLen then
          some (.val (.os nx 0 e z.length (len + l.toNat)), (nx, .cells (cs.take (len * sz') ++ (List.replicate l.toNat z).flatten)) :: h, nx + 1) else none
      | _ => none)
    | _, _ => none
  | .cap x => match oev env x with
    | some .nilS => some (.val (.int .i64 0), h, nx)
    | some .emp => some (.val (.int .i64 0), h, nx)
    | some (.oc _ _ _ _ _ c) => some (.val (.int .i64 c), h, nx)
    | _ => none
  | .copy sz d x => match oev env d, oev env x with
    | some d, some x => (match copyA sz h d x with
      | some (k, h') => some (.val (.int .i64 (k : Nat)), h', nx)
      | none => none)
    | _, _ => none
  | .clear z x => match oev env x with
    | some x => (match clearA z h x with
      | some h' => some (.val (.tup []), h', nx)
      | none => none)
    | none => none
  | .ovl x y => match oev env x, oev env y with
    | some x, some y => if ovA h x y = true then some (.val (.bool false), h, nx) else none
    | _, _ => none
  | .bad => none

/-! ### From the model's operation -/
def isNilConst : NK → Operand → Bool
  | .ptr, .const (.pointer none) => true
  | .sl, .const (.slice none 0 0) => true
  | .mp, .const (.map none) => true
  | .fn, .const .nilFunc => true
  | .ifc, .const .nilIface => true
  | _, _ => false
def nilK (P : Program) (t : TypeId) : Option NK := match P.underlying t with
  | some (.pointer _) => some .ptr
  | some (.slice _) => some .sl
  | some (.map _ _) => some .mp
  | some (.func _ _ _) => some .fn
  | some (.interface _) => some .ifc
  | _ => none

def compileEq (P : Program) (neg : Bool) (t : TypeId) (x y : Operand) : Option AOp :=
  match P.underlying t with
  | some (.int _) => some (.bin (if neg then .neq else .eql) x y)
  | some .string => some (.bin (if neg then .neq else .eql) x y)
  | some .bool => some (.eqB neg x y)
  | some (.struct _) => (flatT P t).map fun ks => .eqS neg ks x y
  | _ => (nilK P t).bind fun k => if isNilConst k y = true then some (.eqN neg k x) else if isNilConst k x = true then some (.eqN neg k y) else none

/-- The body-less function slices.overlaps. -/
def isOvl (P : Program) (f : FuncId) : Bool := match P.funcs[f]? with
  | some fn => fn.body.isNone && !(fn.name == "runtime.NumGoroutine") && (Extern.allNextRows.lookup fn.name).isNone && (Extern.allGenericRows.lookup fn.name).isNone && (Extern.allTypedRows.lookup fn.name).isNone && (Extern.allRows.lookup fn.name).isNone && fn.origin == "slices.overlaps" &&
    (match fn.params.toList, fn.resultTypes.toList with
    | [t, t'], [_] => t == t' && (match P.underlying t with
      | some (.slice e) => (P.info? e).isSome
      | _ => false)
    | _, _ => false)
  | none => false
def compileCall (P : Program) (c : Call) : Option AOp :=
  match c.callee, c.args.toList, c.argTypes.toList with
  | .builtin .len, [x], [t] => (match P.underlying t with
    | some (.slice _) => some (.len x)
    | some .string => some (.lens x)
    | _ => none)
  | .builtin .min, [x, y], _ => some (.mn x y)
  | .builtin .max, [x, y], _ => some (.mx x y)
  | .builtin .append, [s, x], [t, t'] => if t = t' then (match P.underlying t with
    | some (.slice e) => (P.info? e).bind fun i => i.zero.bind fun z => if z.cells.size = i.size ∧ 0 < i.size then some (.app e i.size i.bytes s x) else none
    | _ => none) else (match P.underlying t, P.underlying t' with
    | some (.slice e), some (.int _) => (P.info? e).bind fun i => (zeroT P e).bind fun z => if z.length = P.cellsOf e ∧ 0 < i.size then some (.appZ e z i.bytes s x) else none
    | _, _ => none)
  | .builtin .cap, [x], [t] => (match P.underlying t with
    | some (.slice _) => some (.cap x)
    | _ => none)
  | .builtin .copy, [d, x], [t, t'] => if t = t' then (match P.underlying t with
    | some (.slice e) => (P.info? e).map fun i => .copy i.size d x
    | _ => none) else none
  | .builtin .clear, [x], [t] => (match P.underlying t with
    | some (.slice e) => (zeroT P e).map fun z => .clear z x
    | _ => none)
  | .value (.func f), [x, y], _ => if isOvl P f = true then some (.ovl x y) else none
  | _, _, _ => none

def compileOp0 (P : Program) (own : Bool) (o : Oper) : Option AOp :=
  match o.op with
  | .move x => some (.move x)
  | .assign x => some (.move x)
  | .pick c a b => some (.pick c a b)
  | .alloc t => (zeroT P t).map .alloc
  | .box t x => some (.box x)
  | .build t ps => match P.underlying t, zeroT P t with
    | some (.struct fs), some z => (structPl P fs.toList).bind fun pl => (ps.toList.mapM fun (p : Nat × Operand) => (pl[p.1]?).map fun q => (q.1, q.2, p.2)).map (.build z)
    | some (.array _ e), some z => (P.info? e).map fun ie => .build z (ps.toList.map fun p => (p.1 * ie.size, ie.size, p.2))
    | _, _ => none
  | .buildSlice t len ps => match P.underlying t with
    | some (.slice e) => (zeroT P e).bind fun z => if z.length = P.cellsOf e ∧ len * z.length ≤ 2 ^ 24 ∧ len ≤ 2 ^ 24 then some (if own then .buildO e z len ps.toList else .buildF z len ps.toList) else none
    | _ => none
  | .load t x => (P.underlying t).map fun _ => .load (sizeT P t) (isAggT P t) x
  | .store t p x => (P.underlying t).map fun _ => .store (sizeT P t) p x
  | .nilCheck x => some (.nilck x)
  | .binOp .eql t x y _ => compileEq P false t x y
  | .binOp .neq t x y _ => compileEq P true t x y
  | .binOp op t x y _ => some (.bin op x y)
  | .unOp op _ x => some (.un op x)
  | .convert src dst x => match P.underlying src, P.underlying dst with
    | some _, some (.int k) => some (.conv k x)
    | some .string, some .string => some (.convS x)
    | some (.slice e), some .string => (match P.underlying e with
      | some (.int .u8) => some (.convBS x)
      | _ => none)
    | _, _ => none
  | .makeInterface t x => match P.underlying t with
    | some (.interface _) => none
    | some _ => some (.mkif t x)
    | none => none
  | .makeFunc f first caps => if first.size = 0 then some (.mkfn f caps.toList) else none
  | .makeSlice t l c => match P.underlying t with
    | some (.slice e) => (zeroT P e).bind fun z => if z.length = P.cellsOf e then some (.mksl e z (P.bytesOf e) l c) else none
    | _ => none
  | .slice t x lo hi mx => match P.underlying t with
    | some (.slice e) => if mx.isSome && hi.isNone then none else (P.underlying e).map fun _ => .slc (sizeT P e) x lo hi mx
    | some .string => if mx.isNone then some (.slcs x lo hi) else none
    | _ => none
  | .fieldAddr s x f => match P.underlying s with
    | some (.struct fs) => (fs[f]?).bind fun fd => (P.underlying fd.type).bind fun _ => if sizeT P fd.type ≠ 0 then some (.fieldA fd.offset x) else none
    | _ => none
  | .field s x f => match P.underlying s with
    | some (.struct fs) => (fs[f]?).bind fun fd => (P.underlying fd.type).map fun _ => .field fd.offset (sizeT P fd.type) (isAggT P fd.type) x
    | _ => none
  | .indexAddr t x i => match P.underlying t with
    | some (.slice e) => (P.underlying e).map fun _ => .idxA (sizeT P e) x i
    | some (.array n e) => (P.underlying e).map fun _ => .idxR n (sizeT P e) x i
    | _ => none
  | .index t x i => match P.underlying t with
    | some (.array n e) => (P.underlying e).map fun _ => .idx n (sizeT P e) (isAggT P e) x i
    | some .string => some (.idxs x i)
    | _ => none
  | .extract x i => some (.ext x i)
  | .call c => compileCall P c
  | _ => none
/-- What isn't known becomes an operation that is never done. -/
def compileOp (P : Program) (own : Bool) (o : Oper) : Option AOp :=
  match compileOp0 P own o with
  | some x => some x
  | none => match o.op with
    | .call c => (match c.callee with
      | .value _ => none
      | _ => some .bad)
    | .defer _ => none
    | _ => some .bad

end Go.Ab
