/- The abstract operations, how an operation of the model becomes one, and that it does the same. -/
import Derived.Test.YtdmjloieldhlnaaGreatDoorGA
import Derived.Laws.IdiomRangeMap
import Derived.Laws.BytesArg
import Derived.Lib.AppendZeros
import Derived.Lib.Overlaps
namespace Go.Ab
open Go.RowKit
set_option linter.unusedVariables false
set_option linter.unusedSimpArgs false
inductive AOp where
  | move (x : Operand)
  | pick (c a b : Operand)
  | alloc (z : List AV)
  | box (x : Operand)
  | build (z : List AV) (ps : List (Nat × Nat × Operand))
  | buildF (z : List AV) (len : Nat) (ps : List (Nat × Operand))
  | buildO (e : TypeId) (z : List AV) (len : Nat) (ps : List (Nat × Operand))
  | load (sz : Nat) (ag : Bool) (x : Operand)
  | store (sz : Nat) (p x : Operand)
  | nilck (x : Operand)
  | bin (op : BinOp) (x y : Operand)
  | eqS (neg : Bool) (ks : List FK) (x y : Operand)
  | eqN (neg : Bool) (k : NK) (x : Operand)
  | eqB (neg : Bool) (x y : Operand)
  | un (op : UnOp) (x : Operand)
  | conv (k : IntKind) (x : Operand)
  | mkif (t : TypeId) (x : Operand)
  | mkfn (f : Fn) (caps : List Operand)
  | mkbm (f : Fn) (fs caps : List Operand)
  | mksl (e : TypeId) (z : List AV) (bytes : Nat) (l c : Operand)
  | slc (sz : Nat) (x : Operand) (lo hi mx : Option Operand)
  | slcs (x : Operand) (lo hi : Option Operand)
  | fieldA (off : Nat) (x : Operand)
  | field (off sz : Nat) (ag : Bool) (x : Operand)
  | idxA (sz : Nat) (x i : Operand)
  | idxR (len sz : Nat) (x i : Operand)
  | idx (len sz : Nat) (ag : Bool) (x i : Operand)
  | idxs (x i : Operand)
  | ext (x : Operand) (i : Nat)
  | len (x : Operand)
  | lens (x : Operand)
  | convS (x : Operand)
  | convBS (x : Operand)
  | mn (x y : Operand)
  | mx (x y : Operand)
  | app (e sz bytes : Nat) (s x : Operand)
  | appZ (e : TypeId) (z : List AV) (bytes : Nat) (s n : Operand)
  | cap (x : Operand)
  | copy (sz : Nat) (d x : Operand)
  | clear (z : List AV) (x : Operand)
  | ovl (x y : Operand)
  | m (o : MOp)
  | bad
  deriving Inhabited
def bytesOf : List AV → Option (List UInt8)
  | [] => some []
  | .int .u8 n :: r => (bytesOf r).map (UInt8.ofNat n.toNat :: ·)
  | _ => none
def srcCells (sz : Nat) (h : Heap) (x : AV) (most : Nat) : Option (Nat × List AV) :=
  match x with
  | .oc b off _ s m _ => match hget h b with
    | some (.cells cs) => if s = sz ∧ off + min m most * sz ≤ cs.length then some (min m most, (cs.drop off).take (min m most * sz)) else none
    | _ => none
  | x => match sliceCells h x with
    | some (m, news) => if slSz x sz = true then some (min m most, news.take (min m most * sz)) else none
    | none => none
def copyA (sz : Nat) (h : Heap) (d x : AV) : Option (Nat × Heap) :=
  match d with
  | .os b off _ s dl => (match srcCells sz h x dl, hget h b with
    | some (k, news), some (.cells cs) => if s = sz ∧ off + k * sz ≤ cs.length ∧ 0 < k then some (k, hset h b (.cells (splice cs off news))) else none
    | _, _ => none)
  | .oc b off _ s dl cap => (match srcCells sz h x dl, hget h b with
    | some (k, news), some (.cells cs) => if s = sz ∧ off ≤ cs.length ∧ 0 < k then some (k, hset h b (.cells (splice cs off news))) else none
    | _, _ => none)
  | _ => none
def clearA (z : List AV) (h : Heap) (x : AV) : Option Heap :=
  match x with
  | .oc b off _ s n cap => (match hget h b with
    | some (.cells cs) => if s = z.length ∧ 0 < n ∧ 0 < z.length ∧ off + n * z.length ≤ cs.length then some (hset h b (.cells (splice cs off (List.replicate n z).flatten))) else none
    | _ => none)
  | _ => none
def slBlk : AV → Option Nat
  | .os b _ _ sz n => if 0 < sz ∧ 0 < n then some b else none
  | .oc b _ _ sz n _ => if 0 < sz ∧ 0 < n then some b else none
  | _ => none
def ovA (h : Heap) (x y : AV) : Bool :=
  match slBlk x, slBlk y with
  | some b, some b' => b != b' && (match hget h b, hget h b' with
    | some (.cells _), some (.cells _) => true
    | _, _ => false)
  | _, _ => false
def bnd (env : Env) (o : Option Operand) (d : Nat) : Option Nat :=
  match o with
  | none => some d
  | some x => match oev env x with
    | some (.int _ n) => if 0 ≤ n then some n.toNat else none
    | _ => none
def slcA (sz : Nat) (x : AV) (l h : Nat) (m : Option Nat) : Option AV :=
  match x, m with
  | .lst s es, none => if l ≤ h ∧ h ≤ es.length ∧ s = sz then some (.lst s ((es.take h).drop l)) else none
  | .lst s es, some m => if l ≤ h ∧ h ≤ m ∧ m ≤ es.length ∧ s = sz then (if m = l then some .emp else some (.lst s ((es.take h).drop l))) else none
  | .os b off e s len, none => if l ≤ h ∧ h ≤ len ∧ s = sz then some (.os b (off + l * s) e s (h - l)) else none
  | .os b off e s len, some m => if l = h ∧ h = m ∧ m ≤ len then some .emp else none
  | .oc b off e s len cap, none => if l ≤ h ∧ h ≤ cap ∧ s = sz then some (.oc b (off + l * s) e s (h - l) (cap - l)) else none
  | .oc b off e s len cap, some m => if l ≤ h ∧ h ≤ m ∧ m ≤ cap then some .any else none
  | .nilS, none => if l = 0 ∧ h = 0 then some .nilS else none
  | .nilS, some m => if l = 0 ∧ h = 0 ∧ m = 0 then some .nilS else none
  | .emp, none => if l = 0 ∧ h = 0 then some .emp else none
  | .emp, some m => if l = 0 ∧ h = 0 ∧ m = 0 then some .emp else none
  | _, _ => none
def lenA : AV → Option Nat
  | .lst _ es => some es.length
  | .os _ _ _ _ n => some n
  | .oc _ _ _ _ n _ => some n
  | .nilS => some 0
  | .emp => some 0
  | .ne0 => some 0
  | _ => none
def idxA (sz : Nat) (x : AV) (i : Int) : Option AV :=
  match x with
  | .lst s es => if 0 ≤ i ∧ s = sz then (es[i.toNat]?).map .fp else none
  | .os b off _ s n => if 0 ≤ i ∧ i < n ∧ s = sz then some (.op b (off + i.toNat * s)) else none
  | _ => none
def addA (off : Nat) : AV → Option AV
  | .fp cs => some (.fp (cs.drop off))
  | .op b o => some (.op b (o + off))
  | _ => none
def unA : UnOp → AV → Option AV
  | .neg, .int k n => some (.int k (k.wrap (0 - n)))
  | .xor, .int k n => (bitsA .xor k (if k.signed then -1 else k.max) n).map (.int k)
  | .not, .bool b => some (.bool (!b))
  | _, _ => none
def partsE (env : Env) : List (Nat × Operand) → Option (List (Nat × AV))
  | [] => some []
  | (i, o) :: r => match oev env o, partsE env r with
    | some x, some ys => some ((i, x) :: ys)
    | _, _ => none
def partsE3 (env : Env) : List (Nat × Nat × Operand) → Option (List (Nat × Nat × AV))
  | [] => some []
  | (i, s, o) :: r => match oev env o, partsE3 env r with
    | some x, some ys => some ((i, s, x) :: ys)
    | _, _ => none
def oevs (env : Env) : List Operand → Option (List AV)
  | [] => some []
  | o :: r => match oev env o, oevs env r with
    | some x, some ys => some (x :: ys)
    | _, _ => none
def opEv (o : AOp) (env : Env) (h : Heap) (nx : Nat) : Option (Out × Heap × Nat) :=
  match o with
  | .move x => match oev env x with
    | some y => some (.val y, h, nx)
    | none => none
  | .pick c a b => match oev env c with
    | some (.bool t) => (match (if t then oev env a else oev env b) with
      | some y => some (.val y, h, nx)
      | none => none)
    | _ => none
  | .alloc z => some (.val (.op nx 0), (nx, .cells z) :: h, nx + 1)
  | .box x => match oev env x with
    | some y => if y.plain = true then some (.val (.op nx 0), (nx, .cells (cellsOf y)) :: h, nx + 1) else none
    | none => none
  | .build z ps => match partsE3 env ps with
    | some qs => (match fillA z qs with
      | some r => some (.val (.agg r), h, nx)
      | none => none)
    | none => none
  | .buildF z len ps => match partsE env ps with
    | some qs => (match fillE z.length (List.replicate len z) qs with
      | some es => some (.val (if len = 0 then .emp else .lst z.length es), h, nx)
      | none => none)
    | none => none
  | .buildO e z len ps => match partsE env ps with
    | some qs => (match fillE z.length (List.replicate len z) qs with
      | some es => some (.val (.os nx 0 e z.length len), (nx, .cells es.flatten) :: h, nx + 1)
      | none => none)
    | none => none
  | .load sz ag x => match oev env x with
    | some p => (match ptrCells h p with
      | some cs => (match takeV sz ag cs with
        | some y => some (.val y, h, nx)
        | none => none)
      | none => none)
    | none => none
  | .store sz p x => match oev env p, oev env x with
    | some p, some x => if x.plain = true ∧ (cellsOf x).length = sz then (match storeH h p (cellsOf x) with
        | some h' => some (.skip, h', nx)
        | none => none) else none
    | _, _ => none
  | .nilck x => match oev env x with
    | some (.op b o) => some (.val (.op b o), h, nx)
    | some (.fp cs) => some (.val (.fp cs), h, nx)
    | _ => none
  | .bin op x y => match oev env x, oev env y with
    | some x, some y => (match binA op x y with
      | some r => some (.val r, h, nx)
      | none => none)
    | _, _ => none
  | .eqS neg ks x y => match oev env x, oev env y with
    | some (.agg xs), some (.agg ys) => (match eqL ks xs ys with
      | some r => some (.val (.bool (if neg then !r else r)), h, nx)
      | none => none)
    | _, _ => none
  | .eqN neg k x => match oev env x with
    | some x => (match nilA k x with
      | some r => some (.val (.bool (if neg then !r else r)), h, nx)
      | none => none)
    | _ => none
  | .eqB neg x y => match oev env x, oev env y with
    | some (.bool a), some (.bool b) => some (.val (.bool (if neg then !(a == b) else a == b)), h, nx)
    | _, _ => none
  | .un op x => match oev env x with
    | some x => (match unA op x with
      | some r => some (.val r, h, nx)
      | none => none)
    | none => none
  | .conv k x => match oev env x with
    | some (.int _ n) => some (.val (.int k (k.wrap n)), h, nx)
    | _ => none
  | .mkif t x => match oev env x with
    | some x => some (.val (.ifc t x), h, nx)
    | none => none
  | .mkfn f caps => match oevs env caps with
    | some cs => some (.val (.fn f cs), h, nx)
    | none => none
  | .mkbm f fs caps => match oevs env fs, oevs env caps with
    | some as, some cs => some (.val (.bm f as cs), h, nx)
    | _, _ => none
  | .mksl e z bytes l c => match oev env l, oev env c with
    | some (.int _ l), some (.int _ c) => if 0 ≤ l ∧ l ≤ c ∧ (bytes : Int) * c ≤ 281474976710656 ∧ c ≤ 9223372036854775807 then
        some (.val (.os nx 0 e z.length l.toNat), (nx, .cells (List.replicate l.toNat z).flatten) :: h, nx + 1) else none
    | _, _ => none
  | .slc sz x lo hi mx => match oev env x with
    | some x => (match lenA x with
      | some n => (match bnd env lo 0, bnd env hi n with
        | some l, some hh => (match mx with
          | none => (match slcA sz x l hh none with
            | some r => some (.val r, h, nx)
            | none => none)
          | some m => (match bnd env (some m) 0 with
            | some m => (match slcA sz x l hh (some m) with
              | some r => some (.val r, h, nx)
              | none => none)
            | none => none))
        | _, _ => none)
      | none => none)
    | none => none
  | .slcs x lo hi => match oev env x with
    | some (.str s) => (match bnd env lo 0, bnd env hi s.length with
      | some l, some hh => if l ≤ hh ∧ hh ≤ s.length then some (.val (.str ((s.take hh).drop l)), h, nx) else none
      | _, _ => none)
    | _ => none
  | .fieldA off x => match oev env x with
    | some x => (match addA off x with
      | some r => some (.val r, h, nx)
      | none => none)
    | none => none
  | .field off sz ag x => match oev env x with
    | some (.agg cs) => (match takeV sz ag (cs.drop off) with
      | some r => some (.val r, h, nx)
      | none => none)
    | _ => none
  | .idxA sz x i => match oev env x, oev env i with
    | some x, some (.int _ i) => (match idxA sz x i with
      | some r => some (.val r, h, nx)
      | none => none)
    | _, _ => none
  | .idxR len sz x i => match oev env x, oev env i with
    | some x, some (.int _ i) => if 0 ≤ i ∧ i < len then (match addA (i.toNat * sz) x with
        | some r => some (.val r, h, nx)
        | none => none) else none
    | _, _ => none
  | .idx len sz ag x i => match oev env x, oev env i with
    | some (.agg cs), some (.int _ i) => if 0 ≤ i ∧ i < len then (match takeV sz ag (cs.drop (i.toNat * sz)) with
        | some r => some (.val r, h, nx)
        | none => none) else none
    | _, _ => none
  | .idxs x i => match oev env x, oev env i with
    | some (.str s), some (.int _ i) => if 0 ≤ i then (match s[i.toNat]? with
        | some b => some (.val (.int .u8 b.toNat), h, nx)
        | none => none) else none
    | _, _ => none
  | .ext x i => match oev env x with
    | some (.tup cs) => (match cs[i]? with
      | some y => some (.val y, h, nx)
      | none => none)
    | _ => none
  | .len x => match oev env x with
    | some x => (match lenA x with
      | some n => some (.val (.int .i64 n), h, nx)
      | none => none)
    | none => none
  | .lens x => match oev env x with
    | some (.str s) => some (.val (.int .i64 s.length), h, nx)
    | _ => none
  | .convBS x => match oev env x with
    | some s => if slSz s 1 = true then (match sliceCells h s with
      | some (_, cs) => (match bytesOf cs with
        | some bs => some (.val (.str bs), h, nx)
        | none => none)
      | none => none) else none
    | none => none
  | .convS x => match oev env x with
    | some (.str s) => some (.val (.str s), h, nx)
    | _ => none
  | .mn x y => match oev env x, oev env y with
    | some (.int k a), some (.int k' b) => if k = k' then some (.val (.int k (if b < a then b else a)), h, nx) else none
    | _, _ => none
  | .mx x y => match oev env x, oev env y with
    | some (.int k a), some (.int k' b) => if k = k' then some (.val (.int k (if b > a then b else a)), h, nx) else none
    | _, _ => none
  | .app e sz bytes s x => match oev env s, oev env x with
    | some s, some x => (match appA e sz bytes h nx s x with
      | some (r, h', n') => some (.val r, h', n')
      | none => none)
    | _, _ => none
  | .appZ e z bytes s n => match oev env s, oev env n with
    | some .nilS, some (.int _ l) => if 0 < l ∧ l.toNat * bytes ≤ 140737488355328 ∧ l.toNat ≤ maxLen then some (.val (.os nx 0 e z.length l.toNat), (nx, .cells (List.replicate l.toNat z).flatten) :: h, nx + 1) else none
    | some (.oc b off e' sz' len cap), some (.int _ l) => (match hget h b with
      | some (.cells cs) => if off = 0 ∧ e' = e ∧ sz' = z.length ∧ 0 < l ∧ (cap : Int) < len + l ∧ len * sz' ≤ cs.length ∧ (len + l.toNat) * bytes ≤ 140737488355328 ∧ len + l.toNat ≤ maxLen then
          some (.val (.os nx 0 e z.length (len + l.toNat)), (nx, .cells (cs.take (len * sz') ++ (List.replicate l.toNat z).flatten)) :: h, nx + 1) else none
      | _ => none)
    | _, _ => none
  | .cap x => match oev env x with
    | some .nilS => some (.val (.int .i64 0), h, nx)
    | some .emp => some (.val (.int .i64 0), h, nx)
    | some (.oc _ _ _ _ _ c) => some (.val (.int .i64 c), h, nx)
    | _ => none
  | .copy sz d x => match oev env d, oev env x with
    | some d, some x => (match copyA sz h d x with
      | some (k, h') => some (.val (.int .i64 (k : Nat)), h', nx)
      | none => none)
    | _, _ => none
  | .clear z x => match oev env x with
    | some x => (match clearA z h x with
      | some h' => some (.val (.tup []), h', nx)
      | none => none)
    | none => none
  | .ovl x y => match oev env x, oev env y with
    | some x, some y => if ovA h x y = true then some (.val (.bool false), h, nx) else none
    | _, _ => none
  | .m o => mopEv o env h nx
  | .bad => none
def isNilConst : NK → Operand → Bool
  | .ptr, .const (.pointer none) => true
  | .sl, .const (.slice none 0 0) => true
  | .mp, .const (.map none) => true
  | .fn, .const .nilFunc => true
  | .ifc, .const .nilIface => true
  | _, _ => false
def nilK (P : Program) (t : TypeId) : Option NK := match P.underlying t with
  | some (.pointer _) => some .ptr
  | some (.slice _) => some .sl
  | some (.map _ _) => some .mp
  | some (.func _ _ _) => some .fn
  | some (.interface _) => some .ifc
  | _ => none
def compileEq (P : Program) (neg : Bool) (t : TypeId) (x y : Operand) : Option AOp :=
  match P.underlying t with
  | some (.int _) => some (.bin (if neg then .neq else .eql) x y)
  | some .string => some (.bin (if neg then .neq else .eql) x y)
  | some .bool => some (.eqB neg x y)
  | some (.struct _) => (flatT P t).map fun ks => .eqS neg ks x y
  | some (.array _ _) => (flatT P t).map fun ks => .eqS neg ks x y
  | _ => (nilK P t).bind fun k => if isNilConst k y = true then some (.eqN neg k x) else if isNilConst k x = true then some (.eqN neg k y) else none
def isOvl (P : Program) (f : FuncId) : Bool := match P.funcs[f]? with
  | some fn => fn.body.isNone && !(fn.name == "runtime.NumGoroutine") && (Extern.allNextRows.lookup fn.name).isNone && (Extern.allGenericRows.lookup fn.name).isNone && (Extern.allTypedRows.lookup fn.name).isNone && (Extern.allRows.lookup fn.name).isNone && fn.origin == "slices.overlaps" &&
    (match fn.params.toList, fn.resultTypes.toList with
    | [t, t'], [_] => t == t' && (match P.underlying t with
      | some (.slice e) => (P.info? e).isSome
      | _ => false)
    | _, _ => false)
  | none => false
def compileCall (P : Program) (c : Call) : Option AOp :=
  match c.callee, c.args.toList, c.argTypes.toList with
  | .builtin .len, [x], [t] => (match P.underlying t with
    | some (.slice _) => some (.len x)
    | some .string => some (.lens x)
    | _ => none)
  | .builtin .min, [x, y], _ => some (.mn x y)
  | .builtin .max, [x, y], _ => some (.mx x y)
  | .builtin .append, [s, x], [t, t'] => if t = t' then (match P.underlying t with
    | some (.slice e) => (P.info? e).bind fun i => i.zero.bind fun z => if z.cells.size = i.size ∧ 0 < i.size then some (.app e i.size i.bytes s x) else none
    | _ => none) else (match P.underlying t, P.underlying t' with
    | some (.slice e), some (.int _) => (P.info? e).bind fun i => (zeroT P e).bind fun z => if z.length = P.cellsOf e ∧ 0 < i.size then some (.appZ e z i.bytes s x) else none
    | _, _ => none)
  | .builtin .cap, [x], [t] => (match P.underlying t with
    | some (.slice _) => some (.cap x)
    | _ => none)
  | .builtin .copy, [d, x], [t, t'] => if t = t' then (match P.underlying t with
    | some (.slice e) => (P.info? e).map fun i => .copy i.size d x
    | _ => none) else none
  | .builtin .clear, [x], [t] => (match P.underlying t with
    | some (.slice e) => (zeroT P e).map fun z => .clear z x
    | _ => none)
  | .value (.func f), [x, y], _ => if isOvl P f = true then some (.ovl x y) else none
  | _, _, _ => none
def compileOp0 (P : Program) (own : Bool) (o : Oper) : Option AOp :=
  match o.op with
  | .move x => some (.move x)
  | .assign x => some (.move x)
  | .pick c a b => some (.pick c a b)
  | .alloc t => (zeroT P t).map .alloc
  | .box t x => some (.box x)
  | .build t ps => match P.underlying t, zeroT P t with
    | some (.struct fs), some z => (structPl P fs.toList).bind fun pl => (ps.toList.mapM fun (p : Nat × Operand) => (pl[p.1]?).map fun q => (q.1, q.2, p.2)).map (.build z)
    | some (.array _ e), some z => (P.info? e).map fun ie => .build z (ps.toList.map fun p => (p.1 * ie.size, ie.size, p.2))
    | _, _ => none
  | .buildSlice t len ps => match P.underlying t with
    | some (.slice e) => (zeroT P e).bind fun z => if z.length = P.cellsOf e ∧ len * z.length ≤ 2 ^ 24 ∧ len ≤ 2 ^ 24 then some (if own then .buildO e z len ps.toList else .buildF z len ps.toList) else none
    | _ => none
  | .load _ (.global _) => none
  | .load t x => (P.underlying t).map fun _ => .load (sizeT P t) (isAggT P t) x
  | .store t p x => (P.underlying t).map fun _ => .store (sizeT P t) p x
  | .nilCheck x => some (.nilck x)
  | .binOp .eql t x y _ => compileEq P false t x y
  | .binOp .neq t x y _ => compileEq P true t x y
  | .binOp op t x y _ => some (.bin op x y)
  | .unOp op _ x => some (.un op x)
  | .convert src dst x => match P.underlying src, P.underlying dst with
    | some _, some (.int k) => some (.conv k x)
    | some .string, some .string => some (.convS x)
    | some (.slice e), some .string => (match P.underlying e with
      | some (.int .u8) => some (.convBS x)
      | _ => none)
    | _, _ => none
  | .makeInterface t x => match P.underlying t with
    | some (.interface _) => none
    | some _ => some (.mkif t x)
    | none => none
  | .makeFunc f first caps => if first.size = 0 then some (.mkfn f caps.toList) else some (.mkbm f first.toList caps.toList)
  | .makeSlice t l c => match P.underlying t with
    | some (.slice e) => (zeroT P e).bind fun z => if z.length = P.cellsOf e then some (.mksl e z (P.bytesOf e) l c) else none
    | _ => none
  | .slice t x lo hi mx => match P.underlying t with
    | some (.slice e) => if mx.isSome && hi.isNone then none else (P.underlying e).map fun _ => .slc (sizeT P e) x lo hi mx
    | some .string => if mx.isNone then some (.slcs x lo hi) else none
    | _ => none
  | .fieldAddr s x f => match P.underlying s with
    | some (.struct fs) => (fs[f]?).bind fun fd => (P.underlying fd.type).bind fun _ => if sizeT P fd.type ≠ 0 then some (.fieldA fd.offset x) else none
    | _ => none
  | .field s x f => match P.underlying s with
    | some (.struct fs) => (fs[f]?).bind fun fd => (P.underlying fd.type).map fun _ => .field fd.offset (sizeT P fd.type) (isAggT P fd.type) x
    | _ => none
  | .indexAddr _ (.global _) _ => none
  | .indexAddr t x i => match P.underlying t with
    | some (.slice e) => (P.underlying e).map fun _ => .idxA (sizeT P e) x i
    | some (.array n e) => (P.underlying e).map fun _ => .idxR n (sizeT P e) x i
    | _ => none
  | .index t x i => match P.underlying t with
    | some (.array n e) => (P.underlying e).map fun _ => .idx n (sizeT P e) (isAggT P e) x i
    | some .string => some (.idxs x i)
    | _ => none
  | .extract x i => some (.ext x i)
  | .call c => compileCall P c
  | _ => none
def compileOp (P : Program) (own : Bool) (o : Oper) : Option AOp :=
  match compileOp0 P own o with
  | some x => some x
  | none => match compileM P o.op with
  | some x => some (.m x)
  | none => match o.op with
    | .call c => (match c.callee with
      | .value _ => none
      | _ => some .bad)
    | .defer _ => none
    | .next _ false => none
    | _ => some .bad
end Go.Ab
namespace Go.Ab
open Go.RowKit
set_option linter.unusedVariables false
set_option linter.unusedSimpArgs false
def outR (K : Wd) (nx : Nat) : Out → Next → Prop
  | .val x, .value v => VR K nx x v
  | .skip, .skip => True
  | _, _ => False
def Snd (P : Program) (o : Oper) (ao : AOp) : Prop :=
  ∀ (w0 : World) (K : Wd) (h : Heap) (nx : Nat) (env : Env) (a : Act) (out : Out) (h' : Heap) (nx' : Nat), Good w0 K h nx → EnvR K nx env a.tmps → opEv ao env h nx = some (out, h', nx') →
    ∃ K' r, (execOp a.eval o).run P K.w = .ok r K'.w ∧ Ext K nx K' nx' ∧ Good w0 K' h' nx' ∧ outR K' nx' out r
section
variable {P : Program} {o : Oper}
theorem snd_val {w0 : World} {K : Wd} {h : Heap} {nx : Nat} (g : Good w0 K h nx) {a : Act} {x : AV} {v : Value} (hr : (execOp a.eval o).run P K.w = .ok (.value v) K.w) (hv : VR K nx x v) :
    ∃ K' r, (execOp a.eval o).run P K.w = .ok r K'.w ∧ Ext K nx K' nx ∧ Good w0 K' h nx ∧ outR K' nx (.val x) r := ⟨K, _, hr, Ext.refl _ _, g, hv⟩
theorem snd_move {x : Operand} (ho : o.op = .move x ∨ o.op = .assign x) : Snd P o (.move x) := by
  intro w0 K h nx env a out h' nx' g he hev
  simp only [opEv] at hev
  split at hev
  · rename_i y hy
    cases hev
    exact snd_val g (v := a.eval x) (by rcases ho with ho | ho <;> simp [execOp, ho]) (oev_sound he hy)
  · cases hev
theorem snd_pick {c x y : Operand} (ho : o.op = .pick c x y) : Snd P o (.pick c x y) := by
  intro w0 K h nx env a out h' nx' g he hev
  simp only [opEv] at hev
  split at hev
  · rename_i t ht
    split at hev
    · rename_i z hz
      cases hev
      have hc := oev_sound he ht
      generalize hcv : a.eval c = cv at hc
      cases hc
      refine snd_val g (v := if t then a.eval x else a.eval y) (by simp [execOp, ho, hcv, asBool]) ?_
      cases t
      · exact oev_sound he hz
      · exact oev_sound he hz
    · cases hev
  · cases hev
theorem snd_alloc {t : TypeId} {z : List AV} (ho : o.op = .alloc t) (hz : zeroT P t = some z) : Snd P o (.alloc z) := by
  intro w0 K h nx env a out h' nx' g he hev
  simp only [opEv] at hev
  cases hev
  obtain ⟨K', v, h1, h2, h3, h4⟩ := alloc_sound (P := P) g hz
  exact ⟨K', .value v, by simp [execOp, ho, h1], h2, h3, h4⟩
theorem snd_box {t : TypeId} {x : Operand} (ho : o.op = .box t x) : Snd P o (.box x) := by
  intro w0 K h nx env a out h' nx' g he hev
  simp only [opEv] at hev
  split at hev
  · rename_i y hy
    split at hev
    · rename_i hp
      cases hev
      obtain ⟨K', v, h1, h2, h3, h4⟩ := box_sound (P := P) g t hp (oev_sound he hy)
      exact ⟨K', .value v, by simp [execOp, ho, h1], h2, h3, h4⟩
    · cases hev
  · cases hev
theorem partsE3_laid {K : Wd} {nx : Nat} {env : Env} {a : Act} (he : EnvR K nx env a.tmps) {place : Nat → Option (Nat × Nat)} : ∀ (ps : List (Nat × Operand)) (qs : List (Nat × Nat × Operand)) (rs : List (Nat × Nat × AV)),
    ps.mapM (fun (p : Nat × Operand) => (place p.1).map fun q => (q.1, q.2, p.2)) = some qs → partsE3 env qs = some rs → Laid K nx place (ps.map fun p => (p.1, a.eval p.2)) rs
  | [], qs, rs, h1, h2 => by
    simp at h1; subst h1
    simp only [partsE3, Option.some.injEq] at h2; subst h2
    exact trivial
  | (i, x) :: ps, qs, rs, h1, h2 => by
    simp only [List.mapM_cons, Option.bind_eq_bind, Option.bind_eq_some_iff, Option.map_eq_some_iff, Option.pure_def, Option.some.injEq] at h1
    obtain ⟨q, ⟨pl, hpl, rfl⟩, qs', hqs, rfl⟩ := h1
    simp only [partsE3] at h2
    split at h2
    · rename_i y ys hy hys
      simp only [Option.some.injEq] at h2; subst h2
      exact ⟨⟨hpl, oev_sound he hy⟩, partsE3_laid he ps qs' ys hqs hys⟩
    · cases h2
theorem mapM_places {pl : Nat → Option (Nat × Nat)} {f : Nat → Nat × Nat} (hf : ∀ i, pl i = some (f i)) : ∀ (ps : List (Nat × Operand)), ps.mapM (fun (p : Nat × Operand) => (pl p.1).map fun q => (q.1, q.2, p.2)) = some (ps.map fun p => ((f p.1).1, (f p.1).2, p.2))
  | [] => by simp
  | p :: ps => by rw [List.mapM_cons, mapM_places hf ps]; simp [hf]
theorem snd_build_struct {t : TypeId} {ps : Array (Nat × Operand)} {fs : Array Field} {z : List AV} {pl : List (Nat × Nat)} {qs : List (Nat × Nat × Operand)} (ho : o.op = .build t ps) (hu : P.underlying t = some (.struct fs)) (hz : zeroT P t = some z)
    (hpl : structPl P fs.toList = some pl) (hqs : ps.toList.mapM (fun (p : Nat × Operand) => (pl[p.1]?).map fun q => (q.1, q.2, p.2)) = some qs) : Snd P o (.build z qs) := by
  intro w0 K h nx env a out h' nx' g he hev
  simp only [opEv] at hev
  split at hev
  · rename_i rs hrs
    split at hev
    · rename_i r hr
      cases hev
      have hl := partsE3_laid he (place := (pl[·]?)) ps.toList qs rs hqs hrs
      obtain ⟨v, h1, h2⟩ := build_struct (K := K) hu hz hpl (parts := ps.map fun (i, x) => (i, a.eval x)) (qs := rs) (by simpa using hl) hr
      exact snd_val g (v := v) (by simp only [execOp, ho, Sem.run_bind, h1]; rfl) h2
    · cases hev
  · cases hev
theorem snd_build_array {t e : TypeId} {n : Nat} {ps : Array (Nat × Operand)} {z : List AV} {ie : TypeInfo} (ho : o.op = .build t ps) (hu : P.underlying t = some (.array n e)) (hz : zeroT P t = some z)
    (hie : P.info? e = some ie) : Snd P o (.build z (ps.toList.map fun p => (p.1 * ie.size, ie.size, p.2))) := by
  intro w0 K h nx env a out h' nx' g he hev
  simp only [opEv] at hev
  split at hev
  · rename_i rs hrs
    split at hev
    · rename_i r hr
      cases hev
      have hl := partsE3_laid he (place := fun i => some (i * ie.size, ie.size)) ps.toList _ rs (mapM_places (pl := fun i => some (i * ie.size, ie.size)) (f := fun i => (i * ie.size, ie.size)) (fun i => rfl) ps.toList) hrs
      obtain ⟨v, h1, h2⟩ := build_array (K := K) hu hz hie (parts := ps.map fun (i, x) => (i, a.eval x)) (qs := rs) (by simpa using hl) hr
      exact snd_val g (v := v) (by simp only [execOp, ho, Sem.run_bind, h1]; rfl) h2
    · cases hev
  · cases hev
theorem partsE_laid {K : Wd} {nx : Nat} {env : Env} {a : Act} (he : EnvR K nx env a.tmps) (sz : Nat) : ∀ (ps : List (Nat × Operand)) (rs : List (Nat × AV)), partsE env ps = some rs →
    Laid K nx (fun i => some (i * sz, sz)) (ps.map fun p => (p.1, a.eval p.2)) (rs.map fun p => (p.1 * sz, sz, p.2))
  | [], rs, h2 => by
    simp only [partsE, Option.some.injEq] at h2; subst h2
    exact trivial
  | (i, x) :: ps, rs, h2 => by
    simp only [partsE] at h2
    split at h2
    · rename_i y ys hy hys
      simp only [Option.some.injEq] at h2; subst h2
      exact ⟨⟨rfl, oev_sound he hy⟩, partsE_laid he sz ps ys hys⟩
    · cases h2
theorem snd_buildF {t e : TypeId} {len : Nat} {ps : Array (Nat × Operand)} {z : List AV} (ho : o.op = .buildSlice t len ps) (hu : P.underlying t = some (.slice e)) (hz : zeroT P e = some z)
    (hzl : z.length = P.cellsOf e) (hsm : len * z.length ≤ 2 ^ 24) (hln : len ≤ 2 ^ 24) : Snd P o (.buildF z len ps.toList) := by
  intro w0 K h nx env a out h' nx' g he hev
  simp only [opEv] at hev
  split at hev
  · rename_i rs hrs
    split at hev
    · rename_i es hr
      cases hev
      have hl := partsE_laid he z.length ps.toList rs hrs
      obtain ⟨c, h1, h2, h3, h4⟩ := run_buildSlice (K := K) hu hz hzl hsm (parts := ps.map fun (i, x) => (i, a.eval x)) (qs := rs) (by simpa using hl) hr
      have hmx : es.length ≤ maxLen := by rw [h3]; simp only [maxLen]; omega
      obtain ⟨k1, k2, k3⟩ := newZ_sound g h2 h1 e hmx h3.symm []
      rw [List.append_nil] at k1 k2 k3
      refine ⟨_, .value _, by simp only [execOp, ho, Sem.run_bind, h4]; rfl, k2, k1, ?_⟩
      have k4 := k3 len (Nat.le_refl _) (by rw [h3] at hmx; exact hmx)
      by_cases h0 : len = 0
      · rw [if_pos h0]; subst h0; exact .emp _
      · rw [if_neg h0]; exact k4
    · cases hev
  · cases hev
theorem snd_buildO {t e : TypeId} {len : Nat} {ps : Array (Nat × Operand)} {z : List AV} (ho : o.op = .buildSlice t len ps) (hu : P.underlying t = some (.slice e)) (hz : zeroT P e = some z)
    (hzl : z.length = P.cellsOf e) (hsm : len * z.length ≤ 2 ^ 24) (hln : len ≤ 2 ^ 24) : Snd P o (.buildO e z len ps.toList) := by
  intro w0 K h nx env a out h' nx' g he hev
  simp only [opEv] at hev
  split at hev
  · rename_i rs hrs
    split at hev
    · rename_i es hr
      cases hev
      have hl := partsE_laid he z.length ps.toList rs hrs
      obtain ⟨c, h1, h2, h3, h4⟩ := run_buildSlice (K := K) hu hz hzl hsm (parts := ps.map fun (i, x) => (i, a.eval x)) (qs := rs) (by simpa using hl) hr
      have hcl : c.length = len * z.length := by rw [h1.len, flatten_length es h2, h3]
      have gn := new_sound g (cs := es.flatten) (c := c.toArray) (by rw [List.size_toArray, h1.len]; exact Nat.le_refl _) (by rw [← h1.len]; simpa using h1) e
      refine ⟨K.alloc nx (.cells c.toArray e (0, 0)), .value _, by simp only [execOp, ho, Sem.run_bind, h4]; rfl, Ext.alloc g _, gn, ?_⟩
      refine .os nx 0 e z.length len _ len len rfl (by omega) (Nat.le_refl _) (by simp only [maxLen]; omega) (fun _ => by simp [Wd.alloc]) ⟨c.toArray, ?_, by simp [hcl]⟩
      have : (K.alloc nx (.cells c.toArray e (0, 0))).m nx = K.w.heap.size := by simp [Wd.alloc]
      rw [this]; exact alloc_new _ _
    · cases hev
  · cases hev
theorem snd_load {t : TypeId} {d : TypeDesc} {x : Operand} (ho : o.op = .load t x) (ht : P.underlying t = some d) : Snd P o (.load (sizeT P t) (isAggT P t) x) := by
  intro w0 K h nx env a out h' nx' g he hev
  simp only [opEv] at hev
  split at hev
  · rename_i p hp
    split at hev
    · rename_i cs hcs
      split at hev
      · rename_i y hy
        cases hev
        obtain ⟨u, h1, h2⟩ := load_sound g ht hcs hy (oev_sound he hp)
        exact snd_val g (v := u) (by simp [execOp, ho, h1]) h2
      · cases hev
    · cases hev
  · cases hev
theorem snd_store {t : TypeId} {d : TypeDesc} {p x : Operand} (ho : o.op = .store t p x) (ht : P.underlying t = some d) : Snd P o (.store (sizeT P t) p x) := by
  intro w0 K h nx env a out h' nx' g he hev
  simp only [opEv] at hev
  split at hev
  · rename_i p' x' hp hx
    split at hev
    · rename_i hc
      split at hev
      · rename_i h2 hst
        cases hev
        obtain ⟨K', h1, h3, h4⟩ := store_sound (P := P) g ht hc.1 hc.2 hst (oev_sound he hp) (oev_sound he hx)
        exact ⟨K', .skip, by simp [execOp, ho, h1], h3, h4, trivial⟩
      · cases hev
    · cases hev
  · cases hev
theorem snd_nilck {x : Operand} (ho : o.op = .nilCheck x) : Snd P o (.nilck x) := by
  intro w0 K h nx env a out h' nx' g he hev
  simp only [opEv] at hev
  split at hev
  · rename_i b off hx
    cases hev
    have hv := oev_sound he hx
    generalize hcv : a.eval x = cv at hv
    cases hv with
    | op _ _ hb ad ha => exact snd_val g (v := .pointer (some ad)) (by simp [execOp, ho, hcv]) (.op b off hb ad ha)
  · rename_i cs hx
    cases hev
    have hv := oev_sound he hx
    generalize hcv : a.eval x = cv at hv
    cases hv with
    | fp _ ad c h1 hr h => exact snd_val g (v := .pointer (some ad)) (by simp [execOp, ho, hcv]) (.fp cs ad c h1 hr h)
  · cases hev
theorem snd_bin {op : BinOp} {t t' : TypeId} {x y : Operand} (ho : o.op = .binOp op t x y t') : Snd P o (.bin op x y) := by
  intro w0 K h nx env a out h' nx' g he hev
  simp only [opEv] at hev
  split at hev
  · rename_i x' y' hx hy
    split at hev
    · rename_i r hr
      cases hev
      obtain ⟨z, h1, h2⟩ := binA_sound (P := P) (t := t) (ox := x) (oy := y) hr (oev_sound he hx) (oev_sound he hy)
      refine snd_val g (v := z) ?_ h2
      rw [execOp, ho]
      show (do let v ← (do eqGuard op t x y (a.eval x) (a.eval y); binOp op t (a.eval x) (a.eval y) : Sem Value); pure (Next.value v)).run P K.w = _
      rw [Sem.run_bind, h1]; rfl
    · cases hev
  · cases hev
theorem snd_eqS {neg : Bool} {t t' : TypeId} {x y : Operand} {ks : List FK} (ho : o.op = .binOp (if neg then .neq else .eql) t x y t') (hk : flatT P t = some ks) : Snd P o (.eqS neg ks x y) := by
  intro w0 K h nx env a out h' nx' g he hev
  simp only [opEv] at hev
  split at hev
  · rename_i xs ys hx hy
    split at hev
    · rename_i r hr
      cases hev
      have h1 := eqS_sound (P := P) neg (ox := x) (oy := y) hk hr (oev_sound he hx) (oev_sound he hy)
      refine snd_val g (v := .bool (if neg then !r else r)) ?_ (.bool _)
      rw [execOp, ho]
      show (do let v ← (do eqGuard (if neg then .neq else .eql) t x y (a.eval x) (a.eval y); binOp (if neg then .neq else .eql) t (a.eval x) (a.eval y) : Sem Value); pure (Next.value v)).run P K.w = _
      rw [Sem.run_bind, h1]; rfl
    · cases hev
  · cases hev
theorem eqn_core {neg : Bool} {t : TypeId} {u v : Value} {ox oy : Operand} {w : World} {b : Bool} (hg : ∀ op, (eqGuard op t ox oy u v).run P w = .ok () w) (h1 : binOp .eql t u v = (do let r ← Op.equal t u v; pure (.bool r)))
    (h2 : binOp .neq t u v = (do let r ← Op.equal t u v; pure (.bool (!r)))) (he : ∀ d, (Op.equalIn (d + 1) t u v).run P w = .ok b w) :
    (do eqGuard (if neg then .neq else .eql) t ox oy u v; binOp (if neg then .neq else .eql) t u v : Sem Value).run P w = .ok (.bool (if neg then !b else b)) w := by
  have hq : (Op.equal t u v).run P w = .ok b w := he 9999
  rw [Sem.run_bind, hg]
  cases neg
  · simp only [Bool.false_eq_true, if_false, Result.andThen_ok, h1, Sem.run_bind, hq, Sem.run_pure]
  · simp only [if_true, Result.andThen_ok, h2, Sem.run_bind, hq, Sem.run_pure]
theorem eqGuard_nil {op : BinOp} {t : TypeId} {a : Act} {ox oy c : Operand} {w : World} {v : Value} (hxy : ox = c ∨ oy = c) (hc : c = .const v) : (eqGuard op t ox oy .nilIface .nilIface).run P w = .ok () w := by
  subst hc
  cases op <;> (rcases hxy with rfl | rfl) <;> simp [eqGuard]
theorem nil_const {k : NK} {c : Operand} (h : isNilConst k c = true) : (k = .ptr ∧ c = .const (.pointer none)) ∨ (k = .sl ∧ c = .const (.slice none 0 0)) ∨ (k = .mp ∧ c = .const (.map none)) ∨ (k = .fn ∧ c = .const .nilFunc) ∨ (k = .ifc ∧ c = .const .nilIface) := by
  unfold isNilConst at h
  split at h <;> first | (simp; done) | cases h
set_option maxHeartbeats 4000000 in
theorem nil_eq {K : Wd} {nx : Nat} {t : TypeId} {k : NK} (hk : nilK P t = some k) {x : AV} {r : Bool} {u v : Value} (h : nilA k x = some r) (hv : VR K nx x u) {ox oy c : Operand} (hc : isNilConst k c = true) (a : Act)
    (hcv : v = a.eval c) (neg : Bool) (hxy : ox = c ∨ oy = c) :
    ((do eqGuard (if neg then .neq else .eql) t ox oy u v; binOp (if neg then .neq else .eql) t u v : Sem Value).run P K.w = .ok (.bool (if neg then !r else r)) K.w) ∧
    ((do eqGuard (if neg then .neq else .eql) t ox oy v u; binOp (if neg then .neq else .eql) t v u : Sem Value).run P K.w = .ok (.bool (if neg then !r else r)) K.w) := by
  rcases nil_const hc with ⟨rfl, rfl⟩ | ⟨rfl, rfl⟩ | ⟨rfl, rfl⟩ | ⟨rfl, rfl⟩ | ⟨rfl, rfl⟩ <;> simp only [Act.eval] at hcv <;> subst hcv
  all_goals
    unfold nilK at hk
    split at hk <;> first | (cases hk; done) | skip
    rename_i hu
    unfold nilA at h
    split at h <;> first | (cases h; done) | contradiction | (simp only [Option.some.injEq] at h; subst h)
  all_goals cases hv
  all_goals first
    | contradiction
    | (refine ⟨eqn_core (fun op => eqGuard_nil (a := a) hxy rfl) rfl rfl ?_, eqn_core (fun op => eqGuard_nil (a := a) hxy rfl) rfl rfl ?_⟩ <;> (intro d; simp [Op.equalIn, run_underlying hu]))
    | (refine ⟨eqn_core (fun op => eqGuard_plain op t ox oy K.w ?_ ?_) rfl rfl ?_, eqn_core (fun op => eqGuard_plain op t ox oy K.w ?_ ?_) rfl rfl ?_⟩ <;> first | (intro c; simp; done) | (simp; done) | (intro d; simp [Op.equalIn, run_underlying hu]))
theorem snd_eqN {neg : Bool} {t t' : TypeId} {x y w : Operand} {k : NK} (ho : o.op = .binOp (if neg then .neq else .eql) t x y t') (hn : nilK P t = some k) (hz : (w = x ∧ isNilConst k y = true) ∨ (w = y ∧ isNilConst k x = true)) : Snd P o (.eqN neg k w) := by
  intro w0 K h nx env a out h' nx' g he hev
  simp only [opEv] at hev
  split at hev
  · rename_i z' hz'
    split at hev
    · rename_i r hr
      cases hev
      have hv := oev_sound he hz'
      refine snd_val g (v := .bool (if neg then !r else r)) ?_ (.bool _)
      rw [execOp, ho]
      show (do let v ← (do eqGuard (if neg then .neq else .eql) t x y (a.eval x) (a.eval y); binOp (if neg then .neq else .eql) t (a.eval x) (a.eval y) : Sem Value); pure (Next.value v)).run P K.w = _
      rcases hz with ⟨rfl, hc⟩ | ⟨rfl, hc⟩
      · rw [Sem.run_bind, (nil_eq hn hr hv hc a rfl neg (.inr rfl)).1]; rfl
      · rw [Sem.run_bind, (nil_eq hn hr hv hc a rfl neg (.inl rfl)).2]; rfl
    · cases hev
  · cases hev
end
end Go.Ab
namespace Go.Ab
open Go.RowKit
set_option linter.unusedVariables false
set_option linter.unusedSimpArgs false
section
variable {P : Program}
theorem zval_run {t : TypeId} {z : AV} (h : zval P t = some z) (w : World) : ∃ u, (zeroValue t).run P w = .ok u w ∧ ∀ (K : Wd) (nx : Nat), VR K nx z u := by
  unfold zval at h
  obtain ⟨u, hu, hz⟩ := Option.bind_eq_some_iff.1 h
  obtain ⟨i, hi, hv⟩ := Option.bind_eq_some_iff.1 hu
  exact ⟨u, by simp [zeroValue, typeInfo, hi, hv], fun K nx => ofV_sound hz⟩
theorem key_desc {t : TypeId} {f : FK} (h : fkT P t = some f) : ∃ d, P.underlying t = some d ∧ ((f = .int ∧ ∃ k, d = .int k) ∨ (f = .bool ∧ d = .bool) ∨ (f = .str ∧ d = .string)) := by
  unfold fkT at h
  split at h <;> first | (cases h; done) | skip
  · rename_i k hq; cases h; exact ⟨_, hq, .inl ⟨rfl, k, rfl⟩⟩
  · rename_i hq; cases h; exact ⟨_, hq, .inr (.inl ⟨rfl, rfl⟩)⟩
  · rename_i hq; cases h; exact ⟨_, hq, .inr (.inr ⟨rfl, rfl⟩)⟩
theorem same_sound {t : TypeId} {f : FK} (hf : fkT P t = some f) {d : TypeDesc} (hd : P.underlying t = some d) {K : Wd} {nx : Nat} {x y : AV} {u v : Value} {r : Bool} (h : eqC f x y = some r) (hu : VR K nx x u) (hv : VR K nx y v) : Instr.sameNow d u v = some r ∧ (r = true → ∀ n, Instr.sameBits n v u = true) := by
  obtain ⟨d', hd', hk⟩ := key_desc hf
  rw [hd] at hd'; cases hd'
  rcases hk with ⟨rfl, k, rfl⟩ | ⟨rfl, rfl⟩ | ⟨rfl, rfl⟩
  · unfold eqC at h
    split at h <;> first | (cases h; done) | (rename_i he; cases he; done) | skip
    split at h
    · rename_i hk
      cases h; subst hk
      cases hu; cases hv
      refine ⟨by simp [Instr.sameNow, beqI], fun hr n => ?_⟩
      have := of_decide_eq_true hr
      subst this
      cases n <;> simp [Instr.sameBits]
    · cases h
  · unfold eqC at h
    split at h <;> first | (cases h; done) | (rename_i he; cases he; done) | skip
    cases h
    cases hu; cases hv
    refine ⟨by simp [Instr.sameNow], fun hr n => ?_⟩
    cases n <;> (simp only [Instr.sameBits]; simpa using (eq_comm.1 (by simpa using hr)))
  · unfold eqC at h
    split at h <;> first | (cases h; done) | (rename_i he; cases he; done) | skip
    cases h
    cases hu with
    | str _ s hs =>
    cases hv with
    | str _ s' hs' =>
    subst hs; subst hs'
    have e : (s == s') = (s.data.toList == s'.data.toList) := by simp [beq_toListBytes, toList_data]
    refine ⟨by simp only [Instr.sameNow, e], fun hr n => ?_⟩
    have h1 : (s == s') = true := by rw [e]; exact hr
    have h2 : s'.data.toList = s.data.toList := by simpa using (eq_comm.1 (by simpa using hr))
    have h3 : (s' == s) = true := by simp [beq_toListBytes, toList_data, h2]
    cases n <;> (simp only [Instr.sameBits]; exact h3)
theorem find_sound {t : TypeId} {f : FK} (hf : fkT P t = some f) {d : TypeDesc} (hd : P.underlying t = some d) {K : Wd} {nx : Nat} {x : AV} {u : Value} (hu : VR K nx x u) : ∀ (es : List (AV × AV)) (en : List MapEntry) (i : Nat) (r : Option (Nat × AV)), en.length = es.length →
    (∀ (j : Nat) (p : AV × AV) (e : MapEntry), es[j]? = some p → en[j]? = some e → VR K nx p.1 e.key ∧ VR K nx p.2 e.val) → findA f x es i = some r →
    match r with
    | none => Instr.findNow d u en i = some none
    | some (j, v) => ∃ p e, i ≤ j ∧ es[j - i]? = some p ∧ p.2 = v ∧ en[j - i]? = some e ∧ Instr.findNow d u en i = some (some (j, e.val)) ∧ ∀ n, Instr.sameBits n e.key u = true
  | [], en, i, r, hl, hr, h => by
    simp only [findA, Option.some.injEq] at h; subst h
    have : en = [] := List.length_eq_zero_iff.1 (by simpa using hl)
    subst this; rfl
  | (y, v) :: es, en, i, r, hl, hr, h => by
    cases en with
    | nil => simp at hl
    | cons e en =>
      obtain ⟨h1, h2⟩ := hr 0 (y, v) e rfl rfl
      simp only [findA] at h
      split at h
      · rename_i hc
        cases h
        obtain ⟨h3, h4⟩ := same_sound hf hd hc hu h1
        exact ⟨(y, v), e, Nat.le_refl _, by simp, rfl, by simp, by simp only [Instr.findNow, h3], h4 rfl⟩
      · rename_i hc
        obtain ⟨h3, h4⟩ := same_sound hf hd hc hu h1
        have ih := find_sound hf hd hu es en (i + 1) r (by simpa using hl) (fun j p e hp he => hr (j + 1) p e (by simpa using hp) (by simpa using he)) h
        cases r with
        | none => simp only [Instr.findNow, h3]; exact ih
        | some q =>
          obtain ⟨j, w⟩ := q
          obtain ⟨p, e', k1, k2, k3, k4, k5, k6⟩ := ih
          have hj : j - i = (j - (i + 1)) + 1 := by omega
          refine ⟨p, e', by omega, ?_, k3, ?_, ?_, k6⟩
          · rw [hj, List.getElem?_cons_succ]; exact k2
          · rw [hj, List.getElem?_cons_succ]; exact k4
          · simp only [Instr.findNow, h3]; exact k5
      · cases h
theorem run_checkKey {t : TypeId} {f : FK} (hf : fkT P t = some f) (b : Bool) (n : Nat) (u : Value) (w : World) : (Instr.checkKey b (n + 1) t u).run P w = .ok () w := by
  obtain ⟨d, hd, hk⟩ := key_desc hf
  unfold Instr.checkKey
  rcases hk with ⟨rfl, k, rfl⟩ | ⟨rfl, rfl⟩ | ⟨rfl, rfl⟩ <;> simp [run_underlying hd]
theorem run_findKey {t : TypeId} {f : FK} (hf : fkT P t = some f) {d : TypeDesc} (hd : P.underlying t = some d) {u : Value} {en : List MapEntry} {r : Option (Nat × Value)} (h : Instr.findNow d u en 0 = some r) (w : World) : (Instr.findKey t u en).run P w = .ok r w := by
  simp [Instr.findKey, run_underlying hd, h]
theorem map_rows {w0 : World} {K : Wd} {h : Heap} {nx b : Nat} (g : Good w0 K h nx) {es : List (AV × AV)} {st : List Nat} {clock : Nat} (hb : hget h b = some (.map es st clock)) : ∃ en, K.w.heap[K.m b]? = some (.map en clock) ∧ en.size = es.length ∧ st.length = es.length ∧
    (∀ (i : Nat) (x : AV × AV) (y : MapEntry), es[i]? = some x → en[i]? = some y → VR K nx x.1 y.key ∧ VR K nx x.2 y.val ∧ st[i]? = some y.born) ∧ st.Nodup ∧ ∀ s ∈ st, s < clock := by
  obtain ⟨h1, h2, h3, ob, h4, h5⟩ := g.live b _ hb
  cases h5 with
  | map _ _ _ en hs hl hh hn hc => exact ⟨en, h4, hs, hl, hh, hn, hc⟩
theorem mlook_run {t kt et : TypeId} {f : FK} {z : AV} (hu : P.underlying t = some (.map kt et)) (hf : fkT P kt = some f) (hz : zval P et = some z) {w0 : World} {K : Wd} {h : Heap} {nx : Nat} (g : Good w0 K h nx) {m x r : AV} {ok : Bool} (hr : lookA h f z ok m x = some r) {um ux : Value} (hm : VR K nx m um) (hx : VR K nx x ux) :
    ∃ u, (Instr.lookup t um ux ok).run P K.w = .ok u K.w ∧ VR K nx r u := by
  obtain ⟨d, hd, _⟩ := key_desc hf
  obtain ⟨zu, hzr, hzv⟩ := zval_run hz K.w
  unfold lookA at hr
  split at hr
  case h_2 => cases hr
  rename_i es hes
  split at hr
  case isFalse => cases hr
  have fin : ∀ (en : List MapEntry), en.length = es.length → (∀ (j : Nat) (p : AV × AV) (e : MapEntry), es[j]? = some p → en[j]? = some e → VR K nx p.1 e.key ∧ VR K nx p.2 e.val) →
      (∃ q, (Instr.findKey kt ux en).run P K.w = .ok (some q) K.w ∧ VR K nx r (if ok then .tuple #[q.2, .bool true] else q.2)) ∨ ((Instr.findKey kt ux en).run P K.w = .ok none K.w ∧ VR K nx r (if ok then .tuple #[zu, .bool false] else zu)) := by
    intro en hl hrel
    have tup : ∀ {y : AV} {u : Value} {b : Bool}, VR K nx y u → VR K nx (if ok then .tup [y, .bool b] else y) (if ok then .tuple #[u, .bool b] else u) := by
      intro y u b hy
      cases ok
      · exact hy
      · refine .tup _ _ rfl fun i q v hq hv => ?_
        match i with
        | 0 => simp at hq hv; subst hq; subst hv; exact hy
        | 1 => simp at hq hv; subst hq; subst hv; exact .bool b
        | i + 2 => simp at hq
    split at hr
    · rename_i j v hfind
      cases hr
      obtain ⟨p, e, k1, k2, rfl, k4, k5, k6⟩ := find_sound hf hd hx es en 0 _ hl hrel hfind
      exact .inl ⟨(j, e.val), run_findKey hf hd k5 K.w, tup (hrel _ p e k2 k4).2⟩
    · rename_i hfind
      cases hr
      have k5 := find_sound hf hd hx es en 0 _ hl hrel hfind
      exact .inr ⟨run_findKey hf hd k5 K.w, tup (hzv K nx)⟩
    · cases hr
  unfold mapOf at hes
  split at hes
  · cases hes
    cases hm
    rcases fin [] rfl (fun j p e hp => by simp at hp) with ⟨q, h1, h2⟩ | ⟨h1, h2⟩
    · refine ⟨_, ?_, h2⟩
      simp only [Instr.lookup, Sem.run_bind, run_underlying hu, Result.andThen_ok, Sem.run_pure, run_checkKey hf, h1]
    · refine ⟨_, ?_, h2⟩
      simp only [Instr.lookup, Sem.run_bind, run_underlying hu, Result.andThen_ok, Sem.run_pure, run_checkKey hf, h1, hzr]
  · split at hes
    · rename_i b es' st clock hb
      cases hes
      cases hm with
      | mp _ hlt r' hr' =>
      subst hr'
      obtain ⟨en, hrow, hs, hl, hrel, _⟩ := map_rows g hb
      rcases fin en.toList (by simpa using hs) (fun j p e hp he => ⟨(hrel j p e hp (by simpa using he)).1, (hrel j p e hp (by simpa using he)).2.1⟩) with ⟨q, h1, h2⟩ | ⟨h1, h2⟩
      · refine ⟨_, ?_, h2⟩
        simp only [Instr.lookup, Sem.run_bind, run_underlying hu, Result.andThen_ok, Sem.run_pure, MapKept.run_getObj_map hrow, run_checkKey hf, h1]
      · refine ⟨_, ?_, h2⟩
        simp only [Instr.lookup, Sem.run_bind, run_underlying hu, Result.andThen_ok, Sem.run_pure, MapKept.run_getObj_map hrow, run_checkKey hf, h1, hzr]
    · cases hes
  · cases hes
theorem OR.map_set {K K' : Wd} {nx : Nat} (he : Ext K nx K' nx) {es : List (AV × AV)} {st : List Nat} {en : Array MapEntry} {clock i : Nat} {x v : AV} {ux uv : Value} (hs : en.size = es.length) (hl : st.length = es.length)
    (hh : ∀ (i : Nat) (x : AV × AV) (y : MapEntry), es[i]? = some x → en[i]? = some y → VR K nx x.1 y.key ∧ VR K nx x.2 y.val ∧ st[i]? = some y.born) (hb : st.Nodup) (hc : ∀ s ∈ st, s < clock) (hx : VR K nx x ux) (hv : VR K nx v uv) :
    OR K' nx (.map (es.set i (x, v)) st clock) (.map (en.modify i fun e => { e with key := ux, val := uv }) clock) := by
  refine .map _ _ _ _ (by simpa using hs) (by simpa using hl) (fun j p y hp hy => ?_) hb hc
  rw [List.getElem?_set] at hp
  rw [Array.getElem?_modify] at hy
  by_cases e : i = j
  · subst e
    rw [if_pos rfl] at hp hy
    split at hp
    · rename_i hlt
      cases hp
      obtain ⟨y0, hy0, rfl⟩ := Option.map_eq_some_iff.1 hy
      refine ⟨hx.mono he, hv.mono he, ?_⟩
      have : ∃ p0, es[i]? = some p0 := ⟨_, List.getElem?_eq_getElem hlt⟩
      obtain ⟨p0, hp0⟩ := this
      exact (hh i p0 y0 hp0 hy0).2.2
    · cases hp
  · rw [if_neg e] at hp hy
    obtain ⟨h1, h2, h3⟩ := hh j p y hp hy
    exact ⟨h1.mono he, h2.mono he, h3⟩
theorem OR.map_push {K K' : Wd} {nx : Nat} (he : Ext K nx K' nx) {es : List (AV × AV)} {st : List Nat} {en : Array MapEntry} {clock : Nat} {x v : AV} {ux uv : Value} (hs : en.size = es.length) (hl : st.length = es.length)
    (hh : ∀ (i : Nat) (x : AV × AV) (y : MapEntry), es[i]? = some x → en[i]? = some y → VR K nx x.1 y.key ∧ VR K nx x.2 y.val ∧ st[i]? = some y.born) (hb : st.Nodup) (hc : ∀ s ∈ st, s < clock) (hx : VR K nx x ux) (hv : VR K nx v uv) :
    OR K' nx (.map (es ++ [(x, v)]) (st ++ [clock]) (clock + 1)) (.map (en.push { key := ux, val := uv, born := clock }) (clock + 1)) := by
  refine .map _ _ _ _ (by simp [hs]) (by simp [hl]) (fun j p y hp hy => ?_) ?_ ?_
  · rw [Array.getElem?_push] at hy
    rw [List.getElem?_append] at hp ⊢
    split at hy
    · rename_i e
      cases hy
      rw [if_neg (by omega)] at hp ⊢
      have : j - es.length = 0 := by omega
      rw [this] at hp
      have : j - st.length = 0 := by omega
      rw [this]
      simp at hp; subst hp
      exact ⟨hx.mono he, hv.mono he, rfl⟩
    · rename_i e
      have hj := (Array.getElem?_eq_some_iff.1 hy).1
      rw [if_pos (by omega)] at hp ⊢
      obtain ⟨h1, h2, h3⟩ := hh j p y hp hy
      exact ⟨h1.mono he, h2.mono he, h3⟩
  · rw [List.nodup_append]
    refine ⟨hb, by simp, fun a ha b hb' => ?_⟩
    simp only [List.mem_singleton] at hb'
    subst hb'
    have := hc a ha
    omega
  · intro s hs'
    rcases List.mem_append.1 hs' with h | h
    · have := hc s h; omega
    · simp at h; omega
theorem OR.map_del {K K' : Wd} {nx : Nat} (he : Ext K nx K' nx) {es : List (AV × AV)} {st : List Nat} {en : Array MapEntry} {clock i : Nat} (hs : en.size = es.length) (hl : st.length = es.length)
    (hh : ∀ (i : Nat) (x : AV × AV) (y : MapEntry), es[i]? = some x → en[i]? = some y → VR K nx x.1 y.key ∧ VR K nx x.2 y.val ∧ st[i]? = some y.born) (hb : st.Nodup) (hc : ∀ s ∈ st, s < clock) (hi : i < es.length) :
    OR K' nx (.map (es.eraseIdx i) (st.eraseIdx i) clock) (.map (en.eraseIdxIfInBounds i) clock) := by
  have hl' : (en.eraseIdxIfInBounds i).toList = en.toList.eraseIdx i := by simp
  refine .map _ _ _ _ ?_ ?_ (fun j p y hp hy => ?_) ?_ ?_
  · rw [← Array.length_toList, hl', List.length_eraseIdx, List.length_eraseIdx]; simp [hs]
  · rw [List.length_eraseIdx, List.length_eraseIdx, hl]
  · have hy' : (en.toList.eraseIdx i)[j]? = some y := by rw [← hl', Array.getElem?_toList]; exact hy
    rw [List.getElem?_eraseIdx] at hp hy' ⊢
    split at hp
    · rename_i h; rw [if_pos h] at hy' ⊢
      obtain ⟨h1, h2, h3⟩ := hh j p y hp (by simpa using hy')
      exact ⟨h1.mono he, h2.mono he, h3⟩
    · rename_i h; rw [if_neg h] at hy' ⊢
      obtain ⟨h1, h2, h3⟩ := hh (j + 1) p y hp (by simpa using hy')
      exact ⟨h1.mono he, h2.mono he, h3⟩
  · exact hb.sublist (List.eraseIdx_sublist _ _)
  · exact fun s hs' => hc s ((List.eraseIdx_sublist _ _).subset hs')
theorem map_ext {w0 : World} {K : Wd} {h : Heap} {nx b : Nat} (g : Good w0 K h nx) {es : List (AV × AV)} {st : List Nat} {ck : Nat} (hb : hget h b = some (.map es st ck)) (en' : Array MapEntry) (c' : Nat) : Ext K nx (K.putObj b (.map en' c')) nx := by
  obtain ⟨en, hrow, _⟩ := map_rows g hb
  exact Ext.putObj g hb fun c e hc => by rw [hrow] at hc; cases hc
theorem map_good {w0 : World} {K : Wd} {h : Heap} {nx b : Nat} (g : Good w0 K h nx) {es : List (AV × AV)} {st : List Nat} {ck : Nat} (hb : hget h b = some (.map es st ck)) {en' : Array MapEntry} {c' : Nat} {es' : List (AV × AV)} {st' : List Nat} (ho : OR (K.putObj b (.map en' c')) nx (.map es' st' c') (.map en' c')) :
    Good w0 (K.putObj b (.map en' c')) (hset h b (.map es' st' c')) nx := by
  obtain ⟨en, hrow, _⟩ := map_rows g hb
  exact Good.putObj g hb (fun c e hc => by rw [hrow] at hc; cases hc) ho
theorem mset_run {t kt et : TypeId} {f : FK} (hu : P.underlying t = some (.map kt et)) (hf : fkT P kt = some f) {w0 : World} {K : Wd} {h h' : Heap} {nx : Nat} (g : Good w0 K h nx) {m x v : AV} (hr : setA h f m x v = some h') {um ux uv : Value} (hm : VR K nx m um) (hx : VR K nx x ux) (hv : VR K nx v uv) :
    ∃ K', (Instr.mapUpdate t um ux uv).run P K.w = .ok () K'.w ∧ Ext K nx K' nx ∧ Good w0 K' h' nx := by
  obtain ⟨d, hd, _⟩ := key_desc hf
  unfold setA at hr
  split at hr
  case h_2 => cases hr
  rename_i b
  split at hr
  case h_2 => cases hr
  rename_i es st clock hb
  split at hr
  case isFalse => cases hr
  cases hm with
  | mp _ hlt r' hr' =>
  subst hr'
  obtain ⟨en, hrow, hs, hl, hrel, hnd, hck⟩ := map_rows g hb
  have hrel' : ∀ (j : Nat) (p : AV × AV) (e : MapEntry), es[j]? = some p → en.toList[j]? = some e → VR K nx p.1 e.key ∧ VR K nx p.2 e.val := fun j p e hp he => ⟨(hrel j p e hp (by simpa using he)).1, (hrel j p e hp (by simpa using he)).2.1⟩
  split at hr
  · rename_i i v0 hfind
    cases hr
    obtain ⟨p, e, k1, k2, k3, k4, k5, k6⟩ := find_sound hf hd hx es en.toList 0 _ (by simpa using hs) hrel' hfind
    simp only [Nat.sub_zero] at k2 k4
    have k4' : en[i]? = some e := by simpa using k4
    refine ⟨K.putObj b (.map (en.modify i fun e => { e with key := ux, val := uv }) clock), ?_, map_ext g hb _ _, map_good g hb (OR.map_set (map_ext g hb _ _) hs hl hrel hnd hck hx hv)⟩
    simp only [Instr.mapUpdate, Sem.run_bind, run_underlying hu, Result.andThen_ok, MapKept.run_getObj_map hrow, run_checkKey hf, run_findKey hf hd k5, k4', Option.map_some, Option.getD_some, Instr.keyThatStays, k6, if_true, Sem.run_pure]
    rw [MapKept.run_setObj_map _ hrow]
    rfl
  · rename_i hfind
    cases hr
    have k5 := find_sound hf hd hx es en.toList 0 _ (by simpa using hs) hrel' hfind
    simp only at k5
    refine ⟨K.putObj b (.map (en.push { key := ux, val := uv, born := clock }) (clock + 1)), ?_, map_ext g hb _ _, map_good g hb (OR.map_push (map_ext g hb _ _) hs hl hrel hnd hck hx hv)⟩
    simp only [Instr.mapUpdate, Sem.run_bind, run_underlying hu, Result.andThen_ok, MapKept.run_getObj_map hrow, run_checkKey hf, run_findKey hf hd k5]
    rw [MapKept.run_setObj_map _ hrow]
    rfl
  · cases hr
theorem mdel_run {t kt et : TypeId} {f : FK} (hu : P.underlying t = some (.map kt et)) (hf : fkT P kt = some f) {w0 : World} {K : Wd} {h h' : Heap} {nx : Nat} (g : Good w0 K h nx) {m x : AV} (hr : delA h f m x = some h') {um ux : Value} (hm : VR K nx m um) (hx : VR K nx x ux) (ts : Array TypeId) (ty : TypeId) :
    ∃ K', (Builtin.delete_ (#[t] ++ ts) ty #[um, ux]).run P K.w = .ok (.tuple #[]) K'.w ∧ Ext K nx K' nx ∧ Good w0 K' h' nx := by
  obtain ⟨d, hd, _⟩ := key_desc hf
  unfold delA at hr
  split at hr
  case h_2 => cases hr
  rename_i b
  split at hr
  case h_2 => cases hr
  rename_i es st clock hb
  split at hr
  case isFalse => cases hr
  cases hm with
  | mp _ hlt r' hr' =>
  subst hr'
  obtain ⟨en, hrow, hs, hl, hrel, hnd, hck⟩ := map_rows g hb
  have hrel' : ∀ (j : Nat) (p : AV × AV) (e : MapEntry), es[j]? = some p → en.toList[j]? = some e → VR K nx p.1 e.key ∧ VR K nx p.2 e.val := fun j p e hp he => ⟨(hrel j p e hp (by simpa using he)).1, (hrel j p e hp (by simpa using he)).2.1⟩
  have e0 : (#[t] ++ ts)[0]? = some t := by rw [Array.getElem?_append]; simp
  split at hr
  · rename_i i v0 hfind
    cases hr
    obtain ⟨p, e, k1, k2, k3, k4, k5, k6⟩ := find_sound hf hd hx es en.toList 0 _ (by simpa using hs) hrel' hfind
    simp only [Nat.sub_zero] at k2 k4
    have hi := (List.getElem?_eq_some_iff.1 k2).1
    refine ⟨K.putObj b (.map (en.eraseIdxIfInBounds i) clock), ?_, map_ext g hb _ _, map_good g hb (OR.map_del (map_ext g hb _ _) hs hl hrel hnd hck hi)⟩
    simp only [Builtin.delete_, e0, List.getElem?_toArray, List.getElem?_cons_zero, List.getElem?_cons_succ, Sem.run_bind, run_underlying hu, Result.andThen_ok, MapKept.run_getObj_map hrow, run_checkKey hf, run_findKey hf hd k5]
    rw [MapKept.run_setObj_map _ hrow]
    rfl
  · rename_i hfind
    cases hr
    have k5 := find_sound hf hd hx es en.toList 0 _ (by simpa using hs) hrel' hfind
    simp only at k5
    refine ⟨K.putObj b (.map en clock), ?_, map_ext g hb _ _, ?_⟩
    · simp only [Builtin.delete_, e0, List.getElem?_toArray, List.getElem?_cons_zero, List.getElem?_cons_succ, Sem.run_bind, run_underlying hu, Result.andThen_ok, MapKept.run_getObj_map hrow, run_checkKey hf, run_findKey hf hd k5]
      rw [MapKept.run_setObj_map _ hrow]
      rfl
    · have := map_good g hb (en' := en) (c' := clock) (es' := es) (st' := st) (.map _ _ _ _ hs hl (fun i x y hx hy => ⟨(hrel i x y hx hy).1.mono (map_ext g hb _ _), (hrel i x y hx hy).2.1.mono (map_ext g hb _ _), (hrel i x y hx hy).2.2⟩) hnd hck)
      exact this.weaken (Nat.le_refl _) fun c o hc => by
        rw [hget_hset]; split
        · rename_i e; subst e; rw [hb] at hc; exact hc
        · exact hc
  · cases hr
variable {o : Oper}
theorem tas_run {t : TypeId} {d : TypeDesc} {z : AV} (hu : P.underlying t = some d) (hn : ∀ ms, d ≠ .interface ms) (hz : zval P t = some z) {K : Wd} {nx : Nat} {x r : AV} (hr : tasA t z x = some r) {u : Value} (hx : VR K nx x u) (st : TypeId) :
    ∃ v, (Instr.typeAssert u st t true).run P K.w = .ok v K.w ∧ VR K nx r v := by
  obtain ⟨zu, hzr, hzv⟩ := zval_run hz K.w
  have tup : ∀ {y : AV} {u : Value} {b : Bool}, VR K nx y u → VR K nx (.tup [y, .bool b]) (.tuple #[u, .bool b]) := by
    intro y u b hy
    refine .tup _ _ rfl fun i q v hq hv => ?_
    match i with
    | 0 => simp at hq hv; subst hq; subst hv; exact hy
    | 1 => simp at hq hv; subst hq; subst hv; exact .bool b
    | i + 2 => simp at hq
  unfold tasA at hr
  split at hr
  · cases hr
    cases hx
    refine ⟨_, ?_, tup (hzv K nx)⟩
    simp only [Instr.typeAssert, Sem.run_bind, run_underlying hu, Result.andThen_ok]
    cases d <;> first | exact absurd rfl (hn _) | (simp [hzr]; done)
  · rename_i t' x'
    cases hr
    cases hx with
    | ifc _ _ v hv =>
    by_cases ht : t' = t
    · rw [if_pos ht]
      refine ⟨_, ?_, tup hv⟩
      simp only [Instr.typeAssert, Sem.run_bind, run_underlying hu, Result.andThen_ok]
      cases d <;> first | exact absurd rfl (hn _) | (simp [ht]; done)
    · rw [if_neg ht]
      refine ⟨_, ?_, tup (hzv K nx)⟩
      simp only [Instr.typeAssert, Sem.run_bind, run_underlying hu, Result.andThen_ok]
      cases d <;> first | exact absurd rfl (hn _) | (simp [ht, hzr]; done)
  · cases hr
theorem mlen_run {t : TypeId} {kt et : TypeId} (hu : P.underlying t = some (.map kt et)) {w0 : World} {K : Wd} {h : Heap} {nx : Nat} (g : Good w0 K h nx) {m : AV} {es : List (AV × AV)} (hr : mapOf h m = some es) {u : Value} (hm : VR K nx m u) (ty : TypeId) :
    (Builtin.len_ #[t] ty #[u]).run P K.w = .ok (.int .i64 es.length) K.w := by
  unfold mapOf at hr
  split at hr
  · cases hr
    cases hm
    simp [Builtin.len_, run_underlying hu, goInt]
  · split at hr
    · rename_i b es' st clock hb
      cases hr
      cases hm with
      | mp _ hlt r' hr' =>
      subst hr'
      obtain ⟨en, hrow, hs, _⟩ := map_rows g hb
      simp [Builtin.len_, run_underlying hu, MapKept.run_getObj_map hrow, goInt, hs]
    · cases hr
  · cases hr
theorem mmake_run {w0 : World} {K : Wd} {h : Heap} {nx : Nat} (g : Good w0 K h nx) (t : TypeId) :
    ∃ K' v, (Instr.makeMap t none).run P K.w = .ok v K'.w ∧ Ext K nx K' (nx + 1) ∧ Good w0 K' ((nx, .map [] [] 0) :: h) (nx + 1) ∧ VR K' (nx + 1) (.mp nx) v := by
  refine ⟨K.alloc nx (.map #[] 0), .map (some K.w.heap.size), ?_, Ext.alloc g _, Good.alloc g (.map [] [] 0 #[] rfl rfl (fun i x y hx => by simp at hx) (by simp) (by simp)), .mp nx (by omega) _ (by simp [Wd.alloc])⟩
  simp [Instr.makeMap, newObj, Sem.run, Wd.alloc]
theorem mrng_run {t kt et : TypeId} (hu : P.underlying t = some (.map kt et)) {w0 : World} {K : Wd} {h h' : Heap} {nx : Nat} (g : Good w0 K h nx) {m : AV} (hr : rngA h nx m = some h') {um : Value} (hm : VR K nx m um) :
    ∃ K' v, (Instr.range t um).run P K.w = .ok v K'.w ∧ Ext K nx K' (nx + 1) ∧ Good w0 K' h' (nx + 1) ∧ VR K' (nx + 1) (.op nx 0) v := by
  unfold rngA at hr
  split at hr
  case h_2 => cases hr
  rename_i b
  split at hr
  case h_2 => cases hr
  rename_i es st ck hb
  cases hr
  cases hm with
  | mp _ hlt r' hr' =>
  subst hr'
  obtain ⟨en, hrow, _⟩ := map_rows g hb
  have hmb : (K.alloc nx (.mapIter (some (K.m b)) ck #[] ck)).m b = K.m b := by simp only [Wd.alloc]; rw [if_neg (by omega)]
  refine ⟨K.alloc nx (.mapIter (some (K.m b)) ck #[] ck), .pointer (some ⟨K.w.heap.size, 0, none⟩), ?_, Ext.alloc g _, Good.alloc g (.mit b ck [] ck (by omega) _ hmb.symm), .op nx 0 (by omega) _ (by simp [Wd.alloc])⟩
  simp only [Instr.range, Sem.run_bind, run_underlying hu, Result.andThen_ok, MapKept.run_getObj_map hrow, Sem.run_pure]
  simp [newObj, Sem.run, Wd.alloc]
theorem entA_find : ∀ (es : List (AV × AV)) (st : List Nat) (en : List MapEntry) (t : Nat) (p : AV × AV), en.length = es.length → st.length = es.length → (∀ (i : Nat) (y : MapEntry), en[i]? = some y → st[i]? = some y.born) → entA es st t = some p →
    ∃ (i : Nat) (y : MapEntry), es[i]? = some p ∧ en[i]? = some y ∧ en.find? (·.born == t) = some y
  | [], st, en, t, p, _, _, _, h => by simp [entA] at h
  | x :: es, [], en, t, p, _, hl, _, h => by simp at hl
  | x :: es, s :: st, [], t, p, hs, _, _, h => by simp at hs
  | x :: es, s :: st, y :: en, t, p, hs, hl, hh, h => by
    have h0 := hh 0 y rfl
    simp only [List.getElem?_cons_zero, Option.some.injEq] at h0
    simp only [entA] at h
    split at h
    · rename_i e
      cases h
      exact ⟨0, y, rfl, rfl, by rw [List.find?_cons_of_pos]; simp [← h0, e]⟩
    · rename_i e
      obtain ⟨i, z, h1, h2, h3⟩ := entA_find es st en t p (by simpa using hs) (by simpa using hl) (fun i y hy => by simpa using hh (i + 1) y (by simpa using hy)) h
      exact ⟨i + 1, z, by simpa using h1, by simpa using h2, by rw [List.find?_cons_of_neg]; exact h3; simp [← h0, e]⟩
theorem run_getObj_mit {w : World} {r : Nat} {m : Option Nat} {s : Nat} {seen : Array Nat} {c : Nat} (hr : w.heap[r]? = some (.mapIter m s seen c)) : (getObj r).run P w = .ok (.mapIter m s seen c) w := by simp [getObj, Sem.run, hr]
theorem ment_run {w0 : World} {K : Wd} {h : Heap} {nx : Nat} (g : Good w0 K h nx) {it r : AV} (hr : entH h it = some r) {um : Value} (hm : VR K nx it um) : ∃ v, (Instr.entry um).run P K.w = .ok v K.w ∧ VR K nx r v := by
  unfold entH at hr
  split at hr
  case h_2 => cases hr
  rename_i b
  split at hr
  case h_2 => cases hr
  rename_i mb since seen last hb
  split at hr
  case h_2 => cases hr
  rename_i t es st ck hlast hmb
  split at hr
  case isFalse => cases hr
  rename_i hck
  subst hck
  obtain ⟨p, hp, rfl⟩ := Option.map_eq_some_iff.1 hr
  obtain ⟨h1, h2, h3, ob, h4, h5⟩ := g.live b _ hb
  obtain ⟨en, hrow, hs, hl, hrel, _⟩ := map_rows g hmb
  cases h5 with
  | mit _ _ _ _ hlt r' hr' =>
  subst hr'
  cases hm with
  | op _ _ hlt' a ha =>
  subst ha
  obtain ⟨i, y, k1, k2, k3⟩ := entA_find es st en.toList t p (by simpa using hs) hl (fun i y hy => by
    have hy' : en[i]? = some y := by simpa using hy
    have hi := (Array.getElem?_eq_some_iff.1 hy').1
    have : ∃ p0, es[i]? = some p0 := ⟨_, List.getElem?_eq_getElem (by omega)⟩
    obtain ⟨p0, hp0⟩ := this
    exact (hrel i p0 y hp0 hy').2.2) hp
  have k2' : en[i]? = some y := by simpa using k2
  have hback : seen.toArray.back? = some t := by rw [← hlast]; simp
  have hfind : en.find? (·.born == t) = some y := by rw [← Array.find?_toList]; exact k3
  refine ⟨.tuple #[y.key, y.val], ?_, ?_⟩
  · simp only [Instr.entry, Sem.run_bind, run_getObj_mit h4, Result.andThen_ok, hback, MapKept.run_getObj_map hrow]
    simp [hfind]
  · have := hrel i p y k1 k2'
    refine .tup _ _ rfl fun j q v hq hv => ?_
    match j with
    | 0 => simp at hq hv; subst hq; subst hv; exact this.1
    | 1 => simp at hq hv; subst hq; subst hv; exact this.2.1
    | j + 2 => simp at hq
theorem setObj_mit {w : World} {r : Nat} {m : Option Nat} {s : Nat} {seen : Array Nat} {c : Nat} (o : Obj) (hr : w.heap[r]? = some (.mapIter m s seen c)) : (setObj r o).run P w = .ok () (w.putObj r o) := by simp [setObj, Sem.run, hr, World.putObj]
theorem next_sound {w0 : World} {K : Wd} {h : Heap} {nx : Nat} (g : Good w0 K h nx) {b mb since last ck : Nat} {seen st : List Nat} {es : List (AV × AV)} (hb : hget h b = some (.mit mb since seen last)) (hm : hget h mb = some (.map es st ck)) (hold : ∀ s ∈ st, s < since) (hsl : since ≤ last)
    {u : Value} (hu : VR K nx (.op b 0) u) (ty : TypeId) :
    ((∀ s ∈ st, s ∈ seen) ∧ (Instr.next u false ty).run P K.w = .ok (.tuple #[.bool false]) K.w) ∨ ∃ (i : Nat) (k x : AV) (s : Nat) (K' : Wd) (v : Value), es[i]? = some (k, x) ∧ st[i]? = some s ∧ s ∉ seen ∧ (Instr.next u false ty).run P K.w = .ok v K'.w ∧ Ext K nx K' nx ∧
      Good w0 K' (hset h b (.mit mb since (seen ++ [s]) ck)) nx ∧ VR K' nx (.tup [.bool true, k, x]) v := by
  obtain ⟨h1, h2, h3, ob, h4, h5⟩ := g.live b _ hb
  obtain ⟨en, hrow, hs, hl, hrel, hnd, hck⟩ := map_rows g hm
  cases h5 with
  | mit _ _ _ _ hlt r' hr' =>
  subst hr'
  cases hu with
  | op _ _ hlt' a ha =>
  subst ha
  have stamp : ∀ (i : Nat) (y : MapEntry), en[i]? = some y → ∃ p, es[i]? = some p ∧ VR K nx p.1 y.key ∧ VR K nx p.2 y.val ∧ st[i]? = some y.born := by
    intro i y hy
    have hi := (Array.getElem?_eq_some_iff.1 hy).1
    have : ∃ p0, es[i]? = some p0 := ⟨_, List.getElem?_eq_getElem (by omega)⟩
    obtain ⟨p0, hp0⟩ := this
    exact ⟨p0, hp0, hrel i p0 y hp0 hy⟩
  have hmemb : ∀ x ∈ en.toList, x.born ∈ st := by
    intro x hx
    obtain ⟨i, hi⟩ := List.getElem?_of_mem hx
    obtain ⟨p, _, _, _, h9⟩ := stamp i x (by simpa using hi)
    exact List.mem_of_getElem? h9
  have hold' : ∀ x ∈ en.toList, x.born < since := fun x hx => hold _ (hmemb x hx)
  simp only [Instr.next, Sem.run_bind, run_getObj_mit h4, Result.andThen_ok, MapKept.run_getObj_map hrow, next_test_false seen.toArray en since last hold' hsl, Bool.false_eq_true, if_false]
  have hmem : ∀ x ∈ (Array.filter (fun e => !seen.toArray.contains e.born) en).toList, x.born < since := fun x hx => hold' x (by simp at hx ⊢; exact hx.1)
  obtain ⟨L, hL⟩ : ∃ L, L = Array.filter (fun e => !seen.toArray.contains e.born) en := ⟨_, rfl⟩
  have e1 : L.filter (fun x => decide (x.born < since)) = L := Array.filter_eq_self.2 (fun x hx => by rw [hL] at hx; simpa using hmem x (by simpa using hx))
  have e2 : L.filter (fun x => decide (x.born ≥ since)) = #[] := by
    rw [Array.filter_eq_empty_iff]
    intro x hx
    rw [hL] at hx
    have := hmem x (by simpa using hx)
    simp
    omega
  rw [← hL]
  simp only [e1, e2, Array.append_empty]
  by_cases h0 : L.size = 0
  · left
    have hLe : L = #[] := Array.eq_empty_of_size_eq_zero h0
    refine ⟨fun s hs' => ?_, ?_⟩
    · obtain ⟨i, hi⟩ := List.getElem?_of_mem hs'
      have hlt2 := (List.getElem?_eq_some_iff.1 hi).1
      have : ∃ y, en[i]? = some y := ⟨_, Array.getElem?_eq_getElem (by omega)⟩
      obtain ⟨y, hy⟩ := this
      obtain ⟨p, _, _, _, h9⟩ := stamp i y hy
      rw [hi] at h9
      injection h9 with h9
      rw [hLe] at hL
      have := Array.filter_eq_empty_iff.1 hL.symm y (Array.mem_of_getElem? hy)
      rw [h9]
      simpa using this
    · rw [hLe]
      simp [choose, Sem.run, Question.forced]
  · right
    have hne : L.isEmpty = false := by simp [Array.isEmpty, h0]
    simp only [hne, Bool.false_eq_true, if_false, Array.empty_append, Array.size_map]
    have hch : ∃ (j : Nat) (w1 : World), j < L.size ∧ w1.heap = K.w.heap ∧ w1.os = K.w.os ∧ w1.tape = K.w.tape ∧ w1.output = K.w.output ∧ (choose (Question.mapNext L.size)).run P K.w = .ok j w1 := by
      by_cases hf : L.size ≤ 1
      · exact ⟨0, K.w, by omega, rfl, rfl, rfl, rfl, by simp [choose, Sem.run, Question.forced, hf]⟩
      · exact ⟨_, K.w.drew, Nat.mod_lt _ (by omega), rfl, rfl, rfl, rfl, by
          simp only [choose, Sem.run, Question.forced, decide_eq_true_eq, hf, if_false, Question.cut]
          rfl⟩
    obtain ⟨j, w1, hj, q1, q2, q3, q4, hrun⟩ := hch
    have hLj : L[j]? = some L[j] := Array.getElem?_eq_getElem hj
    have hin : L[j] ∈ en ∧ L[j].born ∉ seen := by
      have h8 : L[j] ∈ L := Array.getElem_mem hj
      generalize L[j] = e at h8
      rw [hL, Array.mem_filter] at h8
      simpa using h8
    obtain ⟨i, hi⟩ := Array.getElem?_of_mem hin.1
    obtain ⟨p, k1, k2, k3, k4⟩ := stamp i _ hi
    obtain ⟨K1, hK1⟩ : ∃ K1 : Wd, K1 = { K with w := w1 } := ⟨_, rfl⟩
    have x1 : Ext K nx K1 nx := by rw [hK1]; exact Ext.of_heap q1
    have g1 : Good w0 K1 h nx := by rw [hK1]; exact g.of_heap q1 q2 q3 q4
    have m1 : K1.m = K.m := by rw [hK1]
    have hb1 : K1.w.heap[K1.m b]? = some (.mapIter (some (K.m mb)) since seen.toArray last) := by rw [hK1]; simp only [q1]; exact h4
    have hns : ∀ c e, K1.w.heap[K1.m b]? = some (.cells c e (0, 0)) → ∃ c' : Array Value, (Obj.mapIter (some (K.m mb)) since (seen ++ [L[j].born]).toArray ck) = .cells c' e (0, 0) ∧ c'.size = c.size := by
      intro c e hce; rw [hb1] at hce; cases hce
    have x2 := Ext.putObj (ob := .mapIter (some (K.m mb)) since (seen ++ [L[j].born]).toArray ck) g1 hb hns
    have g2 := Good.putObj (o' := .mit mb since (seen ++ [L[j].born]) ck) (ob := .mapIter (some (K.m mb)) since (seen ++ [L[j].born]).toArray ck) g1 hb hns (.mit mb since _ ck hlt _ (by simp only [Wd.putObj, m1]))
    have xx := x1.trans x2
    refine ⟨i, p.1, p.2, L[j].born, K1.putObj b (.mapIter (some (K.m mb)) since (seen ++ [L[j].born]).toArray ck), .tuple #[.bool true, L[j].key, L[j].val], k1, k4, hin.2, ?_, xx, g2, ?_⟩
    · have hpush : seen.toArray.push L[j].born = (seen ++ [L[j].born]).toArray := by simp
      have hset := setObj_mit (P := P) (.mapIter (some (K.m mb)) since (seen ++ [L[j].born]).toArray ck) hb1
      rw [hK1] at hset
      simp only at hset
      simp only [hrun, Result.andThen_ok, Array.getElem?_map, hLj, Option.map_some, Sem.run_bind, hpush, hset]
      rw [hK1]
      rfl
    · refine .tup _ _ rfl fun q y v hq hv => ?_
      match q with
      | 0 => simp at hq hv; subst hq; subst hv; exact .bool true
      | 1 => simp at hq hv; subst hq; subst hv; exact k2.mono xx
      | 2 => simp at hq hv; subst hq; subst hv; exact k3.mono xx
      | q + 3 => simp at hq
theorem mop_sound {mo : MOp} (hc : compileM P o.op = some mo) : Snd P o (.m mo) ∧ ∀ c, o.op ≠ .defer c := by
  unfold compileM at hc
  split at hc
  · -- makeMap
    rename_i t h0
    cases hc
    refine ⟨?_, by intro c; rw [h0]; simp⟩
    intro w0 K h nx env a out h' nx' g he hev
    simp only [opEv, mopEv] at hev
    cases hev
    obtain ⟨K', v, h1, h2, h3, h4⟩ := mmake_run (P := P) g t
    exact ⟨K', .value v, by simp [execOp, h0, h1], h2, h3, h4⟩
  · rename_i t m x ok h0
    refine ⟨?_, by intro c; rw [h0]; simp⟩
    split at hc
    case h_2 => cases hc
    rename_i kt et hu
    obtain ⟨f, hf, hc⟩ := Option.bind_eq_some_iff.1 hc
    obtain ⟨z, hz, rfl⟩ := Option.map_eq_some_iff.1 hc
    intro w0 K h nx env a out h' nx' g he hev
    simp only [opEv, mopEv] at hev
    split at hev
    case h_2 => cases hev
    rename_i mv xv hm hx
    split at hev
    case h_2 => cases hev
    rename_i r hr
    cases hev
    obtain ⟨u, h1, h2⟩ := mlook_run hu hf hz g hr (oev_sound he hm) (oev_sound he hx)
    exact snd_val g (v := u) (by simp [execOp, h0, h1]) h2
  · rename_i t m x v h0
    refine ⟨?_, by intro c; rw [h0]; simp⟩
    split at hc
    case h_2 => cases hc
    rename_i kt et hu
    obtain ⟨f, hf, rfl⟩ := Option.map_eq_some_iff.1 hc
    intro w0 K h nx env a out h' nx' g he hev
    simp only [opEv, mopEv] at hev
    split at hev
    case h_2 => cases hev
    rename_i mv xv vv hm hx hv
    split at hev
    case h_2 => cases hev
    rename_i r hr
    cases hev
    obtain ⟨K', h1, h2, h3⟩ := mset_run hu hf g hr (oev_sound he hm) (oev_sound he hx) (oev_sound he hv)
    exact ⟨K', .skip, by simp [execOp, h0, h1], h2, h3, trivial⟩
  · rename_i t m x v h0
    refine ⟨?_, by intro c; rw [h0]; simp⟩
    split at hc
    case h_2 => cases hc
    rename_i kt et hu
    obtain ⟨f, hf, rfl⟩ := Option.map_eq_some_iff.1 hc
    intro w0 K h nx env a out h' nx' g he hev
    simp only [opEv, mopEv] at hev
    split at hev
    case h_2 => cases hev
    rename_i mv xv vv hm hx hv
    split at hev
    case h_2 => cases hev
    rename_i r hr
    cases hev
    obtain ⟨K', h1, h2, h3⟩ := mset_run hu hf g hr (oev_sound he hm) (oev_sound he hx) (oev_sound he hv)
    exact ⟨K', .skip, by simp [execOp, h0, h1], h2, h3, trivial⟩
  · rename_i t gi h0
    refine ⟨?_, by intro c; rw [h0]; simp⟩
    split at hc
    case h_2 => cases hc
    rename_i d hu
    obtain ⟨x, hx, rfl⟩ := Option.map_eq_some_iff.1 hc
    obtain ⟨cs, hgl, htk⟩ := Option.bind_eq_some_iff.1 hx
    intro w0 K h nx env a out h' nx' g he hev
    simp only [opEv, mopEv] at hev
    cases hev
    obtain ⟨u, h1, h2⟩ := load_sound (P := P) g hu (p := .fp cs) rfl htk (g.gl gi cs hgl)
    refine snd_val g (v := u) ?_ h2
    have he' : a.eval (.global gi) = .pointer (some ⟨gi, 0, none⟩) := rfl
    simp [execOp, h0, he', h1]
  · rename_i t gi i h0
    refine ⟨?_, by intro c; rw [h0]; simp⟩
    split at hc
    case h_2 => cases hc
    rename_i len e hu
    obtain ⟨d, hd, hc⟩ := Option.bind_eq_some_iff.1 hc
    obtain ⟨cs0, hgl0, rfl⟩ := Option.map_eq_some_iff.1 hc
    intro w0 K h nx env a out h' nx' g he hev
    simp only [opEv, mopEv] at hev
    split at hev
    case h_2 => cases hev
    rename_i cs ki n hgl hi
    split at hev
    case isFalse => cases hev
    rename_i hn
    cases hev
    have hv := g.gl gi cs hgl
    have hvi := oev_sound he hi
    generalize hcy : a.eval i = cy at hvi
    cases hvi
    have helem : P.elem t = e := by simp [Program.elem, hu]
    have hal : P.arrayLen t = len := by simp [Program.arrayLen, hu]
    have he' : a.eval (.global gi) = .pointer (some ⟨gi, 0, none⟩) := rfl
    have hrun : ∀ (ad : Addr), (Instr.indexAt t (.pointer (some ad)) (.int ki n)).run P K.w = .ok (.pointer (some (ad.add (n.toNat * sizeT P e)))) K.w := by
      intro ad
      rw [run_indexAt_array K.w t ad ki n (by rw [helem, hal]; exact hu), hal, if_pos hn, helem, run_sizeT hd]
      rfl
    cases hv with
    | fp cs ad c h1 hr h =>
      refine snd_val g (v := .pointer (some ((⟨gi, 0, none⟩ : Addr).add (n.toNat * sizeT P e)))) (by simp only [execOp, h0, Sem.run_bind, he', hcy, hrun]; rfl) ?_
      refine .fp _ _ (fun j => c (n.toNat * sizeT P e + j)) (fun j x hx => h1 (n.toNat * sizeT P e + j) x (by simpa using hx)) (fun k hk => ?_) (fun j x hx => h (n.toNat * sizeT P e + j) x (by simpa using hx))
      have := hr (n.toNat * sizeT P e + k) (by simp at hk; omega)
      have e1 : ((⟨gi, 0, none⟩ : Addr).add (n.toNat * sizeT P e)).add k = (⟨gi, 0, none⟩ : Addr).add (n.toNat * sizeT P e + k) := by
        unfold Addr.add
        by_cases h1 : n.toNat * sizeT P e = 0 <;> by_cases h2 : k = 0 <;> simp [h1, h2, Nat.add_assoc]
      rw [e1]; exact this
  · rename_i t m h0
    refine ⟨?_, by intro c; rw [h0]; simp⟩
    split at hc
    case h_2 => cases hc
    rename_i kt et hu
    cases hc
    intro w0 K h nx env a out h' nx' g he hev
    simp only [opEv, mopEv] at hev
    split at hev
    case h_2 => cases hev
    rename_i mv hm
    split at hev
    case h_2 => cases hev
    rename_i r hr
    cases hev
    obtain ⟨K', v, h1, h2, h3, h4⟩ := mrng_run hu g hr (oev_sound he hm)
    exact ⟨K', .value v, by simp [execOp, h0, h1], h2, h3, h4⟩
  · rename_i it h0
    refine ⟨?_, by intro c; rw [h0]; simp⟩
    cases hc
    intro w0 K h nx env a out h' nx' g he hev
    simp only [opEv, mopEv] at hev
    split at hev
    case h_2 => cases hev
    rename_i mv hm
    split at hev
    case h_2 => cases hev
    rename_i r hr
    cases hev
    obtain ⟨v, h1, h2⟩ := ment_run (P := P) g hr (oev_sound he hm)
    exact snd_val g (v := v) (by simp [execOp, h0, h1]) h2
  · rename_i x st t h0
    refine ⟨?_, by intro c; rw [h0]; simp⟩
    split at hc
    · cases hc
    · rename_i d hu hn
      obtain ⟨z, hz, rfl⟩ := Option.map_eq_some_iff.1 hc
      intro w0 K h nx env a out h' nx' g he hev
      simp only [opEv, mopEv] at hev
      split at hev
      case h_2 => cases hev
      rename_i xv hx
      split at hev
      case h_2 => cases hev
      rename_i r hr
      cases hev
      obtain ⟨u, h1, h2⟩ := tas_run (d := d) hn (fun ms hms => hu ms hms) hz hr (oev_sound he hx) st
      exact snd_val g (v := u) (by simp [execOp, h0, h1]) h2
    · cases hc
  · rename_i c h0
    refine ⟨?_, by intro c'; rw [h0]; simp⟩
    split at hc
    · rename_i m x t ts hcal hargs htys
      split at hc
      case h_2 => cases hc
      rename_i kt et hu
      obtain ⟨f, hf, rfl⟩ := Option.map_eq_some_iff.1 hc
      intro w0 K h nx env a out h' nx' g he hev
      simp only [opEv, mopEv] at hev
      split at hev
      case h_2 => cases hev
      rename_i mv xv hm hx
      split at hev
      case h_2 => cases hev
      rename_i r hr
      cases hev
      have ha : c.args = #[m, x] := by cases hh : c.args; simp_all
      have hty : c.argTypes = #[t] ++ ts.toArray := by cases hh : c.argTypes; simp_all
      obtain ⟨K', h1, h2, h3⟩ := mdel_run hu hf g hr (oev_sound he hm) (oev_sound he hx) ts.toArray o.type
      refine ⟨K', .value (.tuple #[]), ?_, h2, h3, .tup _ _ rfl fun i q v hq => by simp at hq⟩
      simp only [execOp, h0, resolve, hcal, Sem.run_bind, Sem.run_pure, Result.andThen_ok, invoke, ha, hty]
      simp only [Go.builtin, List.map_toArray, List.map_cons, List.map_nil, Sem.run_bind, h1, Result.andThen_ok, Sem.run_pure]
    · rename_i ts x y z hcal hargs
      cases hc
      intro w0 K h nx env a out h' nx' g he hev
      simp only [opEv, mopEv] at hev
      split at hev
      case h_2 => cases hev
      rename_i k p k' q k'' r hx hy hz
      split at hev
      case isFalse => cases hev
      rename_i hk
      obtain ⟨rfl, rfl⟩ := hk
      cases hev
      have hvx := oev_sound he hx
      have hvy := oev_sound he hy
      have hvz := oev_sound he hz
      generalize hcx : a.eval x = cx at hvx
      generalize hcy : a.eval y = cy at hvy
      generalize hcz : a.eval z = cz at hvz
      cases hvx; cases hvy; cases hvz
      have ha : c.args = #[x, y, z] := by cases hh : c.args; simp_all
      refine snd_val g (v := .int k (if r > (if q > p then q else p) then r else (if q > p then q else p))) ?_ (.int _ _)
      simp only [execOp, h0, resolve, hcal, Sem.run_bind, Sem.run_pure, Result.andThen_ok, invoke, ha]
      simp [Go.builtin, Builtin.max_, Builtin.max2, hcx, hcy, hcz]
    · rename_i m t hcal hargs htys
      split at hc
      case h_2 => cases hc
      rename_i kt et hu
      cases hc
      intro w0 K h nx env a out h' nx' g he hev
      simp only [opEv, mopEv] at hev
      split at hev
      case h_2 => cases hev
      rename_i mv hm
      split at hev
      case h_2 => cases hev
      rename_i es hr
      cases hev
      have ha : c.args = #[m] := by cases hh : c.args; simp_all
      have hty : c.argTypes = #[t] := by cases hh : c.argTypes; simp_all
      have h1 := mlen_run hu g hr (oev_sound he hm) o.type
      refine snd_val g (v := .int .i64 es.length) ?_ (.int _ _)
      simp only [execOp, h0, resolve, hcal, Sem.run_bind, Sem.run_pure, Result.andThen_ok, invoke, ha, hty]
      simp only [Go.builtin, List.map_toArray, List.map_cons, List.map_nil, Sem.run_bind, h1, Result.andThen_ok, Sem.run_pure]
    · cases hc
  · cases hc
end
end Go.Ab
namespace Go.Ab
open Go.RowKit
set_option linter.unusedVariables false
set_option linter.unusedSimpArgs false
section
variable {P : Program} {o : Oper}
theorem snd_eqB {neg : Bool} {t t' : TypeId} {x y : Operand} (ho : o.op = .binOp (if neg then .neq else .eql) t x y t') (hu : P.underlying t = some .bool) : Snd P o (.eqB neg x y) := by
  intro w0 K h nx env a out h' nx' g he hev
  simp only [opEv] at hev
  split at hev
  · rename_i p q hx hy
    cases hev
    have hvx := oev_sound he hx
    have hvy := oev_sound he hy
    generalize hcx : a.eval x = cx at hvx
    generalize hcy : a.eval y = cy at hvy
    cases hvx; cases hvy
    refine snd_val g (v := .bool (if neg then !(p == q) else p == q)) ?_ (.bool _)
    rw [execOp, ho]
    show (do let v ← (do eqGuard (if neg then .neq else .eql) t x y (a.eval x) (a.eval y); binOp (if neg then .neq else .eql) t (a.eval x) (a.eval y) : Sem Value); pure (Next.value v)).run P K.w = _
    rw [hcx, hcy, Sem.run_bind, eqn_core (fun op => eqGuard_plain op t x y K.w (by intro c; simp) (by simp)) rfl rfl (fun d => run_equalIn_bool K.w d t p q hu)]
    rfl
  · cases hev
theorem snd_un {op : UnOp} {t : TypeId} {x : Operand} (ho : o.op = .unOp op t x) : Snd P o (.un op x) := by
  intro w0 K h nx env a out h' nx' g he hev
  simp only [opEv] at hev
  split at hev
  · rename_i y hy
    split at hev
    · rename_i r hr
      cases hev
      have hv := oev_sound he hy
      generalize hcx : a.eval x = cx at hv
      unfold unA at hr
      split at hr
      · cases hr
        cases hv
        exact snd_val g (v := .int _ _) (by simp [execOp, ho, hcx, Op.unary, Op.intArith]) (.int _ _)
      · rename_i k n
        cases hv
        simp only [bitsA, Option.map_some, Option.some.injEq] at hr
        subst hr
        exact snd_val g (v := .int _ _) (by simp [execOp, ho, hcx, Op.unary, Op.intBits]) (.int _ _)
      · cases hr
        cases hv
        exact snd_val g (v := .bool _) (by simp [execOp, ho, hcx, Op.unary]) (.bool _)
      · cases hr
    · cases hev
  · cases hev
theorem snd_conv {src dst : TypeId} {k : IntKind} {d : TypeDesc} {x : Operand} (ho : o.op = .convert src dst x) (hs : P.underlying src = some d) (hd : P.underlying dst = some (.int k)) : Snd P o (.conv k x) := by
  intro w0 K h nx env a out h' nx' g he hev
  simp only [opEv] at hev
  split at hev
  · rename_i k' n hx
    cases hev
    have hv := oev_sound he hx
    generalize hcx : a.eval x = cx at hv
    cases hv
    refine snd_val g (v := .int k (k.wrap n)) ?_ (.int _ _)
    simp [execOp, ho, hcx, convert, run_underlying hs, run_underlying hd, Conv.intToInt]
  · cases hev
theorem bytesOf_sound {K : Wd} {nx : Nat} : ∀ {cs : List AV} {bs : List UInt8} {c : List Value}, bytesOf cs = some bs → CR K nx cs c → ∃ ns : List Int, c = ns.map (Value.int .u8) ∧ bs = ns.map fun n => UInt8.ofNat n.toNat
  | [], bs, c, h, hc => by
    simp only [bytesOf, Option.some.injEq] at h; subst h
    have := hc.len
    exact ⟨[], by simpa using this, rfl⟩
  | x :: cs, bs, c, h, hc => by
    cases c with
    | nil => have := hc.len; simp at this
    | cons v c =>
      have hv := hc.at_ 0 x v rfl rfl
      have hr : CR K nx cs c := by simpa using hc.drop 1
      unfold bytesOf at h
      split at h
      case h_1 => rename_i he; cases he
      case h_3 => cases h
      rename_i n r he
      cases he
      obtain ⟨bs', hb, rfl⟩ := Option.map_eq_some_iff.1 h
      obtain ⟨ns, h1, h2⟩ := bytesOf_sound hb hr
      cases hv
      exact ⟨n :: ns, by rw [h1]; rfl, by rw [h2]; rfl⟩
theorem snd_convBS {src dst e : TypeId} {x : Operand} (ho : o.op = .convert src dst x) (hs : P.underlying src = some (.slice e)) (he : P.underlying e = some (.int .u8)) (hd : P.underlying dst = some .string) : Snd P o (.convBS x) := by
  intro w0 K h nx env a out h' nx' g hr hev
  simp only [opEv] at hev
  split at hev
  case h_2 => cases hev
  rename_i s hs0
  split at hev
  case isFalse => cases hev
  rename_i hsz
  split at hev
  case h_2 => cases hev
  rename_i m cs hcs
  split at hev
  case h_2 => cases hev
  rename_i bs hbs
  cases hev
  have hv := oev_sound hr hs0
  generalize hcx : a.eval x = cx at hv
  obtain ⟨A, cap, c, rfl, hmc, hmm, hcr, hnl, hcell, hA⟩ := sliceCells_sound g hcs hsz hv
  obtain ⟨ns, rfl, rfl⟩ := bytesOf_sound hbs hcr
  have hlen : ns.length = m := by have := hcr.len; simp at this; omega
  rcases Nat.eq_zero_or_pos m with h0 | h0
  · have : ns = [] := List.length_eq_zero_iff.1 (by omega)
    subst this; subst h0
    cases A with
    | none => exact snd_val g (v := .string ByteArray.empty) (by have := run_convert_bytes_nil (w := K.w) (P := P) src e hs he 0 cap dst hd; simp [execOp, ho, hcx, this]) (.str _ _ rfl)
    | some b =>
      have hl : (loadCells b 0).run P K.w = .ok (([] : List Int).map (Value.int .u8)).toArray K.w := by simp [loadCells, loadCellsFrom]
      have := run_bytesToString K.w b 0 cap [] hl
      exact snd_val g (v := .string ByteArray.empty) (by simp [execOp, ho, hcx, run_convert_bytes_string K.w src dst e (some b) 0 cap hs he hd, this]) (.str _ _ rfl)
  · obtain ⟨b, rfl, hc⟩ := hcell h0
    have hl : (loadCells b m).run P K.w = .ok (ns.map (Value.int .u8)).toArray K.w := by
      have := run_loadCells_list (P := P) K.w b (ns.map (Value.int .u8)) hc
      simpa [hlen] using this
    have hb := run_bytesToString K.w b m cap ns hl
    rw [foldl_push_bytes] at hb
    refine snd_val g (v := .string ⟨ByteArray.empty.data ++ (ns.map fun n => UInt8.ofNat n.toNat).toArray⟩) ?_ (.str _ _ ?_)
    · have hr1 : (convert src dst (.slice (some b) m cap)).run P K.w = _ := (run_convert_bytes_string K.w src dst e (some b) m cap hs he hd).trans hb
      simp only [execOp, ho, hcx, Sem.run_bind, hr1, Result.andThen_ok, Sem.run_pure]
    · simp [ByteArray.empty, ByteArray.emptyWithCapacity]
      rfl
theorem snd_convS {src dst : TypeId} {x : Operand} (ho : o.op = .convert src dst x) (hs : P.underlying src = some .string) (hd : P.underlying dst = some .string) : Snd P o (.convS x) := by
  intro w0 K h nx env a out h' nx' g he hev
  simp only [opEv] at hev
  split at hev
  · rename_i s hx
    cases hev
    have hv := oev_sound he hx
    generalize hcx : a.eval x = cx at hv
    cases hv with
    | str _ q hq => exact snd_val g (v := .string q) (by simp [execOp, ho, hcx, convert, run_underlying hs, run_underlying hd]) (.str _ q hq)
  · cases hev
theorem snd_mkif {t : TypeId} {d : TypeDesc} {x : Operand} (ho : o.op = .makeInterface t x) (ht : P.underlying t = some d) (hd : ∀ ms, d ≠ .interface ms) : Snd P o (.mkif t x) := by
  intro w0 K h nx env a out h' nx' g he hev
  simp only [opEv] at hev
  split at hev
  · rename_i y hy
    cases hev
    refine snd_val g (v := .iface t (a.eval x)) ?_ (.ifc _ _ _ (oev_sound he hy))
    simp only [execOp, ho, Instr.makeInterface, Sem.run_bind, run_underlying ht, Result.andThen_ok]
    cases d <;> first | rfl | (rename_i ms; exact absurd rfl (hd ms))
  · cases hev
theorem oevs_sound {K : Wd} {nx : Nat} {env : Env} {a : Act} (he : EnvR K nx env a.tmps) : ∀ (xs : List Operand) (ys : List AV), oevs env xs = some ys → ys.length = xs.length ∧ ∀ (i : Nat) (y : AV) (v : Value), ys[i]? = some y → (xs.map a.eval)[i]? = some v → VR K nx y v
  | [], ys, h => by
    simp only [oevs, Option.some.injEq] at h; subst h
    exact ⟨rfl, fun i y v h => by simp at h⟩
  | x :: xs, ys, h => by
    simp only [oevs] at h
    split at h
    · rename_i y zs hy hzs
      simp only [Option.some.injEq] at h; subst h
      obtain ⟨h1, h2⟩ := oevs_sound he xs zs hzs
      refine ⟨by simp [h1], fun i y' v hi hv => ?_⟩
      cases i with
      | zero => simp at hi hv; subst hi; subst hv; exact oev_sound he hy
      | succ i => simp only [List.getElem?_cons_succ, List.map_cons] at hi hv; exact h2 i y' v hi hv
    · cases h
theorem snd_mkfn {f : Fn} {caps : Array Operand} (ho : o.op = .makeFunc f #[] caps) : Snd P o (.mkfn f caps.toList) := by
  intro w0 K h nx env a out h' nx' g he hev
  simp only [opEv] at hev
  split at hev
  · rename_i cs hcs
    cases hev
    obtain ⟨h1, h2⟩ := oevs_sound he _ _ hcs
    refine snd_val g (v := .func f #[] (caps.map a.eval)) (by simp [execOp, ho, Instr.makeFunc]) (.fn f cs _ (by simp [h1]) fun i x v hx hv => h2 i x v hx (by simpa using hv))
  · cases hev
theorem snd_mkbm {f : Fn} {first caps : Array Operand} (ho : o.op = .makeFunc f first caps) : Snd P o (.mkbm f first.toList caps.toList) := by
  intro w0 K h nx env a out h' nx' g he hev
  simp only [opEv] at hev
  split at hev
  · rename_i as cs has hcs
    cases hev
    obtain ⟨h1, h2⟩ := oevs_sound he _ _ hcs
    obtain ⟨h3, h4⟩ := oevs_sound he _ _ has
    refine snd_val g (v := .func f (first.map a.eval) (caps.map a.eval)) (by simp [execOp, ho, Instr.makeFunc]) (.bm f as cs _ _ (by simp [h3]) (by simp [h1]) (fun i x v hx hv => h4 i x v hx (by simpa using hv)) fun i x v hx hv => h2 i x v hx (by simpa using hv))
  · cases hev
theorem madeCells_rep {z : Array Value} {n : Nat} (hz : 0 < z.size ∨ n = 0) : (madeCells z (n * z.size)).toList = (List.replicate n z.toList).flatten := by
  have hg : ∀ (n : Nat) (l : List Value) (k : Nat), k < n * l.length → (List.replicate n l).flatten[k]? = l[k % l.length]? := by
    intro n l
    induction n with
    | zero => intro k hk; simp at hk
    | succ n ih =>
      intro k hk
      rw [List.replicate_succ, List.flatten_cons, List.getElem?_append]
      split
      · rename_i h; rw [Nat.mod_eq_of_lt h]
      · rename_i h
        have e1 : k % l.length = (k - l.length) % l.length := Nat.mod_eq_sub_mod (by omega)
        rw [e1, ih _ (by rw [Nat.succ_mul] at hk; omega)]
  apply List.ext_getElem?
  intro k
  by_cases hk : k < n * z.size
  · rw [hg n z.toList k (by simpa using hk)]
    have hpos : 0 < z.size := by
      rcases hz with h | h
      · exact h
      · subst h; simp at hk
    have hm : k % z.size < z.size := Nat.mod_lt _ hpos
    simp only [madeCells, Array.getElem?_toList, Array.getElem?_map, Array.getElem?_range, if_pos hk, Option.map_some, Array.length_toList]
    simp [hm]
  · rw [List.getElem?_eq_none (by simp [madeCells]; omega), List.getElem?_eq_none (by simp; omega)]
theorem snd_mksl {t e : TypeId} {z : List AV} {l c : Operand} (ho : o.op = .makeSlice t l c) (hu : P.underlying t = some (.slice e)) (hz : zeroT P e = some z) (hzl : z.length = P.cellsOf e) : Snd P o (.mksl e z (P.bytesOf e) l c) := by
  intro w0 K h nx env a out h' nx' g he hev
  simp only [opEv] at hev
  split at hev
  · rename_i kl l' kc c' hl hc
    split at hev
    · rename_i hcond
      cases hev
      obtain ⟨h0, hlc, hby, h63⟩ := hcond
      obtain ⟨i, v, hi, hv, hzz, _⟩ := run_zeroT hz
      have hcr : CR K nx z v.cells.toList := CR.ofC hzz
      have hvl : v.cells.size = z.length := by have := hcr.len; simpa using this
      have hs : i.size = z.length := by rw [hzl]; simp [Program.cellsOf, hi]
      have hb : P.bytesOf e = i.bytes := by simp [Program.bytesOf, hi]
      rw [hb] at hby
      have hvx := oev_sound he hl
      have hvy := oev_sound he hc
      generalize hcx : a.eval l = cx at hvx
      generalize hcy : a.eval c = cy at hvy
      cases hvx; cases hvy
      have hrun := run_make (P := P) K.w t e i v hu hi hv kl kc l' c' h0 hlc hby h63
      obtain ⟨blk, hblk⟩ : ∃ blk, blk = madeCells v.cells (c'.toNat * i.size) := ⟨_, rfl⟩
      rw [← hblk] at hrun
      have hbs : blk.size = c'.toNat * z.length := by rw [hblk, size_madeCells, hs]
      have hrep : ∀ n, CR K nx (List.replicate n z).flatten (List.replicate n v.cells.toList).flatten := by
        intro n
        induction n with
        | zero => exact .nil _ _
        | succ n ih => rw [List.replicate_succ, List.replicate_succ, List.flatten_cons, List.flatten_cons]; exact hcr.append ih
      have hlen : ((List.replicate l'.toNat z).flatten).length = l'.toNat * z.length := by simp
      have hle : l'.toNat ≤ c'.toNat := by omega
      have hble : ((List.replicate l'.toNat z).flatten).length ≤ blk.size := by rw [hlen, hbs]; exact Nat.mul_le_mul_right _ hle
      have htake : blk.toList.take ((List.replicate l'.toNat z).flatten).length = (List.replicate l'.toNat v.cells.toList).flatten := by
        rw [hlen, hblk, hs, ← hvl]
        rcases Nat.eq_zero_or_pos v.cells.size with hz0 | hz0
        · have he : v.cells.toList = [] := List.eq_nil_of_length_eq_zero (by simpa using hz0)
          rw [hz0, he]; simp
        · rw [madeCells_rep (.inl hz0)]
          have : c'.toNat = l'.toNat + (c'.toNat - l'.toNat) := by omega
          rw [this, ← List.replicate_append_replicate, List.flatten_append]
          have hll : l'.toNat * v.cells.size = ((List.replicate l'.toNat v.cells.toList).flatten).length := by simp
          rw [hll]
          exact List.take_left
      have gn := new_sound g (cs := (List.replicate l'.toNat z).flatten) (c := blk) hble (by rw [htake]; exact hrep _) e
      refine ⟨K.alloc nx (.cells blk e (0, 0)), .value _, by simp only [execOp, ho, Sem.run_bind, hcx, hcy, hrun]; rfl, Ext.alloc g _, gn, ?_⟩
      refine .os nx 0 e z.length l'.toNat _ l'.toNat c'.toNat rfl (by omega) hle (by simp only [maxLen]; omega) (fun _ => by simp [Wd.alloc]) ⟨blk, ?_, by omega⟩
      have : (K.alloc nx (.cells blk e (0, 0))).m nx = K.w.heap.size := by simp [Wd.alloc]
      rw [this]; exact alloc_new _ _
    · cases hev
  · cases hev
theorem snd_fieldA {s : TypeId} {fs : Array Field} {f : Nat} {fd : Field} {d : TypeDesc} {x : Operand} (ho : o.op = .fieldAddr s x f) (hu : P.underlying s = some (.struct fs)) (hf : fs[f]? = some fd) (hd : P.underlying fd.type = some d) (hs : sizeT P fd.type ≠ 0) :
    Snd P o (.fieldA fd.offset x) := by
  intro w0 K h nx env a out h' nx' g he hev
  simp only [opEv] at hev
  split at hev
  · rename_i y hy
    split at hev
    · rename_i r hr
      cases hev
      have hv := oev_sound he hy
      generalize hcx : a.eval x = cx at hv
      have hrun : ∀ ad : Addr, (Instr.fieldAt s (.pointer (some ad)) f).run P K.w = .ok (.pointer (some (ad.add fd.offset))) K.w := by
        intro ad
        simp [Instr.fieldAt, run_underlying hu, hf, Instr.sureAddr, fieldPlace, run_sizeT hd, hs]
      unfold addA at hr
      split at hr
      · cases hr
        cases hv with
        | fp cs ad c h1 hr h =>
          refine snd_val g (v := .pointer (some (ad.add fd.offset))) (by simp only [execOp, ho, Sem.run_bind, hcx, hrun]; rfl) ?_
          refine .fp _ _ (fun j => c (fd.offset + j)) (fun j x hx => h1 (fd.offset + j) x (by simpa using hx)) (fun k hk => ?_) (fun j x hx => h (fd.offset + j) x (by simpa using hx))
          have := hr (fd.offset + k) (by simp at hk; omega)
          have e1 : (ad.add fd.offset).add k = ad.add (fd.offset + k) := by
            unfold Addr.add
            by_cases h1 : fd.offset = 0 <;> by_cases h2 : k = 0 <;> simp [h1, h2, Nat.add_assoc]
          rw [e1]; exact this
      · rename_i b off
        cases hr
        cases hv with
        | op _ _ hb ad ha =>
          subst ha
          exact snd_val g (v := .pointer (some ((⟨K.m b, off, none⟩ : Addr).add fd.offset))) (by simp only [execOp, ho, Sem.run_bind, hcx, hrun]; rfl) (.op b _ hb _ (add_eq _ _ _))
      · cases hr
    · cases hev
  · cases hev
theorem part_sound {K : Wd} {nx : Nat} {t : TypeId} {d : TypeDesc} (ht : P.underlying t = some d) {cs : List AV} {c : Array Value} (hc : CR K nx cs c.toList) {off : Nat} {r : AV} (h : takeV (sizeT P t) (isAggT P t) (cs.drop off) = some r) (w : World) :
    ∃ v, (part t c off).run P w = .ok v w ∧ VR K nx r v := by
  unfold takeV at h
  cases hag : isAggT P t with
  | true =>
    rw [hag, if_pos rfl] at h
    split at h
    · cases h
      refine ⟨.agg (c.extract off (off + sizeT P t)), by simp [part, run_isAggT ht, hag, run_sizeT ht], ?_⟩
      have := ((hc.drop off).take (sizeT P t)).toAgg
      have e1 : ((c.toList.drop off).take (sizeT P t)).toArray = c.extract off (off + sizeT P t) := by
        apply Array.ext'
        simp only [Array.toList_extract, List.extract_eq_take_drop]
        congr 1; omega
      rw [e1] at this
      exact this
    · cases h
  | false =>
    rw [hag] at h
    simp only [Bool.false_eq_true, if_false] at h
    split at h
    · rename_i y rest hy
      cases h
      have hx : cs[off]? = some r := by have := congrArg (·[0]?) hy; simpa using this
      have hlt : off < c.size := by have := (List.getElem?_eq_some_iff.1 hx).1; have := hc.len; simp at this; omega
      refine ⟨c[off], by simp [part, run_isAggT ht, hag, hlt], hc.at_ off r _ hx (by simp [hlt])⟩
    · cases h
theorem snd_field {s : TypeId} {fs : Array Field} {f : Nat} {fd : Field} {d : TypeDesc} {x : Operand} (ho : o.op = .field s x f) (hu : P.underlying s = some (.struct fs)) (hf : fs[f]? = some fd) (hd : P.underlying fd.type = some d) :
    Snd P o (.field fd.offset (sizeT P fd.type) (isAggT P fd.type) x) := by
  intro w0 K h nx env a out h' nx' g he hev
  simp only [opEv] at hev
  split at hev
  · rename_i cs hy
    split at hev
    · rename_i r hr
      cases hev
      have hv := oev_sound he hy
      generalize hcx : a.eval x = cx at hv
      cases hv with
      | agg _ c hs h1 h =>
        obtain ⟨v, h2, h3⟩ := part_sound (K := K) hd (VR.ofAgg (.agg cs c hs h1 h)) hr K.w
        exact snd_val g (v := v) (by simp [execOp, ho, hcx, Instr.field, run_underlying hu, hf, asAgg, h2]) h3
    · cases hev
  · cases hev
theorem snd_idxA {t e : TypeId} {d : TypeDesc} {x i : Operand} (ho : o.op = .indexAddr t x i) (hu : P.underlying t = some (.slice e)) (hd : P.underlying e = some d) : Snd P o (.idxA (sizeT P e) x i) := by
  intro w0 K h nx env a out h' nx' g he hev
  simp only [opEv] at hev
  split at hev
  · rename_i y ki n hy hi
    split at hev
    · rename_i r hr
      cases hev
      have hv := oev_sound he hy
      have hvi := oev_sound he hi
      generalize hcx : a.eval x = cx at hv
      generalize hcy : a.eval i = cy at hvi
      cases hvi
      have helem : P.elem t = e := by simp [Program.elem, hu]
      have hrun : ∀ (ad : Addr) (len cap : Nat), 0 ≤ n ∧ n < len → (Instr.indexAt t (.slice (some ad) len cap) (.int ki n)).run P K.w = .ok (.pointer (some (ad.add (n.toNat * sizeT P e)))) K.w := by
        intro ad len cap hn
        rw [run_indexAt_slice K.w t ad len cap ki n (by rw [helem]; exact hu), if_pos hn, helem, run_sizeT hd]
        rfl
      unfold Go.Ab.idxA at hr
      split at hr
      · rename_i s es
        split at hr
        · rename_i hc
          obtain ⟨h0, rfl⟩ := hc
          obtain ⟨e0, he0, rfl⟩ := Option.map_eq_some_iff.1 hr
          have hlt : n.toNat < es.length := (List.getElem?_eq_some_iff.1 he0).1
          cases hv with
          | lst0 _ _ A m cap h0' hn hA => subst h0'; simp at hlt
          | lst _ _ ad m cap c hn hc hcap hsz h1 hrr h =>
            refine snd_val g (v := .pointer (some (ad.add (n.toNat * sizeT P e)))) (by simp only [execOp, ho, Sem.run_bind, hcx, hcy, hrun ad m cap ⟨h0, by omega⟩]; rfl) ?_
            have hel := hsz _ _ he0
            refine .fp e0 _ (fun j => c (n.toNat * sizeT P e + j)) (fun j x hx => h1 _ _ he0 j x hx) (fun k hk => ?_) (fun j x hx => h _ _ he0 j x hx)
            have e1 : (ad.add (n.toNat * sizeT P e)).add k = ad.add (n.toNat * sizeT P e + k) := by
              unfold Addr.add
              by_cases h1 : n.toNat * sizeT P e = 0 <;> by_cases h2 : k = 0 <;> simp [h1, h2, Nat.add_assoc]
            rw [e1]
            refine hrr _ ?_
            have : (n.toNat + 1) * sizeT P e ≤ m * sizeT P e := Nat.mul_le_mul_right _ (by omega)
            rw [Nat.succ_mul] at this
            omega
        · cases hr
      · rename_i b off ee s len
        split at hr
        · rename_i hc
          obtain ⟨h0, hlt, rfl⟩ := hc
          cases hr
          cases hv with
          | os _ _ _ _ _ ad m cap hn hb hc hcap hA hroom =>
            have ha := hA (by omega)
            subst ha
            refine snd_val g (v := .pointer (some ((⟨K.m b, off, none⟩ : Addr).add (n.toNat * sizeT P e)))) (by simp only [execOp, ho, Sem.run_bind, hcx, hcy, hrun _ m cap ⟨h0, by omega⟩]; rfl) (.op b _ hb _ (add_eq _ _ _))
        · cases hr
      · cases hr
    · cases hev
  · cases hev
theorem snd_idxR {t e : TypeId} {len : Nat} {d : TypeDesc} {x i : Operand} (ho : o.op = .indexAddr t x i) (hu : P.underlying t = some (.array len e)) (hd : P.underlying e = some d) : Snd P o (.idxR len (sizeT P e) x i) := by
  intro w0 K h nx env a out h' nx' g he hev
  simp only [opEv] at hev
  split at hev
  · rename_i y ki n hy hi
    split at hev
    · rename_i hn
      split at hev
      · rename_i r hr
        cases hev
        have hv := oev_sound he hy
        have hvi := oev_sound he hi
        generalize hcx : a.eval x = cx at hv
        generalize hcy : a.eval i = cy at hvi
        cases hvi
        have helem : P.elem t = e := by simp [Program.elem, hu]
        have hal : P.arrayLen t = len := by simp [Program.arrayLen, hu]
        have hrun : ∀ (ad : Addr), (Instr.indexAt t (.pointer (some ad)) (.int ki n)).run P K.w = .ok (.pointer (some (ad.add (n.toNat * sizeT P e)))) K.w := by
          intro ad
          rw [run_indexAt_array K.w t ad ki n (by rw [helem, hal]; exact hu), hal, if_pos hn, helem, run_sizeT hd]
          rfl
        unfold addA at hr
        split at hr
        · cases hr
          cases hv with
          | fp cs ad c h1 hr h =>
            refine snd_val g (v := .pointer (some (ad.add (n.toNat * sizeT P e)))) (by simp only [execOp, ho, Sem.run_bind, hcx, hcy, hrun]; rfl) ?_
            refine .fp _ _ (fun j => c (n.toNat * sizeT P e + j)) (fun j x hx => h1 (n.toNat * sizeT P e + j) x (by simpa using hx)) (fun k hk => ?_) (fun j x hx => h (n.toNat * sizeT P e + j) x (by simpa using hx))
            have := hr (n.toNat * sizeT P e + k) (by simp at hk; omega)
            have e1 : (ad.add (n.toNat * sizeT P e)).add k = ad.add (n.toNat * sizeT P e + k) := by
              unfold Addr.add
              by_cases h1 : n.toNat * sizeT P e = 0 <;> by_cases h2 : k = 0 <;> simp [h1, h2, Nat.add_assoc]
            rw [e1]; exact this
        · rename_i b off
          cases hr
          cases hv with
          | op _ _ hb ad ha =>
            subst ha
            exact snd_val g (v := .pointer (some ((⟨K.m b, off, none⟩ : Addr).add (n.toNat * sizeT P e)))) (by simp only [execOp, ho, Sem.run_bind, hcx, hcy, hrun]; rfl) (.op b _ hb _ (add_eq _ _ _))
        · cases hr
      · cases hev
    · cases hev
  · cases hev
theorem snd_idx {t e : TypeId} {len : Nat} {d : TypeDesc} {x i : Operand} (ho : o.op = .index t x i) (hu : P.underlying t = some (.array len e)) (hd : P.underlying e = some d) : Snd P o (.idx len (sizeT P e) (isAggT P e) x i) := by
  intro w0 K h nx env a out h' nx' g he hev
  simp only [opEv] at hev
  split at hev
  · rename_i cs ki n hy hi
    split at hev
    · rename_i hn
      split at hev
      · rename_i r hr
        cases hev
        have hv := oev_sound he hy
        have hvi := oev_sound he hi
        generalize hcx : a.eval x = cx at hv
        generalize hcy : a.eval i = cy at hvi
        cases hvi
        cases hv with
        | agg _ c hs h1 h =>
          obtain ⟨v, h2, h3⟩ := part_sound (K := K) hd (VR.ofAgg (.agg cs c hs h1 h)) hr K.w
          exact snd_val g (v := v) (by simp [execOp, ho, hcx, hcy, Instr.index, asIntOf, run_underlying hu, run_sizeT hd, hn, h2]) h3
      · cases hev
    · cases hev
  · cases hev
theorem snd_idxs {t : TypeId} {x i : Operand} (ho : o.op = .index t x i) (hu : P.underlying t = some .string) : Snd P o (.idxs x i) := by
  intro w0 K h nx env a out h' nx' g he hev
  simp only [opEv] at hev
  split at hev
  · rename_i s ki n hy hi
    split at hev
    · rename_i hn
      split at hev
      · rename_i b hb
        cases hev
        have hv := oev_sound he hy
        have hvi := oev_sound he hi
        generalize hcx : a.eval x = cx at hv
        generalize hcy : a.eval i = cy at hvi
        cases hvi
        cases hv with
        | str _ q hq =>
          subst hq
          have hq2 : q[n.toNat]? = some b := by
            rw [← hb]
            have hl : q.data.toList.length = q.size := by rw [Array.length_toList]; rfl
            have hlt : n.toNat < q.size := by rw [← hl]; exact (List.getElem?_eq_some_iff.1 hb).1
            have h1 : q.data.toList[n.toNat]? = some (q.data.toList[n.toNat]'(by rw [hl]; exact hlt)) := List.getElem?_eq_getElem _
            rw [h1, getElem?_pos q n.toNat hlt]
            simp [ByteArray.getElem_eq_getElem_data]
          exact snd_val g (v := .int .u8 b.toNat) (by simp [execOp, ho, hcx, hcy, Instr.index, asIntOf, run_underlying hu, hn, hq2]) (.int _ _)
      · cases hev
    · cases hev
  · cases hev
theorem snd_ext {x : Operand} {i : Nat} (ho : o.op = .extract x i) : Snd P o (.ext x i) := by
  intro w0 K h nx env a out h' nx' g he hev
  simp only [opEv] at hev
  split at hev
  · rename_i cs hy
    split at hev
    · rename_i y hyi
      cases hev
      have hv := oev_sound he hy
      generalize hcx : a.eval x = cx at hv
      cases hv with
      | tup _ c hs h =>
        have hlt : i < c.size := by rw [hs]; exact (List.getElem?_eq_some_iff.1 hyi).1
        exact snd_val g (v := c[i]) (by simp [execOp, ho, hcx, Instr.extract, hlt]) (h i y _ hyi (by simp [hlt]))
    · cases hev
  · cases hev
theorem lenA_sound {K : Wd} {nx : Nat} {x : AV} {n : Nat} (h : lenA x = some n) {v : Value} (hv : VR K nx x v) : ∃ A c, v = .slice A n c ∧ n ≤ c ∧ (A = none → c = 0) := by
  unfold lenA at h
  split at h <;> first | (cases h; done) | (simp only [Option.some.injEq] at h; subst h)
  · cases hv with
    | lst0 _ _ A m cap h0 hn hA => subst h0; subst hn; exact ⟨A, cap, rfl, by simp, hA⟩
    | lst _ _ ad m cap c hn hc hcap hsz h1 hr h => subst hn; exact ⟨_, cap, rfl, hc, by simp⟩
  · cases hv with
    | os _ _ _ _ _ ad m cap hn hb hc hcap hA hroom => subst hn; exact ⟨_, cap, rfl, hc, by simp⟩
  · cases hv with
    | oc _ _ _ _ _ cap ad hb hc hcap hA hroom => exact ⟨_, _, rfl, hc, by simp⟩
  · cases hv; exact ⟨_, _, rfl, by simp, by simp⟩
  · cases hv; exact ⟨_, _, rfl, by simp, by simp⟩
  · cases hv; exact ⟨_, _, rfl, by simp, by simp⟩
theorem snd_len {t e : TypeId} {x : Operand} (ho : o.op = .call { callee := .builtin .len, args := #[x], argTypes := #[t] }) (hu : P.underlying t = some (.slice e)) : Snd P o (.len x) := by
  intro w0 K h nx env a out h' nx' g he hev
  simp only [opEv] at hev
  split at hev
  · rename_i y hy
    split at hev
    · rename_i n hn
      cases hev
      have hv := oev_sound he hy
      generalize hcx : a.eval x = cx at hv
      obtain ⟨A, c, rfl, _, _⟩ := lenA_sound hn hv
      exact snd_val g (v := .int .i64 n) (by simp [execOp, ho, hcx, resolve, invoke, builtin, Builtin.len_, run_underlying hu, goInt]) (.int _ _)
    · cases hev
  · cases hev
theorem snd_lens {t : TypeId} {x : Operand} (ho : o.op = .call { callee := .builtin .len, args := #[x], argTypes := #[t] }) (hu : P.underlying t = some .string) : Snd P o (.lens x) := by
  intro w0 K h nx env a out h' nx' g he hev
  simp only [opEv] at hev
  split at hev
  · rename_i s hy
    cases hev
    have hv := oev_sound he hy
    generalize hcx : a.eval x = cx at hv
    cases hv with
    | str _ q hq =>
      have : s.length = q.size := by rw [← hq, Array.length_toList]; rfl
      rw [this]
      exact snd_val g (v := .int .i64 q.size) (by simp [execOp, ho, hcx, resolve, invoke, builtin, Builtin.len_, run_underlying hu, goInt]) (.int _ _)
  · cases hev
theorem snd_mn {ts : Array TypeId} {x y : Operand} (ho : o.op = .call { callee := .builtin .min, args := #[x, y], argTypes := ts }) : Snd P o (.mn x y) := by
  intro w0 K h nx env a out h' nx' g he hev
  simp only [opEv] at hev
  split at hev
  · rename_i k p k' q hx hy
    split at hev
    · rename_i hk; subst hk
      cases hev
      have hvx := oev_sound he hx
      have hvy := oev_sound he hy
      generalize hcx : a.eval x = cx at hvx
      generalize hcy : a.eval y = cy at hvy
      cases hvx; cases hvy
      exact snd_val g (v := .int k (if q < p then q else p)) (by simp [execOp, ho, hcx, hcy, resolve, invoke, builtin, Builtin.min_, Builtin.min2]) (.int _ _)
    · cases hev
  · cases hev
theorem snd_mx {ts : Array TypeId} {x y : Operand} (ho : o.op = .call { callee := .builtin .max, args := #[x, y], argTypes := ts }) : Snd P o (.mx x y) := by
  intro w0 K h nx env a out h' nx' g he hev
  simp only [opEv] at hev
  split at hev
  · rename_i k p k' q hx hy
    split at hev
    · rename_i hk; subst hk
      cases hev
      have hvx := oev_sound he hx
      have hvy := oev_sound he hy
      generalize hcx : a.eval x = cx at hvx
      generalize hcy : a.eval y = cy at hvy
      cases hvx; cases hvy
      exact snd_val g (v := .int k (if q > p then q else p)) (by simp [execOp, ho, hcx, hcy, resolve, invoke, builtin, Builtin.max_, Builtin.max2]) (.int _ _)
    · cases hev
  · cases hev
theorem snd_app {t e : TypeId} {i : TypeInfo} {z : Value} {s x : Operand} (ho : o.op = .call { callee := .builtin .append, args := #[s, x], argTypes := #[t, t] }) (ht : P.underlying t = some (.slice e)) (hi : P.info? e = some i) (hz : i.zero = some z)
    (hzs : z.cells.size = i.size) (hpos : 0 < i.size) : Snd P o (.app e i.size i.bytes s x) := by
  intro w0 K h nx env a out h' nx' g he hev
  simp only [opEv] at hev
  split at hev
  · rename_i s' x' hs hx
    split at hev
    · rename_i r h2 n2 hr
      cases hev
      obtain ⟨K', y, h1, h3, h4, h5⟩ := append_sound (P := P) (ty := o.type) g ht hi hz hzs hpos hr (oev_sound he hs) (oev_sound he hx)
      exact ⟨K', .value y, by simp [execOp, ho, resolve, invoke, builtin, h1], h3, h4, h5⟩
    · cases hev
  · cases hev
theorem snd_bad : Snd P o .bad := fun w0 K h nx env a out h' nx' g he hev => by simp [opEv] at hev
theorem snd_cap {t e : TypeId} {x : Operand} (ho : o.op = .call { callee := .builtin .cap, args := #[x], argTypes := #[t] }) (hu : P.underlying t = some (.slice e)) : Snd P o (.cap x) := by
  intro w0 K h nx env a out h' nx' g he hev
  simp only [opEv] at hev
  split at hev
  · rename_i hy
    cases hev
    have hv := oev_sound he hy
    generalize hcx : a.eval x = cx at hv
    cases hv
    exact snd_val g (v := .int .i64 0) (by simp [execOp, ho, hcx, resolve, invoke, builtin, Builtin.cap_, run_underlying hu, goInt]) (.int _ _)
  · rename_i hy
    cases hev
    have hv := oev_sound he hy
    generalize hcx : a.eval x = cx at hv
    cases hv
    exact snd_val g (v := .int .i64 0) (by simp [execOp, ho, hcx, resolve, invoke, builtin, Builtin.cap_, run_underlying hu, goInt]) (.int _ _)
  · rename_i cc hy
    cases hev
    have hv := oev_sound he hy
    generalize hcx : a.eval x = cx at hv
    cases hv
    exact snd_val g (v := .int .i64 cc) (by simp [execOp, ho, hcx, resolve, invoke, builtin, Builtin.cap_, run_underlying hu, goInt]) (.int _ _)
  · cases hev
theorem cr_rep {K : Wd} {nx : Nat} {z : List AV} {v : List Value} (h : CR K nx z v) : ∀ n, CR K nx (List.replicate n z).flatten (List.replicate n v).flatten
  | 0 => .nil _ _
  | n + 1 => by rw [List.replicate_succ, List.replicate_succ, List.flatten_cons, List.flatten_cons]; exact h.append (cr_rep h n)
theorem run_append_grow_zeros {P : Program} (w : World) (t tn ty e : TypeId) (i : TypeInfo) (z : Value) (k kn : IntKind) (ht : P.underlying t = some (.slice e)) (htn : P.underlying tn = some (.int kn)) (hi : P.info? e = some i) (hz : i.zero = some z)
    (b : Addr) (sLen sCap : Nat) (olds : List Value) (hlo : olds.length = sLen * i.size) (holds : ∀ j v, olds[j]? = some v → w.cell? (b.add j) = some v)
    (n : Nat) (h0 : 0 < n) (hs : 0 < i.size) (hg : sCap < sLen + n) (h63 : ((sLen + n : Nat) : Int) ≤ 9223372036854775807) (h48 : n * i.bytes ≤ 281474976710656) (hfit : Builtin.nextslicecap (sLen + n) sCap * i.bytes ≤ 281474976710656) :
    (Builtin.append_ #[t, tn] ty #[.slice (some b) sLen sCap, .int k n]).run P w =
      .ok (.slice (some ⟨w.heap.size, 0, none⟩) (sLen + n) (grownCap w (sLen + n) sCap e)) (w.drew.alloc (.cells (olds.toArray ++ Builtin.zeroCells z.cells n ++ Builtin.zeroCells z.cells (grownCap w (sLen + n) sCap e - (sLen + n))) e)) := by
  have hn : n ≠ 0 := by omega
  have hw : IntKind.i64.wrap (n : Int) = n := by rw [IntKind.wrap_i64]; omega
  have hne : ¬ (sLen + n ≤ sCap) := by omega
  have h63' : ¬ (9223372036854775807 < ((sLen : Int) + (n : Int))) := by omega
  have h48' : ¬ (281474976710656 < Builtin.nextslicecap (sLen + n) sCap * i.bytes) := by omega
  have h48i : ¬ (281474976710656 < (n : Int) * (i.bytes : Int)) := by
    rw [← Int.natCast_mul]
    omega
  have hneg : ¬ ((n : Int) < 0) := by omega
  have hns : ¬ (n * i.size = 0) := Nat.mul_ne_zero hn (by omega)
  have hfo := run_firstCells_some (P := P) w.drew i.size sLen b sLen sCap olds hlo (by simpa using holds)
  simp [Builtin.append_, run_underlying ht, run_underlying htn, sizeOf, typeInfo, zeroValue, hi, hz, asInt, asIntOf, hw, hn, hneg, hne, hns, h63', h48', h48i, Question.forced, hfo, newRow, grownCap]
theorem snd_appZ {t tn e : TypeId} {i : TypeInfo} {kn : IntKind} {z : List AV} {s n : Operand} (ho : o.op = .call { callee := .builtin .append, args := #[s, n], argTypes := #[t, tn] }) (ht : P.underlying t = some (.slice e)) (htn : P.underlying tn = some (.int kn)) (hi : P.info? e = some i)
    (hz : zeroT P e = some z) (hzl : z.length = P.cellsOf e) (hpos : 0 < i.size) : Snd P o (.appZ e z i.bytes s n) := by
  intro w0 K h nx env a out h' nx' g he hev
  simp only [opEv] at hev
  split at hev
  · rename_i kl l' hs hn
    split at hev
    · rename_i hcond
      cases hev
      obtain ⟨h0, hby, hmx⟩ := hcond
      obtain ⟨i', v, hi', hv, hzz, _⟩ := run_zeroT hz
      rw [hi] at hi'; injection hi' with hi'; subst hi'
      have hcr : CR K nx z v.cells.toList := CR.ofC hzz
      have hvl : v.cells.size = z.length := by have := hcr.len; simpa using this
      have hs' : i.size = z.length := by rw [hzl]; simp [Program.cellsOf, hi]
      have hvx := oev_sound he hs
      have hvy := oev_sound he hn
      generalize hcx : a.eval s = cx at hvx
      generalize hcy : a.eval n = cy at hvy
      cases hvx; cases hvy
      obtain ⟨m, rfl⟩ : ∃ m : Nat, l' = (m : Int) := ⟨l'.toNat, by omega⟩
      simp only [Int.toNat_natCast] at hby hmx ⊢
      have h63 : m ≤ 9223372036854775807 := by simp only [maxLen] at hmx; omega
      have hge := grownCap_ge K.w m 0 e
      have hcm := grownCap_le_maxLen K.w m 0 e hmx
      have hrun := Go.Lib.run_append_nil_zeros (P := P) K.w t tn o.type e i v kl kn ht htn hi hv m (by omega) hpos (by omega) (by omega)
      obtain ⟨cap, hcapd⟩ : ∃ cap, cap = grownCap K.w m 0 e := ⟨_, rfl⟩
      rw [← hcapd] at hge hcm hrun
      have gd : Good w0 { K with w := K.w.drew } h nx := g.drew (K.w.drawn + 1)
      have ed : Ext K nx { K with w := K.w.drew } nx := Ext.of_heap rfl
      obtain ⟨blk, hblk⟩ : ∃ blk, blk = Builtin.zeroCells v.cells m ++ Builtin.zeroCells v.cells (cap - m) := ⟨_, rfl⟩
      have hbs : blk.size = cap * z.length := by
        rw [hblk]; simp only [Array.size_append, size_zeroCells, hvl, ← Nat.add_mul]
        congr 1; omega
      have hrep : ∀ n, CR K nx (List.replicate n z).flatten (List.replicate n v.cells.toList).flatten := by
        intro n
        induction n with
        | zero => exact .nil _ _
        | succ n ih => rw [List.replicate_succ, List.replicate_succ, List.flatten_cons, List.flatten_cons]; exact hcr.append ih
      have hlen : ((List.replicate m z).flatten).length = m * z.length := by simp
      have hble : ((List.replicate m z).flatten).length ≤ blk.size := by rw [hlen, hbs]; exact Nat.mul_le_mul_right _ hge
      have hzc : (Builtin.zeroCells v.cells m).toList = (List.replicate m v.cells.toList).flatten := madeCells_rep (.inl (by omega))
      have htake : blk.toList.take ((List.replicate m z).flatten).length = (List.replicate m v.cells.toList).flatten := by
        rw [hlen, hblk, Array.toList_append, ← hvl, ← hzc]
        have : m * v.cells.size = (Builtin.zeroCells v.cells m).toList.length := by simp [size_zeroCells]
        rw [this]
        exact List.take_left
      have gn := new_sound (K := { K with w := K.w.drew }) gd (cs := (List.replicate m z).flatten) (c := blk) hble (by rw [htake]; exact (hrep _).mono ed) e
      refine ⟨Wd.alloc { K with w := K.w.drew } nx (.cells blk e (0, 0)), .value (.slice (some ⟨K.w.heap.size, 0, none⟩) m cap), ?_, ed.trans (Ext.alloc gd _), gn, ?_⟩
      · simp only [execOp, ho, Sem.run_bind, resolve, invoke, builtin, Sem.run_pure, Result.andThen_ok, List.map_toArray, List.map_cons, List.map_nil, hcx, hcy, hrun, ← hblk]
        rfl
      refine .os nx 0 e z.length m _ m cap rfl (by omega) hge hcm (fun _ => by simp [Wd.alloc]) ⟨blk, ?_, by omega⟩
      have hmn : (Wd.alloc { K with w := K.w.drew } nx (.cells blk e (0, 0))).m nx = K.w.heap.size := by simp [Wd.alloc]
      rw [hmn]
      exact alloc_new K.w.drew _
    · cases hev
  · rename_i b off e' sz' len cap kl l' hs hn
    split at hev
    · rename_i cs hb
      split at hev
      · rename_i hcond
        cases hev
        obtain ⟨rfl, rfl, rfl, h0, hgr, hcl, hby, hmx⟩ := hcond
        obtain ⟨i', v, hi', hv, hzz, _⟩ := run_zeroT hz
        rw [hi] at hi'; injection hi' with hi'; subst hi'
        have hcr : CR K nx z v.cells.toList := CR.ofC hzz
        have hvl : v.cells.size = z.length := by have := hcr.len; simpa using this
        have hs' : i.size = z.length := by rw [hzl]; simp [Program.cellsOf, hi]
        have hvx := oev_sound he hs
        have hvy := oev_sound he hn
        generalize hcx : a.eval s = cx at hvx
        generalize hcy : a.eval n = cy at hvy
        cases hvy
        obtain ⟨m, rfl⟩ : ∃ m : Nat, l' = (m : Int) := ⟨l'.toNat, by omega⟩
        simp only [Int.toNat_natCast] at hby hmx ⊢
        cases hvx with
        | oc _ _ _ _ _ _ ad hlt hnc hcap hA hroom =>
          obtain ⟨c, hrow, hsize⟩ := hroom
          simp only [Nat.zero_add] at hsize
          obtain ⟨l1, l2, l3, ob, l4, l5⟩ := g.live b _ hb
          rw [hrow] at l4; injection l4 with l4; subst l4
          cases l5 with
          | cells _ _ _ hs1 h1 hcc =>
            have hcr0 : CR K nx (cs.take (len * z.length)) (c.toList.take (len * z.length)) := by
              have : CR K nx cs (c.toList.take cs.length) := ⟨by simp; omega, h1, fun i x v hx hv => by
                have hi : i < cs.length := (List.getElem?_eq_some_iff.1 hx).1
                exact hcc i x v hx (by simpa [List.getElem?_take, hi] using hv)⟩
              have := this.take (len * z.length)
              rw [List.take_take, Nat.min_eq_left hcl] at this
              exact this
            have hlo : (c.toList.take (len * z.length)).length = len * i.size := by rw [hs']; simp; omega
            have hold : ∀ (j : Nat) (v : Value), (c.toList.take (len * z.length))[j]? = some v → K.w.cell? (ad.add j) = some v := by
              intro j v hv
              rcases Nat.eq_zero_or_pos cap with h0' | h0'
              · have : (c.toList.take (len * z.length))[j]? = none := by
                  apply List.getElem?_eq_none
                  rw [hlo]
                  have : len = 0 := by omega
                  rw [this]; omega
                rw [this] at hv; cases hv
              · have ha := hA h0'; subst ha
                rw [add_eq, cell_row hrow]
                rw [List.getElem?_take] at hv
                split at hv
                · simpa using hv
                · cases hv
            have hge := grownCap_ge K.w (len + m) cap e'
            have hcm := grownCap_le_maxLen K.w (len + m) cap e' hmx
            have h63 : len + m ≤ 9223372036854775807 := by simp only [maxLen] at hmx; omega
            have hmb : m * i.bytes ≤ 281474976710656 := by
              have : m * i.bytes ≤ (len + m) * i.bytes := Nat.mul_le_mul_right _ (by omega)
              omega
            obtain ⟨cap2, hcapd⟩ : ∃ cap2, cap2 = grownCap K.w (len + m) cap e' := ⟨_, rfl⟩
            have hrun := run_append_grow_zeros (P := P) K.w t tn o.type e' i v kl kn ht htn hi hv ad len cap _ hlo hold m (by omega) hpos (by omega) (by omega) hmb (growslice_fits (by omega) hby)
            rw [← hcapd] at hge hcm hrun
            have gd : Good w0 { K with w := K.w.drew } h nx := g.drew (K.w.drawn + 1)
            have ed : Ext K nx { K with w := K.w.drew } nx := Ext.of_heap rfl
            obtain ⟨blk, hblk⟩ : ∃ blk, blk = (c.toList.take (len * z.length)).toArray ++ Builtin.zeroCells v.cells m ++ Builtin.zeroCells v.cells (cap2 - (len + m)) := ⟨_, rfl⟩
            have hbs : blk.size = cap2 * z.length := by
              rw [hblk]; simp only [Array.size_append, List.size_toArray, size_zeroCells, hvl, hlo, hs', ← Nat.add_mul]
              congr 1; omega
            have hl1 : (cs.take (len * z.length) ++ (List.replicate m z).flatten).length = (len + m) * z.length := by
              rw [List.length_append, List.length_take, Nat.min_eq_left hcl, Nat.add_mul]; simp
            have hble : (cs.take (len * z.length) ++ (List.replicate m z).flatten).length ≤ blk.size := by rw [hl1, hbs]; exact Nat.mul_le_mul_right _ hge
            have hzc : (Builtin.zeroCells v.cells m).toList = (List.replicate m v.cells.toList).flatten := madeCells_rep (.inl (by omega))
            have htake : blk.toList.take (cs.take (len * z.length) ++ (List.replicate m z).flatten).length = c.toList.take (len * z.length) ++ (List.replicate m v.cells.toList).flatten := by
              have hl0 : (cs.take (len * z.length) ++ (List.replicate m z).flatten).length = (c.toList.take (len * z.length) ++ (List.replicate m v.cells.toList).flatten).length := by
                have hzl2 : (Builtin.zeroCells v.cells m).toList.length = m * v.cells.size := by simp [size_zeroCells]
                rw [hl1, List.length_append, hlo, ← hzc, hzl2, hvl, hs', Nat.add_mul]
              rw [hl0, hblk, Array.toList_append, Array.toList_append, ← hzc]
              exact List.take_left
            have gn := new_sound (K := { K with w := K.w.drew }) gd (cs := cs.take (len * z.length) ++ (List.replicate m z).flatten) (c := blk) hble (by rw [htake]; exact (hcr0.append (cr_rep hcr m)).mono ed) e'
            refine ⟨Wd.alloc { K with w := K.w.drew } nx (.cells blk e' (0, 0)), .value (.slice (some ⟨K.w.heap.size, 0, none⟩) (len + m) cap2), ?_, ed.trans (Ext.alloc gd _), gn, ?_⟩
            · simp only [execOp, ho, Sem.run_bind, resolve, invoke, builtin, Sem.run_pure, Result.andThen_ok, List.map_toArray, List.map_cons, List.map_nil, hcx, hcy, hrun, ← hblk]
              rfl
            refine .os nx 0 e' z.length (len + m) _ (len + m) cap2 rfl (by omega) hge hcm (fun _ => by simp [Wd.alloc]) ⟨blk, ?_, by omega⟩
            have hmn : (Wd.alloc { K with w := K.w.drew } nx (.cells blk e' (0, 0))).m nx = K.w.heap.size := by simp [Wd.alloc]
            rw [hmn]
            exact alloc_new K.w.drew _
      · cases hev
    · cases hev
  · cases hev
theorem srcCells_sound {w0 : World} {K : Wd} {h : Heap} {nx : Nat} (g : Good w0 K h nx) {x : AV} {k sz most : Nat} {cs : List AV} (hx : srcCells sz h x most = some (k, cs)) (hk : 0 < k) {v : Value} (hv : VR K nx x v) :
    ∃ a m cap c, v = .slice (some a) m cap ∧ k = min m most ∧ CR K nx cs c ∧ cs.length = k * sz ∧ ∀ (j : Nat) (u : Value), c[j]? = some u → K.w.cell? (a.add j) = some u := by
  unfold srcCells at hx
  split at hx
  · rename_i b off e s m cap
    split at hx
    · rename_i cs0 hb
      split at hx
      · rename_i hcond
        obtain ⟨rfl, hle⟩ := hcond
        simp only [Option.some.injEq, Prod.mk.injEq] at hx; obtain ⟨rfl, rfl⟩ := hx
        cases hv with
        | oc _ _ _ _ _ _ a hlt hc hcap hA hroom =>
          obtain ⟨_, _, _, ob, hob, hor⟩ := g.live b _ hb
          cases hor with
          | cells _ c e' hs h1 hcc =>
            have hcr0 : CR K nx cs0 (c.toList.take cs0.length) := ⟨by simp; omega, h1, fun i x v hx hv => by
              have hi : i < cs0.length := (List.getElem?_eq_some_iff.1 hx).1
              exact hcc i x v hx (by simpa [List.getElem?_take, hi] using hv)⟩
            refine ⟨a, m, cap, _, rfl, rfl, (hcr0.drop off).take (min m most * s), by simp; omega, fun j u hu => ?_⟩
            have ha := hA (by omega)
            subst ha
            rw [add_eq, cell_row hob]
            rw [List.getElem?_take] at hu
            split at hu
            · rw [List.getElem?_drop, List.getElem?_take] at hu
              split at hu
              · simpa using hu
              · cases hu
            · cases hu
      · cases hx
    · cases hx
  · split at hx
    · rename_i m news hsl
      split at hx
      · rename_i hss
        simp only [Option.some.injEq, Prod.mk.injEq] at hx; obtain ⟨rfl, rfl⟩ := hx
        obtain ⟨B, c', nv, rfl, hmc, hmm, hcr, hnl, hcell, _⟩ := sliceCells_sound g hsl hss hv
        obtain ⟨ax, rfl, hc⟩ := hcell (by omega)
        have hkm : min m most * sz ≤ m * sz := Nat.mul_le_mul_right _ (Nat.min_le_left _ _)
        exact ⟨ax, m, c', _, rfl, rfl, hcr.take _, by rw [List.length_take, hnl]; omega, fun j u hu => hc j u (by
          rw [List.getElem?_take] at hu
          split at hu
          · exact hu
          · cases hu)⟩
      · cases hx
    · cases hx
theorem snd_copy {t e : TypeId} {i : TypeInfo} {d x : Operand} (ho : o.op = .call { callee := .builtin .copy, args := #[d, x], argTypes := #[t, t] }) (ht : P.underlying t = some (.slice e)) (hi : P.info? e = some i) : Snd P o (.copy i.size d x) := by
  intro w0 K h nx env a out h' nx' g he hev
  simp only [opEv] at hev
  split at hev
  case h_2 => cases hev
  rename_i yd yx hyd hyx
  split at hev
  case h_2 => cases hev
  rename_i k h2 hcp
  cases hev
  have hvd := oev_sound he hyd
  have hvx := oev_sound he hyx
  generalize hcd : a.eval d = cd at hvd
  generalize hcx : a.eval x = cx at hvx
  have key : ∀ (b off dl cap k : Nat) (ad : Addr) (cs news : List AV), srcCells i.size h yx dl = some (k, news) → hget h b = some (.cells cs) → (0 < dl → ad = ⟨K.m b, off, none⟩) → off ≤ cs.length → (∀ c e, K.w.heap[K.m b]? = some (.cells c e (0, 0)) → off + k * i.size ≤ c.size) → 0 < k → cd = .slice (some ad) dl cap →
      ∃ K' r, (execOp a.eval o).run P K.w = .ok r K'.w ∧ Ext K nx K' nx ∧ Good w0 K' (hset h b (.cells (splice cs off news))) nx ∧ outR K' nx (.val (.int .i64 (k : Int))) r := by
    intro b off dl cap k ad cs news hsrc hb hA hle hfit hk hcd'
    obtain ⟨ax, m, c', nv, hcx', hkk, hcr, hnl, hc⟩ := srcCells_sound g hsrc hk hvx
    have ha := hA (by omega); subst ha
    have hf := run_firstCells_some (P := P) K.w i.size k ax m c' nv (by rw [hcr.len, hnl]) hc
    obtain ⟨K', hst, hext, hg⟩ := write_sound2 (P := P) g hb (off := off) (xs := news) hle (fun c e hr => by rw [hnl]; exact hfit c e hr) hcr
    refine ⟨K', .value (.int .i64 (k : Int)), ?_, hext, hg, .int _ _⟩
    have hmin : Nat.min m dl = k := hkk.symm
    simp [execOp, ho, resolve, invoke, builtin, hcd, hcx, hcd', hcx', Builtin.copy_, run_underlying ht, Builtin.lenOf, hmin, sizeOf, typeInfo, hi, hf, hst, goInt]
  unfold copyA at hcp
  split at hcp
  · rename_i b off e' s dl
    split at hcp
    · rename_i k news cs hsrc hb
      split at hcp
      · rename_i hcond
        obtain ⟨rfl, hle, hk⟩ := hcond
        simp only [Option.some.injEq, Prod.mk.injEq] at hcp; obtain ⟨rfl, rfl⟩ := hcp
        cases hvd with
        | os _ _ _ _ _ ad n cap hn hlt hnc hcap hA hroom =>
          subst hn
          refine key b off n cap k ad cs news hsrc hb (fun h => hA (by omega)) (by omega) (fun c e hr => ?_) hk rfl
          obtain ⟨_, _, _, ob, hob, hor⟩ := g.live b _ hb
          rw [hr] at hob; injection hob with hob; subst hob
          cases hor with
          | cells _ _ _ hs _ _ => omega
      · cases hcp
    · cases hcp
  · rename_i b off e' s dl cap
    split at hcp
    · rename_i k news cs hsrc hb
      split at hcp
      · rename_i hcond
        obtain ⟨rfl, hle, hk⟩ := hcond
        simp only [Option.some.injEq, Prod.mk.injEq] at hcp; obtain ⟨rfl, rfl⟩ := hcp
        cases hvd with
        | oc _ _ _ _ _ _ ad hlt hnc hcap hA hroom =>
          refine key b off dl cap k ad cs news hsrc hb (fun h => hA (by omega)) hle (fun c e hr => ?_) hk rfl
          obtain ⟨c1, hr1, hsz⟩ := hroom
          rw [hr] at hr1; injection hr1 with hr1; injection hr1 with hr1 _; subst hr1
          obtain ⟨ax, m, c', nv, hcx', hkk, hcr, hnl, hc⟩ := srcCells_sound g hsrc hk hvx
          have : k * i.size ≤ cap * i.size := Nat.mul_le_mul_right _ (by omega)
          omega
      · cases hcp
    · cases hcp
  · cases hcp
theorem snd_clear {t e : TypeId} {z : List AV} {x : Operand} (ho : o.op = .call { callee := .builtin .clear, args := #[x], argTypes := #[t] }) (ht : P.underlying t = some (.slice e)) (hz : zeroT P e = some z) : Snd P o (.clear z x) := by
  intro w0 K h nx env a out h' nx' g he hev
  simp only [opEv] at hev
  split at hev
  case h_2 => cases hev
  rename_i yx hyx
  split at hev
  case h_2 => cases hev
  rename_i h2 hcp
  cases hev
  have hvx := oev_sound he hyx
  generalize hcx : a.eval x = cx at hvx
  obtain ⟨i, v, hi, hv, hzz, _⟩ := run_zeroT hz
  have hcr : CR K nx z v.cells.toList := CR.ofC hzz
  unfold clearA at hcp
  split at hcp
  · rename_i b off e' s n cap
    split at hcp
    · rename_i cs hb
      split at hcp
      · rename_i hcond
        obtain ⟨rfl, hn, hzp, hle⟩ := hcond
        have hvl : v.cells.size = z.length := by have := hcr.len; simpa using this
        simp only [Option.some.injEq] at hcp; subst hcp
        cases hvx with
        | oc _ _ _ _ _ _ ad hlt hnc hcap hA hroom =>
          have ha := hA (by omega); subst ha
          have hzc : (Builtin.zeroCells v.cells n).toList = (List.replicate n v.cells.toList).flatten := madeCells_rep (.inl (by omega))
          obtain ⟨K', hst, hext, hg⟩ := write_sound (P := P) g hb (off := off) (xs := (List.replicate n z).flatten) (by simpa using hle) (cr_rep hcr n)
          rw [← hzc] at hst
          refine ⟨K', .value (.tuple #[]), ?_, hext, hg, .tup _ _ (by simp) (by simp)⟩
          obtain ⟨q, rfl⟩ : ∃ q, n = q + 1 := ⟨n - 1, by omega⟩
          simp [execOp, ho, resolve, invoke, builtin, hcx, Builtin.clear_, run_underlying ht, zeroValue, typeInfo, hi, hv, hst]
      · cases hcp
    · cases hcp
  · cases hcp
theorem ovl_find {fn : Func} (h0 : fn.origin = "slices.overlaps") (h1 : Extern.allGenericRows.lookup fn.name = none) (h2 : Extern.allTypedRows.lookup fn.name = none) (h3 : Extern.allRows.lookup fn.name = none) : Extern.find fn = some (Extern.SlicesOverlaps.overlaps fn.params fn.resultTypes) := by
  have e1 : Extern.allGenericRows.lookup "slices.overlaps" = none := by kernel_rfl
  have e2 : Extern.allTypedRows.lookup "slices.overlaps" = some Extern.SlicesOverlaps.overlaps := by kernel_rfl
  simp only [Extern.find, h0, h1, h2, h3, e1, e2]
  rfl
theorem ovl_findNext {fn : Func} (h0 : fn.origin = "slices.overlaps") (h1 : Extern.allNextRows.lookup fn.name = none) : Extern.findNext fn = none := by
  have e1 : Extern.allNextRows.lookup "slices.overlaps" = none := by kernel_rfl
  simp only [Extern.findNext, h0, h1, e1]
  rfl
theorem slBlk_sound {K : Wd} {nx : Nat} {x : AV} {b : Nat} (h : slBlk x = some b) {v : Value} (hv : VR K nx x v) : ∃ off n cap e c, v = .slice (some ⟨K.m b, off, none⟩) n cap ∧ K.w.heap[K.m b]? = some (.cells c e (0, 0)) ∧ c.size ≠ 0 := by
  unfold slBlk at h
  split at h
  · split at h
    · rename_i hc
      cases h
      cases hv with
      | os _ off e sz n a n' cap hn hb hnc hcap hA hroom =>
        obtain ⟨c, h1, h2⟩ := hroom
        have ha := hA (by omega); subst ha
        refine ⟨_, _, _, _, c, rfl, h1, ?_⟩
        have : 0 < cap * _ := Nat.mul_pos (show 0 < cap by omega) hc.1
        omega
    · cases h
  · split at h
    · rename_i hc
      cases h
      cases hv with
      | oc _ _ _ _ _ _ a hb hnc hcap hA hroom =>
        rename_i cap0
        obtain ⟨c, h1, h2⟩ := hroom
        have ha := hA (by omega); subst ha
        refine ⟨_, _, _, _, c, rfl, h1, ?_⟩
        have : 0 < cap0 * _ := Nat.mul_pos (show 0 < cap0 by omega) hc.1
        omega
    · cases h
  · cases h
theorem snd_ovl {f : FuncId} {x y : Operand} {tys : Array TypeId} (ho : o.op = .call { callee := .value (.func f), args := #[x, y], argTypes := tys }) (hf : isOvl P f = true) : Snd P o (.ovl x y) := by
  intro w0 K h nx env a out h' nx' g he hev
  simp only [opEv] at hev
  split at hev
  case h_2 => cases hev
  rename_i yx yy hyx hyy
  split at hev
  case isFalse => cases hev
  rename_i hov
  cases hev
  have hvx := oev_sound he hyx
  have hvy := oev_sound he hyy
  generalize hcx : a.eval x = cx at hvx
  generalize hcy : a.eval y = cy at hvy
  unfold ovA at hov
  split at hov
  case h_2 => cases hov
  rename_i b b' hb hb'
  simp only [Bool.and_eq_true, bne_iff_ne, ne_eq] at hov
  obtain ⟨hne, hov⟩ := hov
  split at hov
  case h_2 => cases hov
  rename_i c1 c2 hg1 hg2
  obtain ⟨off, n, cap, e, c, rfl, hr, _⟩ := slBlk_sound hb hvx
  obtain ⟨off', n', cap', e', c', rfl, hr', hsz'⟩ := slBlk_sound hb' hvy
  have hmne : K.m b ≠ K.m b' := fun hh => hne (g.inj b b' _ _ hg1 hg2 hh)
  unfold isOvl at hf
  split at hf
  case h_2 => cases hf
  rename_i fn hfn
  simp only [Bool.and_eq_true, Bool.not_eq_true', Option.isNone_iff_eq_none, beq_iff_eq] at hf
  obtain ⟨⟨⟨⟨⟨⟨⟨f1, f2⟩, f3⟩, f4⟩, f5⟩, f6⟩, f7⟩, f8⟩ := hf
  split at f8
  case h_2 => cases f8
  rename_i t t' tr hp hr1
  simp only [Bool.and_eq_true, beq_iff_eq] at f8
  obtain ⟨rfl, f8⟩ := f8
  split at f8
  case h_2 => cases f8
  rename_i el hel
  obtain ⟨ie, hie⟩ := Option.isSome_iff_exists.1 f8
  have hpar : fn.params = #[t, t] := by rw [← Array.toArray_toList (xs := fn.params), hp]
  have hres : fn.resultTypes = #[tr] := by rw [← Array.toArray_toList (xs := fn.resultTypes), hr1]
  have hrun := run_callFunc_extern (P := P) hfn (by simpa using f2) (by simp [f1]) (ovl_findNext f7 f3) (ovl_find f7 f4 f5 f6) #[.slice (some ⟨K.m b, off, none⟩) n cap, .slice (some ⟨K.m b', off', none⟩) n' cap'] K.w
  rw [hpar, hres, Go.Lib.run_overlaps_apart K.w t tr el hel ie.size (fun w => by simp [sizeOf, typeInfo, hie]) ⟨K.m b, off, none⟩ ⟨K.m b', off', none⟩ n cap n' cap' hmne e e' c.size c'.size (by simp [World.shape?, hr]) (by simp [World.shape?, hr']) hsz' (by simp [World.frozen?, hr]) (by simp [World.frozen?, hr])] at hrun
  refine snd_val g (v := .bool false) ?_ (.bool _)
  simp only [execOp, ho, Sem.run_bind, resolve, Act.eval, Deferred.ofValue, Sem.run_pure, Result.andThen_ok, invoke]
  have he2 : (#[] : Array Value) ++ (#[x, y] : Array Operand).map a.eval ++ #[] = #[.slice (some ⟨K.m b, off, none⟩) n cap, .slice (some ⟨K.m b', off', none⟩) n' cap'] := by simp [hcx, hcy]
  simp [hcx, hcy, hrun, Result.andThen]
theorem bnd_sound {K : Wd} {nx : Nat} {env : Env} {a : Act} (he : EnvR K nx env a.tmps) {x : Option Operand} {d n : Nat} (h : bnd env x d = some n) : (x = none ∧ n = d) ∨ ∃ y k, x = some y ∧ a.eval y = .int k (n : Int) := by
  unfold bnd at h
  split at h
  · simp only [Option.some.injEq] at h; exact .inl ⟨rfl, h.symm⟩
  · rename_i y
    split at h
    · rename_i k m hm
      split at h
      · rename_i h0
        simp only [Option.some.injEq] at h
        have hv := oev_sound he hm
        generalize hcx : a.eval y = cx at hv
        cases hv
        exact .inr ⟨y, k, rfl, by rw [hcx, ← h]; congr 1; omega⟩
      · cases h
    · cases h
theorem snd_slc {t e : TypeId} {d : TypeDesc} {x : Operand} {lo hi mx : Option Operand} (ho : o.op = .slice t x lo hi mx) (hu : P.underlying t = some (.slice e)) (hd : P.underlying e = some d) (hmx : mx ≠ none → hi ≠ none) : Snd P o (.slc (sizeT P e) x lo hi mx) := by
  intro w0 K h nx env a out h' nx' g he hev
  simp only [opEv] at hev
  split at hev
  case h_2 => cases hev
  rename_i y hy
  split at hev
  case h_2 => cases hev
  rename_i n hn
  split at hev
  case h_2 => cases hev
  rename_i l hh hl hhh
  have hv := oev_sound he hy
  generalize hcx : a.eval x = cx at hv
  obtain ⟨A, c, rfl, hnc, hAc⟩ := lenA_sound hn hv
  have helem : P.elem t = e := by simp [Program.elem, hu]
  have hu' : P.underlying t = some (.slice (P.elem t)) := by rw [helem]; exact hu
  have key : ∀ (m : Nat) (om : Option Nat), l ≤ hh → hh ≤ m → (om = none → m = c ∧ hh ≤ c) → (∀ q, om = some q → q = m ∧ m ≤ c) → ((mx = none ∧ om = none) ∨ (∃ z k, mx = some z ∧ a.eval z = .int k (m : Int) ∧ om = some m)) → (∀ q, om = some q → hi ≠ none) →
      (execOp a.eval o).run P K.w = .ok (.value (sliced A l hh m (sizeT P e))) K.w := by
    intro m om h1 h2 h3 h4 h5 h6
    have hsl : (Instr.sliceBounds true n c (lo.map a.eval) (hi.map a.eval) (mx.map a.eval)).run P K.w = .ok (l, hh, m) K.w := by
      have hlo := bnd_sound he hl
      have hhi := bnd_sound he hhh
      rcases h5 with ⟨rfl, rfl⟩ | ⟨z, k, rfl, hz, rfl⟩
      · obtain ⟨rfl, hc⟩ := h3 rfl
        rcases hlo with ⟨rfl, rfl⟩ | ⟨y1, k1, rfl, e1⟩ <;> rcases hhi with ⟨rfl, rfl⟩ | ⟨y2, k2, rfl, e2⟩ <;> simp [Instr.sliceBounds, run_sliceBound, *]
      · have hmc := (h4 m rfl).2
        have hhn := h6 m rfl
        rcases hlo with ⟨rfl, rfl⟩ | ⟨y1, k1, rfl, e1⟩ <;> rcases hhi with ⟨rfl, rfl⟩ | ⟨y2, k2, rfl, e2⟩ <;> first | exact absurd rfl hhn | simp [Instr.sliceBounds, run_sliceBound, *]
    simp only [execOp, ho, Sem.run_bind, hcx, run_sliceAt_slice K.w t _ _ _ _ hu', run_slice_any K.w t A n c hu', hsl, helem, run_sizeT hd, Result.andThen_ok, Sem.run_pure]
  have frozen : ∀ (s : Nat) (es : List (List AV)) (m : Nat), y = .lst s es → l ≤ hh → hh ≤ es.length → s = sizeT P e → hh ≤ m → m ≤ c → VR K nx (.lst s ((es.take hh).drop l)) (sliced A l hh m (sizeT P e)) := by
    intro s es m hy' h1 h2 h3 h4 h5
    subst hy'; subst h3
    by_cases hem : l = hh
    · subst hem
      refine .lst0 _ _ _ _ _ (by simp) (by omega) ?_
      intro hA
      split at hA
      · omega
      · cases A with
        | none => have := hAc rfl; omega
        | some a => simp at hA
    · cases hv with
      | lst0 _ _ A m' cap h0' hn' hA => subst h0'; simp at h2; omega
      | lst _ _ ad m' cap cf hn' hc hcap hsz h1' hrr h' =>
        have hne : ¬ m = l := by omega
        simp only [sliced, if_neg hne, Option.map_some]
        have hget : ∀ (i : Nat) (e0 : List AV), ((es.take hh).drop l)[i]? = some e0 → es[l + i]? = some e0 ∧ l + i < hh := by
          intro i e0 hi0
          rw [List.getElem?_drop, List.getElem?_take] at hi0
          split at hi0
          · rename_i hlt; exact ⟨hi0, hlt⟩
          · cases hi0
        refine .lst _ _ _ _ _ (fun k => cf (l * sizeT P e + k)) (by simp; omega) (by omega) (by omega) (fun i e0 he0 => hsz _ _ (hget i e0 he0).1) (fun i e0 he0 j x hx => h1' _ _ (hget i e0 he0).1 j x hx) (fun k hk => ?_) (fun i e0 he0 j x hx => ?_)
        · have e1 : (ad.add (l * sizeT P e)).add k = ad.add (l * sizeT P e + k) := by
            unfold Addr.add
            by_cases h1 : l * sizeT P e = 0 <;> by_cases h2 : k = 0 <;> simp [h1, h2, Nat.add_assoc]
          rw [e1]
          refine hrr _ ?_
          have : l * sizeT P e + (hh - l) * sizeT P e = hh * sizeT P e := by rw [← Nat.add_mul]; congr 1; omega
          have : hh * sizeT P e ≤ n * sizeT P e := Nat.mul_le_mul_right _ (by omega)
          omega
        · have := h' _ _ (hget i e0 he0).1 j x hx
          have e2 : (l + i) * sizeT P e + j = l * sizeT P e + (i * sizeT P e + j) := by rw [Nat.add_mul, Nat.add_assoc]
          rw [e2] at this
          exact this
  cases hmxc : mx with
  | none =>
    rw [hmxc] at hev
    simp only at hev
    split at hev
    · rename_i r hr
      cases hev
      have hk := fun h1 h2 => key c none h1 h2 (fun _ => ⟨rfl, h2⟩) (fun q hq => by cases hq) (.inl ⟨hmxc, rfl⟩) (fun q hq => by cases hq)
      unfold slcA at hr
      split at hr
      · rename_i s es _
        split at hr
        · rename_i hc
          cases hr
          have hn' : n = es.length := by simpa [lenA] using hn.symm
          exact snd_val g (hk hc.1 (by omega)) (frozen s es c rfl hc.1 hc.2.1 hc.2.2 (by omega) (Nat.le_refl _))
        · cases hr
      · contradiction
      · rename_i b off e' s len _
        split at hr
        · rename_i hc
          obtain ⟨h1, h2, rfl⟩ := hc
          cases hr
          have hn' : n = len := by simpa [lenA] using hn.symm
          subst hn'
          cases hv with
          | os _ _ _ _ _ ad m cap hn' hb hc hcap hA hroom =>
            obtain ⟨blk, hb1, hb2⟩ := hroom
            refine snd_val g (hk h1 (by omega)) ?_
            have hsl : sliced (some ad) l hh c (sizeT P e) = .slice (some (if c = l then ad else ad.add (l * sizeT P e))) (hh - l) (c - l) := by
              unfold sliced; split <;> rfl
            rw [hsl]
            refine .os b _ _ _ _ _ _ _ rfl hb (by omega) (by omega) (fun h0 => ?_) ⟨blk, hb1, ?_⟩
            · rw [if_neg (by omega), hA (by omega), add_eq]
            · have : l * sizeT P e + (c - l) * sizeT P e = c * sizeT P e := by rw [← Nat.add_mul]; congr 1; omega
              omega
        · cases hr
      · contradiction
      · rename_i b off e' s len cap _
        split at hr
        · rename_i hc
          obtain ⟨h1, h2, rfl⟩ := hc
          cases hr
          cases hv with
          | oc _ _ _ _ _ _ ad hb hc hcap hA hroom =>
            obtain ⟨blk, hb1, hb2⟩ := hroom
            refine snd_val g (hk h1 (by omega)) ?_
            have hsl : sliced (some ad) l hh c (sizeT P e) = .slice (some (if c = l then ad else ad.add (l * sizeT P e))) (hh - l) (c - l) := by
              unfold sliced; split <;> rfl
            rw [hsl]
            refine .oc b _ _ _ _ _ _ hb (by omega) (by omega) (fun h0 => ?_) ⟨blk, hb1, ?_⟩
            · rw [if_neg (by omega), hA (by omega), add_eq]
            · have : l * sizeT P e + (c - l) * sizeT P e = c * sizeT P e := by rw [← Nat.add_mul]; congr 1; omega
              omega
        · cases hr
      · contradiction
      · split at hr
        · rename_i hc
          cases hr
          obtain ⟨rfl, rfl⟩ := hc
          cases hv
          exact snd_val g (hk (by omega) (by omega)) .nilS
        · cases hr
      · contradiction
      · split at hr
        · rename_i hc
          cases hr
          obtain ⟨rfl, rfl⟩ := hc
          cases hv
          exact snd_val g (hk (by omega) (by omega)) (.emp _)
        · cases hr
      · contradiction
      · cases hr
    · cases hev
  | some mo =>
    rw [hmxc] at hev
    simp only at hev
    split at hev
    · rename_i m hm
      split at hev
      · rename_i r hr
        cases hev
        have hmv : ∃ z k, mx = some z ∧ a.eval z = .int k (m : Int) ∧ some m = some m := by
          rcases bnd_sound he hm with ⟨h, _⟩ | ⟨y, k, h, h2⟩
          · cases h
          · cases h; exact ⟨_, k, hmxc, h2, rfl⟩
        have hk := fun h1 h2 h3 => key m (some m) h1 h2 (fun h => by cases h) (fun q hq => by cases hq; exact ⟨rfl, h3⟩) (.inr hmv) (fun _ _ => hmx (by rw [hmxc]; simp))
        have hzz : l = hh → hh = m → m ≤ c → VR K nx .emp (sliced A l hh m (sizeT P e)) := by
          intro h1 h2 h3
          subst h1; subst h2
          simp only [sliced, if_true, Nat.sub_self]
          exact .emp A
        unfold slcA at hr
        split at hr
        · contradiction
        · rename_i s es m' heq
          cases heq
          split at hr
          · rename_i hc
            have hn' : n = es.length := by simpa [lenA] using hn.symm
            split at hr
            · cases hr
              exact snd_val g (hk hc.1 hc.2.1 (by omega)) (hzz (by omega) (by omega) (by omega))
            · cases hr
              exact snd_val g (hk hc.1 hc.2.1 (by omega)) (frozen s es m rfl hc.1 (by omega) hc.2.2.2 hc.2.1 (by omega))
          · cases hr
        · contradiction
        · rename_i b off e' s len m' heq
          cases heq
          split at hr
          · rename_i hc
            cases hr
            have hn' : n = len := by simpa [lenA] using hn.symm
            exact snd_val g (hk (by omega) (by omega) (by omega)) (hzz (by omega) (by omega) (by omega))
          · cases hr
        · contradiction
        · rename_i b off e' s len cap m' heq
          cases heq
          split at hr
          · rename_i hc
            cases hr
            cases hv with
            | oc _ _ _ _ _ _ ad hb hc' hcap hA hroom =>
              exact snd_val g (hk (by omega) (by omega) (by omega)) (.any _ (by unfold sliced; split <;> rfl))
          · cases hr
        · contradiction
        · rename_i m' heq
          cases heq
          split at hr
          · rename_i hc
            cases hr
            obtain ⟨rfl, rfl, rfl⟩ := hc
            cases hv
            exact snd_val g (hk (by omega) (by omega) (by omega)) (by simp only [sliced, if_true, Nat.sub_self]; exact .nilS)
          · cases hr
        · contradiction
        · rename_i m' heq
          cases heq
          split at hr
          · rename_i hc
            cases hr
            obtain ⟨rfl, rfl, rfl⟩ := hc
            exact snd_val g (hk (by omega) (by omega) (by omega)) (hzz rfl rfl (by omega))
          · cases hr
        · cases hr
      · cases hev
    · cases hev
theorem snd_slcs {t : TypeId} {x : Operand} {lo hi : Option Operand} (ho : o.op = .slice t x lo hi none) (hu : P.underlying t = some .string) : Snd P o (.slcs x lo hi) := by
  intro w0 K h nx env a out h' nx' g he hev
  simp only [opEv] at hev
  split at hev
  · rename_i s hy
    split at hev
    · rename_i l hh hl hhh
      split at hev
      · rename_i hc
        cases hev
        have hv := oev_sound he hy
        generalize hcx : a.eval x = cx at hv
        cases hv with
        | str _ q hq =>
          have hql : s.length = q.size := by rw [← hq, Array.length_toList]; rfl
          have hlo := bnd_sound he hl
          have hhi := bnd_sound he hhh
          have hsl : (Instr.sliceBounds false q.size q.size (lo.map a.eval) (hi.map a.eval) none).run P K.w = .ok (l, hh, q.size) K.w := by
            have h1 := hc.1
            have h2 : hh ≤ q.size := by have := hc.2; omega
            clear hc
            rw [hql] at hhi
            rcases hlo with ⟨rfl, rfl⟩ | ⟨y1, k1, rfl, e1⟩ <;> rcases hhi with ⟨rfl, rfl⟩ | ⟨y2, k2, rfl, e2⟩ <;> simp [Instr.sliceBounds, run_sliceBound, *]
          refine snd_val g (v := .string (q.extract l hh)) ?_ (.str _ _ ?_)
          · simp [execOp, ho, hcx, Instr.sliceAt, Instr.slice, run_underlying hu, hsl]
          · rw [← hq]
            rw [ByteArray.data_extract, Array.toList_extract, List.extract_eq_take_drop]
            rw [List.drop_take]
      · cases hev
    · cases hev
  · cases hev
end
theorem eq_sound {P : Program} {o : Oper} {neg : Bool} {t t' : TypeId} {x y : Operand} {ao : AOp} (ho : o.op = .binOp (if neg then .neq else .eql) t x y t') (hc : compileEq P neg t x y = some ao) : Snd P o ao := by
  unfold compileEq at hc
  split at hc
  · cases hc; exact snd_bin ho
  · cases hc; exact snd_bin ho
  · rename_i hu; cases hc; exact snd_eqB ho hu
  · obtain ⟨ks, hks, rfl⟩ := Option.map_eq_some_iff.1 hc
    exact snd_eqS ho hks
  · obtain ⟨ks, hks, rfl⟩ := Option.map_eq_some_iff.1 hc
    exact snd_eqS ho hks
  · obtain ⟨k, hk, hc⟩ := Option.bind_eq_some_iff.1 hc
    split at hc
    · rename_i hy; cases hc; exact snd_eqN ho hk (.inl ⟨rfl, hy⟩)
    · split at hc
      · rename_i hx; cases hc; exact snd_eqN ho hk (.inr ⟨rfl, hx⟩)
      · cases hc
theorem call_sound {P : Program} {o : Oper} {c : Call} {ao : AOp} (ho : o.op = .call c) (hc : compileCall P c = some ao) : Snd P o ao := by
  obtain ⟨callee, args, tys⟩ := c
  unfold compileCall at hc
  simp only at hc
  have harr : ∀ {α : Type} {xs : Array α} {l : List α}, xs.toList = l → xs = l.toArray := by
    intro α xs l h
    rw [← h]
  split at hc
  · rename_i h1 h2
    rw [harr h1, harr h2] at ho
    split at hc
    · rename_i hu; cases hc; exact snd_len ho hu
    · rename_i hu; cases hc; exact snd_lens ho hu
    · cases hc
  · rename_i h1
    rw [harr h1] at ho
    cases hc; exact snd_mn ho
  · rename_i h1
    rw [harr h1] at ho
    cases hc; exact snd_mx ho
  · rename_i h1 h2
    rw [harr h1, harr h2] at ho
    split at hc
    · rename_i ht
      subst ht
      split at hc
      · rename_i hu
        obtain ⟨i, hi, hc⟩ := Option.bind_eq_some_iff.1 hc
        obtain ⟨z, hz, hc⟩ := Option.bind_eq_some_iff.1 hc
        split at hc
        · rename_i hcond; cases hc; exact snd_app ho hu hi hz hcond.1 hcond.2
        · cases hc
      · cases hc
    · split at hc
      · rename_i hu hn
        obtain ⟨i, hi, hc⟩ := Option.bind_eq_some_iff.1 hc
        obtain ⟨z, hz, hc⟩ := Option.bind_eq_some_iff.1 hc
        split at hc
        · rename_i hcond; cases hc; exact snd_appZ ho hu hn hi hz hcond.1 hcond.2
        · cases hc
      · cases hc
  · rename_i h1 h2
    rw [harr h1, harr h2] at ho
    split at hc
    · rename_i hu; cases hc; exact snd_cap ho hu
    · cases hc
  · rename_i h1 h2
    rw [harr h1, harr h2] at ho
    split at hc
    · rename_i ht
      subst ht
      split at hc
      · rename_i hu
        obtain ⟨i, hi, rfl⟩ := Option.map_eq_some_iff.1 hc
        exact snd_copy ho hu hi
      · cases hc
    · cases hc
  · rename_i h1 h2
    rw [harr h1, harr h2] at ho
    split at hc
    · rename_i hu
      obtain ⟨z, hz, rfl⟩ := Option.map_eq_some_iff.1 hc
      exact snd_clear ho hu hz
    · cases hc
  · rename_i f h1
    rw [harr h1] at ho
    split at hc
    · rename_i hf; cases hc; exact snd_ovl ho hf
    · cases hc
  · cases hc
theorem op_sound0 {P : Program} {own : Bool} {o : Oper} {ao : AOp} (hc : compileOp0 P own o = some ao) : Snd P o ao ∧ (∀ c, o.op ≠ .defer c) := by
  unfold compileOp0 at hc
  split at hc <;> refine ⟨?_, by rename_i h0; first | (intro c; rw [h0]; simp; done) | (cases hc; done)⟩
  · rename_i h0; cases hc; exact snd_move (.inl h0)
  · rename_i h0; cases hc; exact snd_move (.inr h0)
  · rename_i h0; cases hc; exact snd_pick h0
  · rename_i h0
    obtain ⟨z, hz, rfl⟩ := Option.map_eq_some_iff.1 hc
    exact snd_alloc h0 hz
  · rename_i h0; cases hc; exact snd_box h0
  · rename_i h0
    split at hc
    · rename_i fs z hu hz
      obtain ⟨pl, hpl, hc⟩ := Option.bind_eq_some_iff.1 hc
      obtain ⟨qs, hqs, rfl⟩ := Option.map_eq_some_iff.1 hc
      exact snd_build_struct h0 hu hz hpl hqs
    · rename_i hu hz
      obtain ⟨ie, hie, rfl⟩ := Option.map_eq_some_iff.1 hc
      exact snd_build_array h0 hu hz hie
    · cases hc
  · rename_i h0
    split at hc
    · rename_i hu
      obtain ⟨z, hz, hc⟩ := Option.bind_eq_some_iff.1 hc
      split at hc
      · rename_i hcond
        cases hc
        cases own
        · exact snd_buildF h0 hu hz hcond.1 hcond.2.1 hcond.2.2
        · exact snd_buildO h0 hu hz hcond.1 hcond.2.1 hcond.2.2
      · cases hc
    · cases hc
  · cases hc
  · rename_i h0
    obtain ⟨d, hd, rfl⟩ := Option.map_eq_some_iff.1 hc
    exact snd_load h0 hd
  · rename_i h0
    obtain ⟨d, hd, rfl⟩ := Option.map_eq_some_iff.1 hc
    exact snd_store h0 hd
  · rename_i h0; cases hc; exact snd_nilck h0
  · rename_i h0; exact eq_sound (neg := false) h0 hc
  · rename_i h0; exact eq_sound (neg := true) h0 hc
  · rename_i h0; cases hc; exact snd_bin h0
  · rename_i h0; cases hc; exact snd_un h0
  · rename_i h0
    split at hc
    · rename_i hs hd; cases hc; exact snd_conv h0 hs hd
    · rename_i hs hd; cases hc; exact snd_convS h0 hs hd
    · rename_i e hs hd
      split at hc
      · rename_i he; cases hc; exact snd_convBS h0 hs he hd
      · cases hc
    · cases hc
  · rename_i h0
    split at hc
    · cases hc
    · rename_i d hd hn
      cases hc
      exact snd_mkif h0 hn (fun ms h => hd ms h)
    · cases hc
  · rename_i h0
    split at hc
    · rename_i hs
      cases hc
      have : _ = #[] := Array.eq_empty_of_size_eq_zero hs
      subst this
      exact snd_mkfn h0
    · cases hc; exact snd_mkbm h0
  · rename_i h0
    split at hc
    · rename_i hu
      obtain ⟨z, hz, hc⟩ := Option.bind_eq_some_iff.1 hc
      split at hc
      · rename_i hzl; cases hc; exact snd_mksl h0 hu hz hzl
      · cases hc
    · cases hc
  · rename_i h0
    split at hc
    · rename_i hu
      split at hc
      · cases hc
      · rename_i hm
        obtain ⟨d, hd, rfl⟩ := Option.map_eq_some_iff.1 hc
        refine snd_slc h0 hu hd ?_
        intro h1 h2
        apply hm
        rw [h2]
        have h3 := Option.isSome_iff_ne_none.2 h1
        rw [h3]; rfl
    · rename_i hu
      split at hc
      · rename_i hm
        cases hc
        have : _ = none := Option.isNone_iff_eq_none.1 hm
        subst this
        exact snd_slcs h0 hu
      · cases hc
    · cases hc
  · rename_i h0
    split at hc
    · rename_i hu
      obtain ⟨fd, hf, hc⟩ := Option.bind_eq_some_iff.1 hc
      obtain ⟨d, hd, hc⟩ := Option.bind_eq_some_iff.1 hc
      split at hc
      · rename_i hs; cases hc; exact snd_fieldA h0 hu hf hd hs
      · cases hc
    · cases hc
  · rename_i h0
    split at hc
    · rename_i hu
      obtain ⟨fd, hf, hc⟩ := Option.bind_eq_some_iff.1 hc
      obtain ⟨d, hd, rfl⟩ := Option.map_eq_some_iff.1 hc
      exact snd_field h0 hu hf hd
    · cases hc
  · cases hc
  · rename_i h0
    split at hc
    · rename_i hu
      obtain ⟨d, hd, rfl⟩ := Option.map_eq_some_iff.1 hc
      exact snd_idxA h0 hu hd
    · rename_i hu
      obtain ⟨d, hd, rfl⟩ := Option.map_eq_some_iff.1 hc
      exact snd_idxR h0 hu hd
    · cases hc
  · rename_i h0
    split at hc
    · rename_i hu
      obtain ⟨d, hd, rfl⟩ := Option.map_eq_some_iff.1 hc
      exact snd_idx h0 hu hd
    · rename_i hu; cases hc; exact snd_idxs h0 hu
    · cases hc
  · rename_i h0; cases hc; exact snd_ext h0
  · rename_i h0; exact call_sound h0 hc
  · cases hc
  all_goals cases hc
theorem op_sound {P : Program} {own : Bool} {o : Oper} {ao : AOp} (hc : compileOp P own o = some ao) : Snd P o ao ∧ (∀ c, o.op ≠ .defer c) := by
  unfold compileOp at hc
  split at hc
  · rename_i h; cases hc; exact op_sound0 h
  split at hc
  · rename_i h; cases hc; exact mop_sound h
  · split at hc
    · rename_i h0
      split at hc
      · cases hc
      · cases hc; exact ⟨snd_bad, by intro c; rw [h0]; simp⟩
    · cases hc
    · cases hc
    · rename_i h1 h2 h3
      cases hc
      exact ⟨snd_bad, fun c h => h2 c h⟩
end Go.Ab
