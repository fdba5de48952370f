/- The abstract values, the abstract heap, and what it means that a state of the model is as an abstract one says. -/
import Derived.Below
import Derived.CallsIn
import Derived.WalkKit
import Derived.Laws.Cells
import Derived.Laws.Rows
import Derived.Laws.OwnMore
import Derived.Laws.Slices
namespace Go.Ab
open Go.RowKit

/-- Abstract values. 'lst': a slice whose elements never change (its elements' cells); 'fp': a pointer to cells that never change; 'op', 'os', 'mp': pointer, slice, map of a block of the call's own, by number. 'any': a value of which nothing is known; 'oc': an own slice whose capacity is known. -/
inductive AV where
  | int (k : IntKind) (n : Int)
  | bool (b : Bool)
  | str (s : List UInt8)
  | agg (cs : List AV)
  | tup (cs : List AV)
  | lst (sz : Nat) (es : List (List AV))
  | fp (cs : List AV)
  | op (b off : Nat)
  | os (b off : Nat) (e : TypeId) (sz len : Nat)
  | nilS
  | emp
  | nilP
  | nilI
  | nilF
  | nilM
  | mp (b : Nat)
  | fn (f : Fn) (caps : List AV)
  | ifc (t : TypeId) (x : AV)
  | ne0
  | yl (b : Nat)
  | any
  | oc (b off : Nat) (e : TypeId) (sz len cap : Nat)
  deriving Inhabited

def AV.one : AV → Bool
  | .agg _ => false
  | .tup _ => false
  | _ => true

/-- A world, the blocks' places in it, and which of its cells never change. -/
structure Wd where
  w : World
  m : Nat → Nat
  Z : Nat → Nat → Prop
  lo : Nat

/-- The cell at a place, frozen. -/
def Wd.ice (K : Wd) (a : Addr) (v : Value) : Prop := K.w.cell? a = some v ∧ K.Z a.block a.off

inductive VR (K : Wd) (nx : Nat) : AV → Value → Prop
  | int (k n) : VR K nx (.int k n) (.int k n)
  | bool (b) : VR K nx (.bool b) (.bool b)
  | str (l) (s : ByteArray) (h : s.data.toList = l) : VR K nx (.str l) (.string s)
  | agg (cs : List AV) (c : Array Value) (hs : c.size = cs.length) (h1 : ∀ (i : Nat) (x : AV), cs[i]? = some x → x.one = true)
      (h : ∀ (i : Nat) (x : AV) (v : Value), cs[i]? = some x → c[i]? = some v → VR K nx x v) : VR K nx (.agg cs) (.agg c)
  | tup (cs : List AV) (c : Array Value) (hs : c.size = cs.length)
      (h : ∀ (i : Nat) (x : AV) (v : Value), cs[i]? = some x → c[i]? = some v → VR K nx x v) : VR K nx (.tup cs) (.tuple c)
  | lst0 (sz : Nat) (es : List (List AV)) (A : Option Addr) (n cap : Nat) (h0 : es = []) (hn : n = 0) (hA : A = none → cap = 0) : VR K nx (.lst sz es) (.slice A n cap)
  | lst (sz : Nat) (es : List (List AV)) (a : Addr) (n cap : Nat) (c : Nat → Value) (hn : n = es.length) (hc : n ≤ cap) (hcap : cap ≤ maxLen)
      (hsz : ∀ (i : Nat) (e : List AV), es[i]? = some e → e.length = sz) (h1 : ∀ (i : Nat) (e : List AV), es[i]? = some e → ∀ (j : Nat) (x : AV), e[j]? = some x → x.one = true)
      (hr : ∀ k, k < n * sz → K.ice (a.add k) (c k)) (h : ∀ (i : Nat) (e : List AV), es[i]? = some e → ∀ (j : Nat) (x : AV), e[j]? = some x → VR K nx x (c (i * sz + j))) :
      VR K nx (.lst sz es) (.slice (some a) n cap)
  | fp (cs : List AV) (a : Addr) (c : Nat → Value) (h1 : ∀ (j : Nat) (x : AV), cs[j]? = some x → x.one = true) (hr : ∀ k, k < cs.length → K.ice (a.add k) (c k))
      (h : ∀ (j : Nat) (x : AV), cs[j]? = some x → VR K nx x (c j)) : VR K nx (.fp cs) (.pointer (some a))
  | op (b off : Nat) (hb : b < nx) (a : Addr) (ha : a = ⟨K.m b, off, none⟩) : VR K nx (.op b off) (.pointer (some a))
  | os (b off : Nat) (e : TypeId) (sz len : Nat) (a : Addr) (n cap : Nat) (hn : n = len) (hb : b < nx) (hc : len ≤ cap) (hcap : cap ≤ maxLen) (hA : 0 < cap → a = ⟨K.m b, off, none⟩)
      (hroom : ∃ c, K.w.heap[K.m b]? = some (.cells c e (0, 0)) ∧ off + cap * sz = c.size) : VR K nx (.os b off e sz len) (.slice (some a) n cap)
  | nilS : VR K nx .nilS (.slice none 0 0)
  | emp (A : Option Addr) : VR K nx .emp (.slice A 0 0)
  | nilP : VR K nx .nilP (.pointer none)
  | nilI : VR K nx .nilI .nilIface
  | nilF : VR K nx .nilF .nilFunc
  | nilM : VR K nx .nilM (.map none)
  | mp (b : Nat) (hb : b < nx) (r : Nat) (hr : r = K.m b) : VR K nx (.mp b) (.map (some r))
  | fn (f : Fn) (caps : List AV) (c : Array Value) (hs : c.size = caps.length) (h : ∀ (i : Nat) (x : AV) (v : Value), caps[i]? = some x → c[i]? = some v → VR K nx x v) :
      VR K nx (.fn f caps) (.func f #[] c)
  | ifc (t : TypeId) (x : AV) (v : Value) (h : VR K nx x v) : VR K nx (.ifc t x) (.iface t v)
  | ne0 (a : Addr) (cap : Nat) : VR K nx .ne0 (.slice (some a) 0 cap)
  | yl (b : Nat) (hb : b < nx) (l : Nat) (hl : l = K.m b) : VR K nx (.yl b) (.func (.yield l) #[] #[])
  | any (v : Value) (h : v.oneCell' = true) : VR K nx .any v
  | oc (b off : Nat) (e : TypeId) (sz len cap : Nat) (a : Addr) (hb : b < nx) (hc : len ≤ cap) (hcap : cap ≤ maxLen) (hA : 0 < cap → a = ⟨K.m b, off, none⟩)
      (hroom : ∃ c, K.w.heap[K.m b]? = some (.cells c e (0, 0)) ∧ off + cap * sz = c.size) : VR K nx (.oc b off e sz len cap) (.slice (some a) len cap)

theorem VR.oneCell {K : Wd} {nx : Nat} {x : AV} {v : Value} (h : VR K nx x v) (h1 : x.one = true) : v.oneCell' = true := by
  cases h <;> first | rfl | assumption | (simp [AV.one] at h1)

theorem oneCell_cells {v : Value} (h : v.oneCell' = true) : v.cells = #[v] := by
  cases v <;> first | rfl | simp [Value.oneCell'] at h

/-- How the one world follows the other: what was frozen is as it was, the old numbers stand where they stood, rows keep their sizes. -/
structure Ext (K : Wd) (nx : Nat) (K' : Wd) (nx' : Nat) : Prop where
  le : nx ≤ nx'
  m : ∀ b, b < nx → K'.m b = K.m b
  Z : ∀ b o, K.Z b o → K'.Z b o
  ice : ∀ b o, K.Z b o → K'.w.cell? ⟨b, o, none⟩ = K.w.cell? ⟨b, o, none⟩
  size : ∀ (b : Nat) (c : Array Value) (e : TypeId), K.w.heap[b]? = some (Obj.cells c e (0, 0)) → ∃ c' : Array Value, K'.w.heap[b]? = some (Obj.cells c' e (0, 0)) ∧ c'.size = c.size
  lo : K'.lo = K.lo
  Zn : ∀ b o, K'.Z b o → K.Z b o ∨ K.lo ≤ b

theorem Ext.refl (K : Wd) (nx : Nat) : Ext K nx K nx := ⟨Nat.le_refl _, fun _ _ => rfl, fun _ _ h => h, fun _ _ _ => rfl, fun _ c _ h => ⟨c, h, rfl⟩, rfl, fun _ _ h => .inl h⟩
theorem Ext.trans {K K' K'' : Wd} {n n' n'' : Nat} (h : Ext K n K' n') (h' : Ext K' n' K'' n'') : Ext K n K'' n'' :=
  ⟨Nat.le_trans h.le h'.le, fun b hb => (h'.m b (Nat.lt_of_lt_of_le hb h.le)).trans (h.m b hb), fun b o hz => h'.Z b o (h.Z b o hz),
   fun b o hz => (h'.ice b o (h.Z b o hz)).trans (h.ice b o hz), fun b c e hb => by
    obtain ⟨c', h1, h2⟩ := h.size b c e hb
    obtain ⟨c'', h3, h4⟩ := h'.size b c' e h1
    exact ⟨c'', h3, h4.trans h2⟩, h'.lo.trans h.lo, fun b o hz => by
    rcases h'.Zn b o hz with hz | hz
    · exact h.Zn b o hz
    · exact .inr (h.lo ▸ hz)⟩

theorem spot_none_of_cell {w : World} {a : Addr} {v : Value} (h : w.cell? a = some v) : a.spot = none := by
  unfold World.cell? at h
  split at h
  · split at h
    · cases h
    · rename_i h2; simpa using h2
  · cases h

theorem Ext.iced {K K' : Wd} {n n' : Nat} (h : Ext K n K' n') {a : Addr} {v : Value} (hi : K.ice a v) : K'.ice a v := by
  obtain ⟨hc, hz⟩ := hi
  have hs := spot_none_of_cell hc
  have := h.ice a.block a.off hz
  have ha : (⟨a.block, a.off, none⟩ : Addr) = a := by cases a; simp_all
  rw [ha] at this
  exact ⟨this.trans hc, h.Z _ _ hz⟩

theorem VR.mono {K K' : Wd} {n n' : Nat} (he : Ext K n K' n') {x : AV} {v : Value} (h : VR K n x v) : VR K' n' x v := by
  induction h with
  | int k n => exact .int k n
  | bool b => exact .bool b
  | str l s h => exact .str l s h
  | agg cs c hs h1 h ih => exact .agg cs c hs h1 ih
  | tup cs c hs h ih => exact .tup cs c hs ih
  | lst0 sz es A n cap h0 hn hA => exact .lst0 sz es A n cap h0 hn hA
  | lst sz es a n cap c hn hc hcap hsz h1 hr h ih => exact .lst sz es a n cap c hn hc hcap hsz h1 (fun k hk => he.iced (hr k hk)) ih
  | fp cs a c h1 hr h ih => exact .fp cs a c h1 (fun k hk => he.iced (hr k hk)) ih
  | op b off hb a ha => exact .op b off (Nat.lt_of_lt_of_le hb he.le) a (by rw [ha, he.m b hb])
  | os b off e sz len a n cap hn hb hc hcap hA hroom =>
    refine .os b off e sz len a n cap hn (Nat.lt_of_lt_of_le hb he.le) hc hcap (fun h => by rw [hA h, he.m b hb]) ?_
    obtain ⟨c, h1, h2⟩ := hroom
    obtain ⟨c', h3, h4⟩ := he.size _ _ _ h1
    exact ⟨c', by rw [he.m b hb]; exact h3, by omega⟩
  | nilS => exact .nilS
  | emp A => exact .emp A
  | nilP => exact .nilP
  | nilI => exact .nilI
  | nilF => exact .nilF
  | nilM => exact .nilM
  | mp b hb r hr => exact .mp b (Nat.lt_of_lt_of_le hb he.le) r (by rw [hr, he.m b hb])
  | fn f caps c hs h ih => exact .fn f caps c hs ih
  | ifc t x v h ih => exact .ifc t x v ih
  | ne0 a cap => exact .ne0 a cap
  | yl b hb l hl => exact .yl b (Nat.lt_of_lt_of_le hb he.le) l (by rw [hl, he.m b hb])
  | any v h => exact .any v h
  | oc b off e sz len cap a hb hc hcap hA hroom =>
    refine .oc b off e sz len cap a (Nat.lt_of_lt_of_le hb he.le) hc hcap (fun h => by rw [hA h, he.m b hb]) ?_
    obtain ⟨c, h1, h2⟩ := hroom
    obtain ⟨c', h3, h4⟩ := he.size _ _ _ h1
    exact ⟨c', by rw [he.m b hb]; exact h3, by omega⟩

abbrev Env := List (Nat × AV)
def eget : Env → Nat → Option AV
  | [], _ => none
  | (i, x) :: r, t => if i = t then some x else eget r t
theorem eget_cons (i : Nat) (x : AV) (r : Env) (t : Nat) : eget ((i, x) :: r) t = if i = t then some x else eget r t := rfl

/-! ### The heap -/
/-- What a block of the call's own holds. -/
inductive AO where
  | cells (cs : List AV)
  | map (es : List (AV × AV))
  | sit (s : List UInt8) (pos : Nat)
  | mit (b : Option Nat) (seen : List Nat)
  | dfd
  | loop (busy : Bool) (fn : FuncId) (N : Nat) (env : List (Nat × AV)) (params : Array Tmp) (assign body : Code) (dm : Nat)
  deriving Inhabited

abbrev Heap := List (Nat × AO)
def hget : Heap → Nat → Option AO
  | [], _ => none
  | (i, o) :: r, b => if i = b then some o else hget r b
def hset (h : Heap) (b : Nat) (o : AO) : Heap := (b, o) :: h
def hdel : Heap → Nat → Heap
  | [], _ => []
  | (i, o) :: r, b => if i = b then hdel r b else (i, o) :: hdel r b
theorem hget_cons (i : Nat) (o : AO) (r : Heap) (b : Nat) : hget ((i, o) :: r) b = if i = b then some o else hget r b := rfl
theorem hget_hset (h : Heap) (b : Nat) (o : AO) (c : Nat) : hget (hset h b o) c = if b = c then some o else hget h c := rfl
theorem hget_hdel (h : Heap) (b c : Nat) : hget (hdel h b) c = if b = c then none else hget h c := by
  induction h with
  | nil => simp [hdel, hget]
  | cons p r ih =>
    obtain ⟨i, o⟩ := p
    simp only [hdel]
    split
    · rename_i h; subst h; rw [ih]; simp only [hget]; split <;> rfl
    · rename_i h; simp only [hget, ih]; split
      · rename_i h2; subst h2; rw [if_neg (fun e => h e.symm)]
      · rfl

/-- An object of the model's heap is as the abstract one says. -/
inductive OR (K : Wd) (nx : Nat) : AO → Obj → Prop
  | cells (cs : List AV) (c : Array Value) (e : TypeId) (hs : cs.length ≤ c.size) (h1 : ∀ (i : Nat) (x : AV), cs[i]? = some x → x.one = true)
      (h : ∀ (i : Nat) (x : AV) (v : Value), cs[i]? = some x → c[i]? = some v → VR K nx x v) : OR K nx (.cells cs) (.cells c e (0, 0))
  | map (es : List (AV × AV)) (en : Array MapEntry) (clock : Nat) (hs : en.size = es.length)
      (h : ∀ (i : Nat) (x : AV × AV) (y : MapEntry), es[i]? = some x → en[i]? = some y → VR K nx x.1 y.key ∧ VR K nx x.2 y.val ∧ y.born < clock) (hb : (en.toList.map (·.born)).Nodup) : OR K nx (.map es) (.map en clock)
  | sit (s : ByteArray) (l : List UInt8) (hl : s.data.toList = l) (pos : Nat) : OR K nx (.sit l pos) (.stringIter s pos)
  | dfd : OR K nx .dfd (.deferred (some []))
  | loop (busy : Bool) (fn : FuncId) (N : Nat) (env : List (Nat × AV)) (ps : Array Tmp) (as bd : Code) (dm : Nat) (hd : dm < nx) (tmps : Array Value) (hs : tmps.size = N) (D : Nat) (hD : D = K.m dm)
      (h : ∀ (t : Nat) (x : AV), eget env t = some x → ∃ v, tmps[t]? = some v ∧ VR K nx x v) :
      OR K nx (.loop busy fn N env ps as bd dm) (.loop { state := if busy = true then .busy else .ready, pending := none, fn := fn, tmps := tmps, params := ps, assign := as, body := bd, defers := D })

theorem OR.mono {K K' : Wd} {n n' : Nat} (he : Ext K n K' n') {o : AO} {ob : Obj} (h : OR K n o ob) : OR K' n' o ob := by
  cases h with
  | cells cs c e hs h1 h => exact .cells cs c e hs h1 fun i x v hx hv => (h i x v hx hv).mono he
  | map es en clock hs h hb => exact .map es en clock hs (fun i x y hx hy => ⟨(h i x y hx hy).1.mono he, (h i x y hx hy).2.1.mono he, (h i x y hx hy).2.2⟩) hb
  | sit s l hl pos => exact .sit s l hl pos
  | dfd => exact .dfd
  | loop busy fn N env ps as bd dm hd tmps hs D hD h => exact .loop busy fn N env ps as bd dm (Nat.lt_of_lt_of_le hd he.le) tmps hs D (by rw [hD, he.m dm hd]) fun t x hx => let ⟨v, h1, h2⟩ := h t x hx; ⟨v, h1, h2.mono he⟩

/-- The world is as the heap says; below the first world's heap it is as it was. -/
structure Good (w0 : World) (K : Wd) (h : Heap) (nx : Nat) : Prop where
  live : ∀ b o, hget h b = some o → b < nx ∧ w0.heap.size ≤ K.m b ∧ (∀ off, ¬ K.Z (K.m b) off) ∧ ∃ ob, K.w.heap[K.m b]? = some ob ∧ OR K nx o ob
  inj : ∀ b b' o o', hget h b = some o → hget h b' = some o' → K.m b = K.m b' → b = b'
  below : Below w0.heap.size w0 K.w
  zin : ∀ b off, K.Z b off → b < K.w.heap.size
  lo : K.lo = w0.heap.size


def EnvR (K : Wd) (nx : Nat) (env : Env) (tmps : Array Value) : Prop := ∀ t x, eget env t = some x → ∃ v, tmps[t]? = some v ∧ VR K nx x v

theorem EnvR.mono {K K' : Wd} {n n' : Nat} (he : Ext K n K' n') {env : Env} {tmps : Array Value} (h : EnvR K n env tmps) : EnvR K' n' env tmps := fun t x hx =>
  let ⟨v, h1, h2⟩ := h t x hx; ⟨v, h1, h2.mono he⟩

theorem EnvR.put {K : Wd} {nx : Nat} {env : Env} {tmps : Array Value} (h : EnvR K nx env tmps) {d : Nat} {x : AV} {v : Value} (hd : d < tmps.size) (hv : VR K nx x v) :
    EnvR K nx ((d, x) :: env) (tmps.setIfInBounds d v) := by
  intro t y hy
  simp only [eget_cons] at hy
  rw [Array.getElem?_setIfInBounds]
  by_cases e : d = t
  · subst e
    simp only [if_true, Option.some.injEq] at hy
    subst hy
    exact ⟨v, by simp [hd], hv⟩
  · rw [if_neg e] at hy
    rw [if_neg e]
    exact h t y hy

end Go.Ab
