/- The abstract values, the abstract heap, and what it means that a state of the model is as an abstract one says. -/
import Derived.Below
import Derived.CallsIn
import Derived.WalkKit
import Derived.Laws.Cells
import Derived.Laws.Rows
import Derived.Laws.OwnMore
import Derived.Laws.Slices
import Derived.RangeFuncMany
import Derived.Laws.StructEq
import Derived.Laws.CopyRow
import Derived.ChangeKeysEq
import Derived.ArgAppend
import Derived.Laws.MakeOwn
namespace Go.Ab
open Go.RowKit
inductive AV where
  | int (k : IntKind) (n : Int)
  | bool (b : Bool)
  | str (s : List UInt8)
  | agg (cs : List AV)
  | tup (cs : List AV)
  | lst (sz : Nat) (es : List (List AV))
  | fp (cs : List AV)
  | op (b off : Nat)
  | os (b off : Nat) (e : TypeId) (sz len : Nat)
  | nilS
  | emp
  | nilP
  | nilI
  | nilF
  | nilM
  | mp (b : Nat)
  | fn (f : Fn) (caps : List AV)
  | bm (f : Fn) (fs caps : List AV)
  | ifc (t : TypeId) (x : AV)
  | ne0
  | yl (b : Nat)
  | any
  | oc (b off : Nat) (e : TypeId) (sz len cap : Nat)
  deriving Inhabited
def AV.one : AV → Bool
  | .agg _ => false
  | .tup _ => false
  | _ => true
structure Wd where
  w : World
  m : Nat → Nat
  Z : Nat → Nat → Prop
  lo : Nat
  ds : List Deferred := []
def Wd.ice (K : Wd) (a : Addr) (v : Value) : Prop := K.w.cell? a = some v ∧ K.Z a.block a.off
inductive VR (K : Wd) (nx : Nat) : AV → Value → Prop
  | int (k n) : VR K nx (.int k n) (.int k n)
  | bool (b) : VR K nx (.bool b) (.bool b)
  | str (l) (s : ByteArray) (h : s.data.toList = l) : VR K nx (.str l) (.string s)
  | agg (cs : List AV) (c : Array Value) (hs : c.size = cs.length) (h1 : ∀ (i : Nat) (x : AV), cs[i]? = some x → x.one = true)
      (h : ∀ (i : Nat) (x : AV) (v : Value), cs[i]? = some x → c[i]? = some v → VR K nx x v) : VR K nx (.agg cs) (.agg c)
  | tup (cs : List AV) (c : Array Value) (hs : c.size = cs.length)
      (h : ∀ (i : Nat) (x : AV) (v : Value), cs[i]? = some x → c[i]? = some v → VR K nx x v) : VR K nx (.tup cs) (.tuple c)
  | lst0 (sz : Nat) (es : List (List AV)) (A : Option Addr) (n cap : Nat) (h0 : es = []) (hn : n = 0) (hA : A = none → cap = 0) : VR K nx (.lst sz es) (.slice A n cap)
  | lst (sz : Nat) (es : List (List AV)) (a : Addr) (n cap : Nat) (c : Nat → Value) (hn : n = es.length) (hc : n ≤ cap) (hcap : cap ≤ maxLen)
      (hsz : ∀ (i : Nat) (e : List AV), es[i]? = some e → e.length = sz) (h1 : ∀ (i : Nat) (e : List AV), es[i]? = some e → ∀ (j : Nat) (x : AV), e[j]? = some x → x.one = true)
      (hr : ∀ k, k < n * sz → K.ice (a.add k) (c k)) (h : ∀ (i : Nat) (e : List AV), es[i]? = some e → ∀ (j : Nat) (x : AV), e[j]? = some x → VR K nx x (c (i * sz + j))) :
      VR K nx (.lst sz es) (.slice (some a) n cap)
  | fp (cs : List AV) (a : Addr) (c : Nat → Value) (h1 : ∀ (j : Nat) (x : AV), cs[j]? = some x → x.one = true) (hr : ∀ k, k < cs.length → K.ice (a.add k) (c k))
      (h : ∀ (j : Nat) (x : AV), cs[j]? = some x → VR K nx x (c j)) : VR K nx (.fp cs) (.pointer (some a))
  | op (b off : Nat) (hb : b < nx) (a : Addr) (ha : a = ⟨K.m b, off, none⟩) : VR K nx (.op b off) (.pointer (some a))
  | os (b off : Nat) (e : TypeId) (sz len : Nat) (a : Addr) (n cap : Nat) (hn : n = len) (hb : b < nx) (hc : len ≤ cap) (hcap : cap ≤ maxLen) (hA : 0 < cap → a = ⟨K.m b, off, none⟩)
      (hroom : ∃ c, K.w.heap[K.m b]? = some (.cells c e (0, 0)) ∧ off + cap * sz = c.size) : VR K nx (.os b off e sz len) (.slice (some a) n cap)
  | nilS : VR K nx .nilS (.slice none 0 0)
  | emp (A : Option Addr) : VR K nx .emp (.slice A 0 0)
  | nilP : VR K nx .nilP (.pointer none)
  | nilI : VR K nx .nilI .nilIface
  | nilF : VR K nx .nilF .nilFunc
  | nilM : VR K nx .nilM (.map none)
  | mp (b : Nat) (hb : b < nx) (r : Nat) (hr : r = K.m b) : VR K nx (.mp b) (.map (some r))
  | fn (f : Fn) (caps : List AV) (c : Array Value) (hs : c.size = caps.length) (h : ∀ (i : Nat) (x : AV) (v : Value), caps[i]? = some x → c[i]? = some v → VR K nx x v) :
      VR K nx (.fn f caps) (.func f #[] c)
  | bm (f : Fn) (fs caps : List AV) (c1 c : Array Value) (hs1 : c1.size = fs.length) (hs : c.size = caps.length) (h1 : ∀ (i : Nat) (x : AV) (v : Value), fs[i]? = some x → c1[i]? = some v → VR K nx x v)
      (h : ∀ (i : Nat) (x : AV) (v : Value), caps[i]? = some x → c[i]? = some v → VR K nx x v) : VR K nx (.bm f fs caps) (.func f c1 c)
  | ifc (t : TypeId) (x : AV) (v : Value) (h : VR K nx x v) : VR K nx (.ifc t x) (.iface t v)
  | ne0 (a : Addr) (cap : Nat) : VR K nx .ne0 (.slice (some a) 0 cap)
  | yl (b : Nat) (hb : b < nx) (l : Nat) (hl : l = K.m b) : VR K nx (.yl b) (.func (.yield l) #[] #[])
  | any (v : Value) (h : v.oneCell' = true) : VR K nx .any v
  | oc (b off : Nat) (e : TypeId) (sz len cap : Nat) (a : Addr) (hb : b < nx) (hc : len ≤ cap) (hcap : cap ≤ maxLen) (hA : 0 < cap → a = ⟨K.m b, off, none⟩)
      (hroom : ∃ c, K.w.heap[K.m b]? = some (.cells c e (0, 0)) ∧ off + cap * sz = c.size) : VR K nx (.oc b off e sz len cap) (.slice (some a) len cap)
theorem VR.oneCell {K : Wd} {nx : Nat} {x : AV} {v : Value} (h : VR K nx x v) (h1 : x.one = true) : v.oneCell' = true := by
  cases h <;> first | rfl | assumption | (simp [AV.one] at h1)
theorem oneCell_cells {v : Value} (h : v.oneCell' = true) : v.cells = #[v] := by
  cases v <;> first | rfl | simp [Value.oneCell'] at h
structure Ext (K : Wd) (nx : Nat) (K' : Wd) (nx' : Nat) : Prop where
  le : nx ≤ nx'
  m : ∀ b, b < nx → K'.m b = K.m b
  Z : ∀ b o, K.Z b o → K'.Z b o
  ice : ∀ b o, K.Z b o → K'.w.cell? ⟨b, o, none⟩ = K.w.cell? ⟨b, o, none⟩
  size : ∀ (b : Nat) (c : Array Value) (e : TypeId), K.w.heap[b]? = some (Obj.cells c e (0, 0)) → ∃ c' : Array Value, K'.w.heap[b]? = some (Obj.cells c' e (0, 0)) ∧ c'.size = c.size
  lo : K'.lo = K.lo
  Zn : ∀ b o, K'.Z b o → K.Z b o ∨ K.lo ≤ b
  ds : K'.ds = K.ds
theorem Ext.refl (K : Wd) (nx : Nat) : Ext K nx K nx := ⟨Nat.le_refl _, fun _ _ => rfl, fun _ _ h => h, fun _ _ _ => rfl, fun _ c _ h => ⟨c, h, rfl⟩, rfl, fun _ _ h => .inl h, rfl⟩
theorem Ext.trans {K K' K'' : Wd} {n n' n'' : Nat} (h : Ext K n K' n') (h' : Ext K' n' K'' n'') : Ext K n K'' n'' :=
  ⟨Nat.le_trans h.le h'.le, fun b hb => (h'.m b (Nat.lt_of_lt_of_le hb h.le)).trans (h.m b hb), fun b o hz => h'.Z b o (h.Z b o hz),
   fun b o hz => (h'.ice b o (h.Z b o hz)).trans (h.ice b o hz), fun b c e hb => by
    obtain ⟨c', h1, h2⟩ := h.size b c e hb
    obtain ⟨c'', h3, h4⟩ := h'.size b c' e h1
    exact ⟨c'', h3, h4.trans h2⟩, h'.lo.trans h.lo, fun b o hz => by
    rcases h'.Zn b o hz with hz | hz
    · exact h.Zn b o hz
    · exact .inr (h.lo ▸ hz), h'.ds.trans h.ds⟩
theorem spot_none_of_cell {w : World} {a : Addr} {v : Value} (h : w.cell? a = some v) : a.spot = none := by
  unfold World.cell? at h
  split at h
  · split at h
    · cases h
    · rename_i h2; simpa using h2
  · cases h
theorem Ext.iced {K K' : Wd} {n n' : Nat} (h : Ext K n K' n') {a : Addr} {v : Value} (hi : K.ice a v) : K'.ice a v := by
  obtain ⟨hc, hz⟩ := hi
  have hs := spot_none_of_cell hc
  have := h.ice a.block a.off hz
  have ha : (⟨a.block, a.off, none⟩ : Addr) = a := by cases a; simp_all
  rw [ha] at this
  exact ⟨this.trans hc, h.Z _ _ hz⟩
theorem VR.mono {K K' : Wd} {n n' : Nat} (he : Ext K n K' n') {x : AV} {v : Value} (h : VR K n x v) : VR K' n' x v := by
  induction h with
  | int k n => exact .int k n
  | bool b => exact .bool b
  | str l s h => exact .str l s h
  | agg cs c hs h1 h ih => exact .agg cs c hs h1 ih
  | tup cs c hs h ih => exact .tup cs c hs ih
  | lst0 sz es A n cap h0 hn hA => exact .lst0 sz es A n cap h0 hn hA
  | lst sz es a n cap c hn hc hcap hsz h1 hr h ih => exact .lst sz es a n cap c hn hc hcap hsz h1 (fun k hk => he.iced (hr k hk)) ih
  | fp cs a c h1 hr h ih => exact .fp cs a c h1 (fun k hk => he.iced (hr k hk)) ih
  | op b off hb a ha => exact .op b off (Nat.lt_of_lt_of_le hb he.le) a (by rw [ha, he.m b hb])
  | os b off e sz len a n cap hn hb hc hcap hA hroom =>
    refine .os b off e sz len a n cap hn (Nat.lt_of_lt_of_le hb he.le) hc hcap (fun h => by rw [hA h, he.m b hb]) ?_
    obtain ⟨c, h1, h2⟩ := hroom
    obtain ⟨c', h3, h4⟩ := he.size _ _ _ h1
    exact ⟨c', by rw [he.m b hb]; exact h3, by omega⟩
  | nilS => exact .nilS
  | emp A => exact .emp A
  | nilP => exact .nilP
  | nilI => exact .nilI
  | nilF => exact .nilF
  | nilM => exact .nilM
  | mp b hb r hr => exact .mp b (Nat.lt_of_lt_of_le hb he.le) r (by rw [hr, he.m b hb])
  | fn f caps c hs h ih => exact .fn f caps c hs ih
  | bm f fs caps c1 c hs1 hs h1 h ih1 ih => exact .bm f fs caps c1 c hs1 hs ih1 ih
  | ifc t x v h ih => exact .ifc t x v ih
  | ne0 a cap => exact .ne0 a cap
  | yl b hb l hl => exact .yl b (Nat.lt_of_lt_of_le hb he.le) l (by rw [hl, he.m b hb])
  | any v h => exact .any v h
  | oc b off e sz len cap a hb hc hcap hA hroom =>
    refine .oc b off e sz len cap a (Nat.lt_of_lt_of_le hb he.le) hc hcap (fun h => by rw [hA h, he.m b hb]) ?_
    obtain ⟨c, h1, h2⟩ := hroom
    obtain ⟨c', h3, h4⟩ := he.size _ _ _ h1
    exact ⟨c', by rw [he.m b hb]; exact h3, by omega⟩
def GL (g : Nat) : Option (List AV) := if g = 1 then some [.str [], .int .i64 0, .int .i64 0, .str [], .int .i64 0, .int .i64 0, .str [], .int .i64 0, .int .i64 0, .str [110, 111, 116], .int .i64 1, .int .i64 1, .str [110, 101, 103], .int .i64 1, .int .i64 1, .str [97, 100, 100], .int .i64 2, .int .i64 1, .str [115, 117, 98], .int .i64 2, .int .i64 1, .str [109, 117, 108], .int .i64 2, .int .i64 1, .str [97, 110, 100], .int .i64 2, .int .i64 1, .str [111, 114], .int .i64 2, .int .i64 1, .str [120, 111, 114], .int .i64 2, .int .i64 1, .str [115, 104, 108], .int .i64 2, .int .i64 1, .str [115, 104, 114], .int .i64 2, .int .i64 1, .str [115, 97, 114], .int .i64 2, .int .i64 1, .str [117, 100, 105, 118], .int .i64 2, .int .i64 1, .str [117, 114, 101, 109], .int .i64 2, .int .i64 1, .str [101, 113], .int .i64 2, .int .i64 2, .str [117, 108, 116], .int .i64 2, .int .i64 2, .str [115, 108, 116], .int .i64 2, .int .i64 2, .str [105, 116, 101], .int .i64 3, .int .i64 3, .str [99, 111, 110, 99, 97, 116], .int .i64 2, .int .i64 4, .str [101, 120, 116, 114, 97, 99, 116], .int .i64 1, .int .i64 5, .str [122, 101, 120, 116], .int .i64 1, .int .i64 6, .str [115, 101, 120, 116], .int .i64 1, .int .i64 6, .str [108, 111, 97, 100], .int .i64 1, .int .i64 7] else none
def GlR (K : Wd) (nx : Nat) : Prop := ∀ (g : Nat) (cs : List AV), GL g = some cs → VR K nx (.fp cs) (.pointer (some ⟨g, 0, none⟩))
theorem GlR.mono {K K' : Wd} {n n' : Nat} (he : Ext K n K' n') (h : GlR K n) : GlR K' n' := fun g cs hg => (h g cs hg).mono he
abbrev Env := List (Nat × AV)
def eget : Env → Nat → Option AV
  | [], _ => none
  | (i, x) :: r, t => if i = t then some x else eget r t
theorem eget_cons (i : Nat) (x : AV) (r : Env) (t : Nat) : eget ((i, x) :: r) t = if i = t then some x else eget r t := rfl
inductive AO where
  | cells (cs : List AV)
  | map (es : List (AV × AV)) (st : List Nat) (ck : Nat)
  | sit (s : List UInt8) (pos : Nat)
  | mit (b since : Nat) (seen : List Nat) (last : Nat)
  | dfd
  | loop (busy : Bool) (fn : FuncId) (N : Nat) (env : List (Nat × AV)) (params : Array Tmp) (assign body : Code) (dm : Nat)
  | left (j : Option Nat)
  deriving Inhabited
abbrev Heap := List (Nat × AO)
def hget : Heap → Nat → Option AO
  | [], _ => none
  | (i, o) :: r, b => if i = b then some o else hget r b
def hset (h : Heap) (b : Nat) (o : AO) : Heap := (b, o) :: h
def hdel : Heap → Nat → Heap
  | [], _ => []
  | (i, o) :: r, b => if i = b then hdel r b else (i, o) :: hdel r b
theorem hget_cons (i : Nat) (o : AO) (r : Heap) (b : Nat) : hget ((i, o) :: r) b = if i = b then some o else hget r b := rfl
theorem hget_hset (h : Heap) (b : Nat) (o : AO) (c : Nat) : hget (hset h b o) c = if b = c then some o else hget h c := rfl
theorem hget_hdel (h : Heap) (b c : Nat) : hget (hdel h b) c = if b = c then none else hget h c := by
  induction h with
  | nil => simp [hdel, hget]
  | cons p r ih =>
    obtain ⟨i, o⟩ := p
    simp only [hdel]
    split
    · rename_i h; subst h; rw [ih]; simp only [hget]; split <;> rfl
    · rename_i h; simp only [hget, ih]; split
      · rename_i h2; subst h2; rw [if_neg (fun e => h e.symm)]
      · rfl
def jmpC : Option Nat → Code
  | none => .ret
  | some k => .exit k
inductive OR (K : Wd) (nx : Nat) : AO → Obj → Prop
  | cells (cs : List AV) (c : Array Value) (e : TypeId) (hs : cs.length ≤ c.size) (h1 : ∀ (i : Nat) (x : AV), cs[i]? = some x → x.one = true)
      (h : ∀ (i : Nat) (x : AV) (v : Value), cs[i]? = some x → c[i]? = some v → VR K nx x v) : OR K nx (.cells cs) (.cells c e (0, 0))
  | map (es : List (AV × AV)) (st : List Nat) (clock : Nat) (en : Array MapEntry) (hs : en.size = es.length) (hl : st.length = es.length)
      (h : ∀ (i : Nat) (x : AV × AV) (y : MapEntry), es[i]? = some x → en[i]? = some y → VR K nx x.1 y.key ∧ VR K nx x.2 y.val ∧ st[i]? = some y.born) (hb : st.Nodup) (hc : ∀ s ∈ st, s < clock) : OR K nx (.map es st clock) (.map en clock)
  | mit (b since : Nat) (seen : List Nat) (last : Nat) (hb : b < nx) (r : Nat) (hr : r = K.m b) : OR K nx (.mit b since seen last) (.mapIter (some r) since seen.toArray last)
  | sit (s : ByteArray) (l : List UInt8) (hl : s.data.toList = l) (pos : Nat) : OR K nx (.sit l pos) (.stringIter s pos)
  | dfd : OR K nx .dfd (.deferred (some []))
  | loop (busy : Bool) (fn : FuncId) (N : Nat) (env : List (Nat × AV)) (ps : Array Tmp) (as bd : Code) (dm : Nat) (hd : dm < nx) (tmps : Array Value) (hs : tmps.size = N) (D : Nat) (hD : D = K.m dm)
      (h : ∀ (t : Nat) (x : AV), eget env t = some x → ∃ v, tmps[t]? = some v ∧ VR K nx x v) :
      OR K nx (.loop busy fn N env ps as bd dm) (.loop { state := if busy = true then .busy else .ready, pending := none, fn := fn, tmps := tmps, params := ps, assign := as, body := bd, defers := D })
  | left (j : Option Nat) (r : Loop) (h1 : r.state = .done) (h2 : r.pending = some (jmpC j)) : OR K nx (.left j) (.loop r)
theorem OR.mono {K K' : Wd} {n n' : Nat} (he : Ext K n K' n') {o : AO} {ob : Obj} (h : OR K n o ob) : OR K' n' o ob := by
  cases h with
  | cells cs c e hs h1 h => exact .cells cs c e hs h1 fun i x v hx hv => (h i x v hx hv).mono he
  | map es st clock en hs hl h hb hc => exact .map es st clock en hs hl (fun i x y hx hy => ⟨(h i x y hx hy).1.mono he, (h i x y hx hy).2.1.mono he, (h i x y hx hy).2.2⟩) hb hc
  | mit b since seen last hb r hr => exact .mit b since seen last (Nat.lt_of_lt_of_le hb he.le) r (by rw [hr, he.m b hb])
  | sit s l hl pos => exact .sit s l hl pos
  | dfd => exact .dfd
  | loop busy fn N env ps as bd dm hd tmps hs D hD h => exact .loop busy fn N env ps as bd dm (Nat.lt_of_lt_of_le hd he.le) tmps hs D (by rw [hD, he.m dm hd]) fun t x hx => let ⟨v, h1, h2⟩ := h t x hx; ⟨v, h1, h2.mono he⟩
  | left j r h1 h2 => exact .left j r h1 h2
structure Good (w0 : World) (K : Wd) (h : Heap) (nx : Nat) : Prop where
  live : ∀ b o, hget h b = some o → b < nx ∧ w0.heap.size ≤ K.m b ∧ (∀ off, ¬ K.Z (K.m b) off) ∧ ∃ ob, K.w.heap[K.m b]? = some ob ∧ OR K nx o ob
  inj : ∀ b b' o o', hget h b = some o → hget h b' = some o' → K.m b = K.m b' → b = b'
  below : Below w0.heap.size w0 K.w
  zin : ∀ b off, K.Z b off → b < K.w.heap.size
  lo : K.lo = w0.heap.size
  gl : GlR K nx
def EnvR (K : Wd) (nx : Nat) (env : Env) (tmps : Array Value) : Prop := ∀ t x, eget env t = some x → ∃ v, tmps[t]? = some v ∧ VR K nx x v
theorem EnvR.mono {K K' : Wd} {n n' : Nat} (he : Ext K n K' n') {env : Env} {tmps : Array Value} (h : EnvR K n env tmps) : EnvR K' n' env tmps := fun t x hx =>
  let ⟨v, h1, h2⟩ := h t x hx; ⟨v, h1, h2.mono he⟩
theorem EnvR.put {K : Wd} {nx : Nat} {env : Env} {tmps : Array Value} (h : EnvR K nx env tmps) {d : Nat} {x : AV} {v : Value} (hd : d < tmps.size) (hv : VR K nx x v) :
    EnvR K nx ((d, x) :: env) (tmps.setIfInBounds d v) := by
  intro t y hy
  simp only [eget_cons] at hy
  rw [Array.getElem?_setIfInBounds]
  by_cases e : d = t
  · subst e
    simp only [if_true, Option.some.injEq] at hy
    subst hy
    exact ⟨v, by simp [hd], hv⟩
  · rw [if_neg e] at hy
    rw [if_neg e]
    exact h t y hy
end Go.Ab
namespace Go.Ab
open Go.RowKit
theorem add_eq (g o j : Nat) : (⟨g, o, none⟩ : Addr).add j = ⟨g, o + j, none⟩ := by unfold Addr.add; split <;> simp_all
theorem add_block (a : Addr) (j : Nat) : (a.add j).block = a.block := by unfold Addr.add; split <;> rfl
theorem cell_row {w : World} {g : Nat} {c : Array Value} {e : TypeId} {fr : Nat × Nat} (h : w.heap[g]? = some (.cells c e fr)) (j : Nat) : w.cell? ⟨g, j, none⟩ = c[j]? := by simp [World.cell?, h]
theorem lt_of_row {w : World} {g : Nat} {ob : Obj} (h : w.heap[g]? = some ob) : g < w.heap.size := (Array.getElem?_eq_some_iff.1 h).1
theorem Ext.of_heap {K : Wd} {nx : Nat} {w' : World} (h : w'.heap = K.w.heap) : Ext K nx { K with w := w' } nx :=
  ⟨Nat.le_refl _, fun _ _ => rfl, fun _ _ h => h, fun b o _ => by simp [World.cell?, h], fun b c e hb => ⟨c, by rw [← hb, h], rfl⟩, rfl, fun _ _ h => .inl h, rfl⟩
theorem Good.of_heap {w0 : World} {K : Wd} {h : Heap} {nx : Nat} (g : Good w0 K h nx) {w' : World} (hh : w'.heap = K.w.heap) (ho : w'.os = K.w.os) (ht : w'.tape = K.w.tape) (hu : w'.output = K.w.output) :
    Good w0 { K with w := w' } h nx :=
  ⟨fun b o hb => by
    obtain ⟨h1, h2, h3, ob, h4, h5⟩ := g.live b o hb
    exact ⟨h1, h2, h3, ob, by rw [← h4]; simp [hh], h5.mono (Ext.of_heap hh)⟩,
   g.inj, ⟨ho.trans g.below.os, ht.trans g.below.tape, hu.trans g.below.output, by simp only [hh]; exact g.below.size, fun k hk => by simp only [hh]; exact g.below.block k hk⟩,
   fun b off hz => by simp only [hh]; exact g.zin b off hz, g.lo, g.gl.mono (Ext.of_heap hh)⟩
theorem Good.drew {w0 : World} {K : Wd} {h : Heap} {nx : Nat} (g : Good w0 K h nx) (n : Nat) : Good w0 { K with w := { K.w with drawn := n } } h nx := g.of_heap rfl rfl rfl rfl
theorem Good.weaken {w0 : World} {K : Wd} {h h' : Heap} {nx nx' : Nat} (g : Good w0 K h nx) (hle : nx ≤ nx') (hh : ∀ b o, hget h' b = some o → hget h b = some o) : Good w0 K h' nx' :=
  ⟨fun b o hb => by
    obtain ⟨h1, h2, h3, ob, h4, h5⟩ := g.live b o (hh b o hb)
    exact ⟨Nat.lt_of_lt_of_le h1 hle, h2, h3, ob, h4, h5.mono ⟨hle, fun _ _ => rfl, fun _ _ h => h, fun _ _ _ => rfl, fun _ c _ h => ⟨c, h, rfl⟩, rfl, fun _ _ h => .inl h, rfl⟩⟩,
   fun b b' o o' h1 h2 => g.inj b b' o o' (hh _ _ h1) (hh _ _ h2), g.below, g.zin, g.lo, g.gl.mono ⟨hle, fun _ _ => rfl, fun _ _ h => h, fun _ _ _ => rfl, fun _ c _ h => ⟨c, h, rfl⟩, rfl, fun _ _ h => .inl h, rfl⟩⟩
theorem Ext.more (K : Wd) {nx nx' : Nat} (hle : nx ≤ nx') : Ext K nx K nx' := ⟨hle, fun _ _ => rfl, fun _ _ h => h, fun _ _ _ => rfl, fun _ c _ h => ⟨c, h, rfl⟩, rfl, fun _ _ h => .inl h, rfl⟩
def Wd.alloc (K : Wd) (nx : Nat) (ob : Obj) : Wd := { w := K.w.alloc ob, m := fun b => if b = nx then K.w.heap.size else K.m b, Z := K.Z, lo := K.lo, ds := K.ds }
def Wd.allocZ (K : Wd) (ob : Obj) : Wd := { w := K.w.alloc ob, m := K.m, Z := fun b o => K.Z b o ∨ b = K.w.heap.size, lo := K.lo, ds := K.ds }
theorem alloc_old (w : World) (ob : Obj) {b : Nat} (h : b < w.heap.size) : (w.alloc ob).heap[b]? = w.heap[b]? := Below.heap_alloc w ob b h
theorem alloc_new (w : World) (ob : Obj) : (w.alloc ob).heap[w.heap.size]? = some ob := World.alloc_heap_new w ob
theorem Ext.alloc {w0 : World} {K : Wd} {h : Heap} {nx : Nat} (g : Good w0 K h nx) (ob : Obj) : Ext K nx (K.alloc nx ob) (nx + 1) :=
  ⟨by omega, fun b hb => by simp only [Wd.alloc]; rw [if_neg (by omega)], fun _ _ h => h, fun b o hz => by
    have hb := g.zin b o hz
    simp only [Wd.alloc, World.cell?, alloc_old _ _ hb], fun b c e hb => ⟨c, by simp only [Wd.alloc]; rw [alloc_old _ _ (lt_of_row hb)]; exact hb, rfl⟩, rfl, fun _ _ h => .inl h, rfl⟩
theorem Ext.allocZ {w0 : World} {K : Wd} {h : Heap} {nx : Nat} (g : Good w0 K h nx) (ob : Obj) : Ext K nx (K.allocZ ob) nx :=
  ⟨by omega, fun b hb => rfl, fun _ _ h => .inl h, fun b o hz => by
    have hb := g.zin b o hz
    simp only [Wd.allocZ, World.cell?, alloc_old _ _ hb], fun b c e hb => ⟨c, by simp only [Wd.allocZ]; rw [alloc_old _ _ (lt_of_row hb)]; exact hb, rfl⟩, rfl, fun b o hz => hz.imp id fun e => by rw [e, g.lo]; exact g.below.size, rfl⟩
theorem Good.alloc {w0 : World} {K : Wd} {h : Heap} {nx : Nat} (g : Good w0 K h nx) {o : AO} {ob : Obj} (ho : OR (K.alloc nx ob) (nx + 1) o ob) : Good w0 (K.alloc nx ob) ((nx, o) :: h) (nx + 1) := by
  have he := Ext.alloc g ob
  have hm : (K.alloc nx ob).m nx = K.w.heap.size := by simp [Wd.alloc]
  have hnz : ∀ off, ¬ (K.alloc nx ob).Z K.w.heap.size off := fun off hz => absurd (g.zin _ _ hz) (by omega)
  refine ⟨fun b o' hb => ?_, fun b b' o1 o2 hb hb' e => ?_, g.below.alloc g.below.size ob, fun b off hz => ?_, g.lo, g.gl.mono he⟩
  · rw [hget_cons] at hb
    split at hb
    · rename_i e; subst e
      injection hb with hb; subst hb
      exact ⟨by omega, by rw [hm]; exact g.below.size, by rw [hm]; exact hnz, ob, by rw [hm]; exact alloc_new _ _, ho⟩
    · rename_i e
      obtain ⟨h1, h2, h3, ob', h4, h5⟩ := g.live b o' hb
      have hmb : (K.alloc nx ob).m b = K.m b := he.m b h1
      exact ⟨by omega, by rw [hmb]; exact h2, by rw [hmb]; exact h3, ob', by rw [hmb]; simp only [Wd.alloc]; rw [alloc_old _ _ (lt_of_row h4)]; exact h4, h5.mono he⟩
  · rw [hget_cons] at hb hb'
    have key : ∀ b o', (if nx = b then some o else hget h b) = some o' → (b = nx ∧ (K.alloc nx ob).m b = K.w.heap.size) ∨ (b < nx ∧ hget h b = some o' ∧ (K.alloc nx ob).m b = K.m b ∧ K.m b < K.w.heap.size) := by
      intro b o' hb
      split at hb
      · rename_i e; subst e; exact .inl ⟨rfl, hm⟩
      · obtain ⟨h1, h2, h3, ob', h4, h5⟩ := g.live b o' hb
        exact .inr ⟨h1, hb, he.m b h1, lt_of_row h4⟩
    rcases key b o1 hb with ⟨h1, h2⟩ | ⟨h1, h2, h3, h4⟩ <;> rcases key b' o2 hb' with ⟨k1, k2⟩ | ⟨k1, k2, k3, k4⟩
    · omega
    · rw [h2, k3] at e; omega
    · rw [h3, k2] at e; omega
    · rw [h3, k3] at e; exact g.inj b b' o1 o2 h2 k2 e
  · have := g.zin b off hz
    simp only [Wd.alloc, World.size_alloc]; omega
theorem Good.allocZ {w0 : World} {K : Wd} {h : Heap} {nx : Nat} (g : Good w0 K h nx) (ob : Obj) : Good w0 (K.allocZ ob) h nx := by
  have he := Ext.allocZ g ob
  refine ⟨fun b o' hb => ?_, g.inj, g.below.alloc g.below.size ob, fun b off hz => ?_, g.lo, g.gl.mono he⟩
  · obtain ⟨h1, h2, h3, ob', h4, h5⟩ := g.live b o' hb
    refine ⟨h1, h2, fun off hz => ?_, ob', by simp only [Wd.allocZ]; rw [alloc_old _ _ (lt_of_row h4)]; exact h4, h5.mono he⟩
    rcases hz with hz | hz
    · exact h3 off hz
    · have := lt_of_row h4
      have hz' : K.m b = K.w.heap.size := hz
      omega
  · rcases hz with hz | hz
    · have := g.zin b off hz
      simp only [Wd.allocZ, World.size_alloc]; omega
    · simp only [Wd.allocZ, World.size_alloc]; omega
def Wd.putObj (K : Wd) (b : Nat) (ob : Obj) : Wd := { K with w := K.w.putObj (K.m b) ob }
theorem putObj_other (w : World) (r k : Nat) (o : Obj) (h : k ≠ r) : (w.putObj r o).heap[k]? = w.heap[k]? := World.putObj_heap_other h
theorem Ext.putObj {w0 : World} {K : Wd} {h : Heap} {nx b : Nat} (g : Good w0 K h nx) {o : AO} (hb : hget h b = some o) {ob : Obj}
    (hs : ∀ c e, K.w.heap[K.m b]? = some (.cells c e (0, 0)) → ∃ c' : Array Value, ob = .cells c' e (0, 0) ∧ c'.size = c.size) : Ext K nx (K.putObj b ob) nx := by
  obtain ⟨h1, h2, h3, ob', h4, h5⟩ := g.live b o hb
  refine ⟨by omega, fun _ _ => rfl, fun _ _ h => h, fun k off hz => ?_, fun k c e hk => ?_, rfl, fun _ _ h => .inl h, rfl⟩
  · have hne : k ≠ K.m b := fun e => h3 off (e ▸ hz)
    simp only [Wd.putObj, World.cell?, putObj_other _ _ _ _ hne]
  · by_cases e1 : k = K.m b
    · subst e1
      obtain ⟨c', rfl, h7⟩ := hs c e hk
      exact ⟨c', by simp only [Wd.putObj]; exact World.putObj_heap_same (lt_of_row h4), h7⟩
    · exact ⟨c, by simp only [Wd.putObj]; rw [putObj_other _ _ _ _ e1]; exact hk, rfl⟩
theorem Good.putObj {w0 : World} {K : Wd} {h : Heap} {nx b : Nat} (g : Good w0 K h nx) {o o' : AO} (hb : hget h b = some o) {ob : Obj}
    (hs : ∀ c e, K.w.heap[K.m b]? = some (.cells c e (0, 0)) → ∃ c' : Array Value, ob = .cells c' e (0, 0) ∧ c'.size = c.size) (ho : OR (K.putObj b ob) nx o' ob) :
    Good w0 (K.putObj b ob) (hset h b o') nx := by
  have he := Ext.putObj g hb hs
  obtain ⟨h1, h2, h3, ob', h4, h5⟩ := g.live b o hb
  refine ⟨fun k o1 hk => ?_, fun k k' o1 o2 hk hk' e => ?_, ?_, fun k off hz => by simp only [Wd.putObj, World.putObj_size]; exact g.zin k off hz, g.lo, g.gl.mono he⟩
  · rw [hget_hset] at hk
    split at hk
    · rename_i e; subst e
      injection hk with hk; subst hk
      exact ⟨h1, h2, h3, ob, by simp only [Wd.putObj]; exact World.putObj_heap_same (lt_of_row h4), ho⟩
    · rename_i e
      obtain ⟨k1, k2, k3, ob2, k4, k5⟩ := g.live k o1 hk
      have hne : K.m k ≠ K.m b := fun e' => e (g.inj k b o1 o hk hb e').symm
      exact ⟨k1, k2, k3, ob2, by simp only [Wd.putObj]; rw [putObj_other _ _ _ _ hne]; exact k4, k5.mono he⟩
  · rw [hget_hset] at hk hk'
    have key : ∀ k o1, (if b = k then some o' else hget h k) = some o1 → ∃ o2, hget h k = some o2 := by
      intro k o1 hk
      split at hk
      · rename_i e; subst e; exact ⟨o, hb⟩
      · exact ⟨o1, hk⟩
    obtain ⟨p, hp⟩ := key k o1 hk
    obtain ⟨q, hq⟩ := key k' o2 hk'
    exact g.inj k k' p q hp hq e
  · refine g.below.trans ⟨rfl, rfl, rfl, by simp [Wd.putObj], fun k hk => ?_⟩
    simp only [Wd.putObj]
    rw [putObj_other _ _ _ _ (by omega)]
def Wd.ice1 (K : Wd) (b : Nat) : Wd := { K with Z := fun k o => K.Z k o ∨ k = K.m b }
theorem Ext.ice1 {w0 : World} {K : Wd} {h : Heap} {nx b : Nat} (g : Good w0 K h nx) {o : AO} (hb : hget h b = some o) : Ext K nx (K.ice1 b) nx :=
  ⟨Nat.le_refl _, fun _ _ => rfl, fun _ _ h => .inl h, fun _ _ _ => rfl, fun _ c _ h => ⟨c, h, rfl⟩, rfl, fun k o hz => hz.imp id fun e => by rw [e, g.lo]; exact (g.live b _ hb).2.1, rfl⟩
theorem Good.ice1 {w0 : World} {K : Wd} {h : Heap} {nx b : Nat} (g : Good w0 K h nx) {o : AO} (hb : hget h b = some o) : Good w0 (K.ice1 b) (hdel h b) nx := by
  have he := Ext.ice1 g hb
  obtain ⟨h1, h2, h3, ob', h4, h5⟩ := g.live b o hb
  refine ⟨fun k o1 hk => ?_, fun k k' o1 o2 hk hk' e => ?_, g.below, fun k off hz => ?_, g.lo, g.gl.mono he⟩
  · rw [hget_hdel] at hk
    split at hk
    · cases hk
    · rename_i e
      obtain ⟨k1, k2, k3, ob2, k4, k5⟩ := g.live k o1 hk
      refine ⟨k1, k2, fun off hz => ?_, ob2, k4, k5.mono he⟩
      rcases hz with hz | hz
      · exact k3 off hz
      · exact e (g.inj k b o1 o hk hb hz).symm
  · rw [hget_hdel] at hk hk'
    split at hk
    · cases hk
    · split at hk'
      · cases hk'
      · exact g.inj k k' o1 o2 hk hk' e
  · rcases hz with hz | hz
    · exact g.zin k off hz
    · have := lt_of_row h4
      have hz' : k = K.m b := hz
      show k < K.w.heap.size
      omega
end Go.Ab
namespace Go.Ab
open Go.RowKit
set_option linter.unusedVariables false
set_option linter.unusedSimpArgs false
def ofC : Value → Option AV
  | .int k n => some (.int k n)
  | .bool b => some (.bool b)
  | .string s => some (.str s.data.toList)
  | .pointer none => some .nilP
  | .slice none 0 0 => some .nilS
  | .map none => some .nilM
  | .nilFunc => some .nilF
  | .nilIface => some .nilI
  | _ => none
theorem ofC_one {v : Value} {x : AV} (h : ofC v = some x) : x.one = true := by
  unfold ofC at h
  split at h <;> first | (cases h; rfl) | cases h
theorem ofC_sound {K : Wd} {nx : Nat} {v : Value} {x : AV} (h : ofC v = some x) : VR K nx x v := by
  unfold ofC at h
  split at h <;> first | cases h | skip
  · exact .int _ _
  · exact .bool _
  · exact .str _ _ rfl
  · exact .nilP
  · exact .nilS
  · exact .nilM
  · exact .nilF
  · exact .nilI
structure CR (K : Wd) (nx : Nat) (cs : List AV) (c : List Value) : Prop where
  len : c.length = cs.length
  one : ∀ (i : Nat) (x : AV), cs[i]? = some x → x.one = true
  at_ : ∀ (i : Nat) (x : AV) (v : Value), cs[i]? = some x → c[i]? = some v → VR K nx x v
theorem CR.nil (K : Wd) (nx : Nat) : CR K nx [] [] := ⟨rfl, fun i x h => by simp at h, fun i x v h => by simp at h⟩
theorem CR.mono {K K' : Wd} {n n' : Nat} (he : Ext K n K' n') {cs : List AV} {c : List Value} (h : CR K n cs c) : CR K' n' cs c := ⟨h.len, h.one, fun i x v h1 h2 => (h.at_ i x v h1 h2).mono he⟩
theorem CR.append {K : Wd} {nx : Nat} {cs ds : List AV} {c d : List Value} (h : CR K nx cs c) (k : CR K nx ds d) : CR K nx (cs ++ ds) (c ++ d) := by
  refine ⟨by simp [h.len, k.len], fun i x hx => ?_, fun i x v hx hv => ?_⟩
  · rw [List.getElem?_append] at hx
    split at hx
    · exact h.one _ _ hx
    · exact k.one _ _ hx
  · rw [List.getElem?_append] at hx hv
    rw [h.len] at hv
    split at hx
    · rename_i hi; rw [if_pos hi] at hv; exact h.at_ _ _ _ hx hv
    · rename_i hi; rw [if_neg hi] at hv; exact k.at_ _ _ _ hx hv
theorem CR.take {K : Wd} {nx : Nat} {cs : List AV} {c : List Value} (h : CR K nx cs c) (n : Nat) : CR K nx (cs.take n) (c.take n) := by
  refine ⟨by simp [h.len], fun i x hx => ?_, fun i x v hx hv => ?_⟩
  · rw [List.getElem?_take] at hx; split at hx
    · exact h.one _ _ hx
    · cases hx
  · rw [List.getElem?_take] at hx hv; split at hx
    · rename_i hi; rw [if_pos hi] at hv; exact h.at_ _ _ _ hx hv
    · cases hx
theorem CR.drop {K : Wd} {nx : Nat} {cs : List AV} {c : List Value} (h : CR K nx cs c) (n : Nat) : CR K nx (cs.drop n) (c.drop n) := by
  refine ⟨by simp [h.len], fun i x hx => ?_, fun i x v hx hv => ?_⟩
  · rw [List.getElem?_drop] at hx; exact h.one _ _ hx
  · rw [List.getElem?_drop] at hx hv; exact h.at_ _ _ _ hx hv
theorem CR.single {K : Wd} {nx : Nat} {x : AV} {v : Value} (h : VR K nx x v) (h1 : x.one = true) : CR K nx [x] [v] := by
  refine ⟨rfl, fun i y hy => ?_, fun i y u hy hu => ?_⟩
  · cases i with
    | zero => simp at hy; subst hy; exact h1
    | succ i => simp at hy
  · cases i with
    | zero => simp at hy hu; subst hy; subst hu; exact h
    | succ i => simp at hy
theorem CR.ofC {K : Wd} {nx : Nat} : ∀ {c : List Value} {cs : List AV}, c.mapM Go.Ab.ofC = some cs → CR K nx cs c
  | [], cs, h => by simp at h; subst h; exact .nil _ _
  | v :: c, cs, h => by
    simp only [List.mapM_cons, Option.bind_eq_bind, Option.bind_eq_some_iff, Option.pure_def, Option.some.injEq] at h
    obtain ⟨x, hx, ys, hys, rfl⟩ := h
    exact (CR.single (ofC_sound hx) (ofC_one hx)).append (CR.ofC hys)
theorem CR.oneCell {K : Wd} {nx : Nat} {cs : List AV} {c : List Value} (h : CR K nx cs c) : ∀ v ∈ c, v.oneCell' = true := by
  intro v hv
  obtain ⟨i, hi⟩ := List.getElem?_of_mem hv
  have hl := (List.getElem?_eq_some_iff.1 hi).1
  rw [h.len] at hl
  have hx : cs[i]? = some cs[i] := List.getElem?_eq_getElem hl
  exact (h.at_ i _ v hx hi).oneCell (h.one i _ hx)
theorem VR.ofAgg {K : Wd} {nx : Nat} {cs : List AV} {c : Array Value} (h : VR K nx (.agg cs) (.agg c)) : CR K nx cs c.toList := by
  cases h with
  | agg _ _ hs h1 h => exact ⟨by simpa using hs, h1, fun i x v hx hv => h i x v hx (by simpa using hv)⟩
theorem CR.toAgg {K : Wd} {nx : Nat} {cs : List AV} {c : List Value} (h : CR K nx cs c) : VR K nx (.agg cs) (.agg c.toArray) :=
  .agg cs c.toArray (by simpa using h.len) h.one fun i x v hx hv => h.at_ i x v hx (by simpa using hv)
theorem CR.toAgg' {K : Wd} {nx : Nat} {cs : List AV} {c : Array Value} (h : CR K nx cs c.toList) : VR K nx (.agg cs) (.agg c) := by simpa using h.toAgg
def cellsOf : AV → List AV
  | .agg cs => cs
  | x => [x]
def AV.plain : AV → Bool
  | .tup _ => false
  | _ => true
theorem VR.cells {K : Wd} {nx : Nat} {x : AV} {v : Value} (h : VR K nx x v) (hp : x.plain = true) : CR K nx (cellsOf x) v.cells.toList := by
  by_cases h1 : x.one = true
  · have hc : cellsOf x = [x] := by cases x <;> simp_all [cellsOf, AV.one]
    rw [hc, oneCell_cells (h.oneCell h1)]
    exact .single h h1
  · cases h <;> simp [AV.one] at h1
    · rename_i cs c hs h1' h'
      exact VR.ofAgg (.agg cs c hs h1' h')
    · simp [AV.plain] at hp
def ofV : Value → Option AV
  | .agg c => (c.toList.mapM ofC).map .agg
  | v => ofC v
theorem ofV_sound {K : Wd} {nx : Nat} {v : Value} {x : AV} (h : ofV v = some x) : VR K nx x v := by
  unfold ofV at h
  split at h
  · rename_i c
    obtain ⟨cs, hcs, rfl⟩ := Option.map_eq_some_iff.1 h
    exact (CR.ofC hcs).toAgg'
  · exact ofC_sound h
def oev (env : Env) : Operand → Option AV
  | .tmp t => eget env t
  | .const v => ofV v
  | .func f => some (.fn (.func f) [])
  | .global _ => none
theorem oev_sound {K : Wd} {nx : Nat} {env : Env} {a : Act} (he : EnvR K nx env a.tmps) {o : Operand} {x : AV} (h : oev env o = some x) : VR K nx x (a.eval o) := by
  cases o with
  | tmp t =>
    obtain ⟨v, h1, h2⟩ := he t x h
    have : a.eval (.tmp t) = v := by simp [Act.eval, Array.getD_eq_getD_getElem?, h1]
    rwa [this]
  | const v => exact ofV_sound h
  | func f => simp only [oev, Option.some.injEq] at h; subst h; exact .fn _ [] #[] rfl fun i x v hx => by simp at hx
  | global g => cases h
def ptrCells (h : Heap) : AV → Option (List AV)
  | .fp cs => some cs
  | .op b off => match hget h b with
    | some (.cells cs) => some (cs.drop off)
    | _ => none
  | _ => none
theorem ptrCells_sound {w0 : World} {K : Wd} {h : Heap} {nx : Nat} (g : Good w0 K h nx) {p : AV} {cs : List AV} (hp : ptrCells h p = some cs) {v : Value} (hv : VR K nx p v) :
    ∃ a c, v = .pointer (some a) ∧ CR K nx cs c ∧ ∀ j, j < cs.length → K.w.cell? (a.add j) = some (c.getD j undef) := by
  unfold ptrCells at hp
  split at hp
  · simp only [Option.some.injEq] at hp; subst hp
    rename_i cs
    cases hv with
    | fp _ a c h1 hr h =>
      refine ⟨a, (List.range cs.length).map c, rfl, ⟨by simp, h1, fun i x v hx hv => ?_⟩, fun j hj => ?_⟩
      · have hi : i < cs.length := (List.getElem?_eq_some_iff.1 hx).1
        have : v = c i := by simpa [hi] using hv.symm
        rw [this]; exact h i x hx
      · have := (hr j hj).1
        simpa [List.getD_eq_getElem?_getD, hj] using this
  · rename_i b off
    split at hp
    · rename_i cs0 hb
      simp only [Option.some.injEq] at hp; subst hp
      cases hv with
      | op _ _ hlt a ha =>
        subst ha
        obtain ⟨_, _, _, ob, hob, hor⟩ := g.live b _ hb
        cases hor with
        | cells _ c e hs h1 h =>
          have hcr : CR K nx cs0 (c.toList.take cs0.length) := ⟨by simp; omega, h1, fun i x v hx hv => by
            have hi : i < cs0.length := (List.getElem?_eq_some_iff.1 hx).1
            exact h i x v hx (by simpa [List.getElem?_take, hi] using hv)⟩
          refine ⟨_, _, rfl, hcr.drop off, fun j hj => ?_⟩
          rw [add_eq, cell_row hob]
          have hj' : off + j < cs0.length := by simp at hj; omega
          have hj2 : off + j < c.size := by omega
          simp [List.getD_eq_getElem?_getD, List.getElem?_drop, List.getElem?_take, hj', hj2]
    · cases hp
  · cases hp
theorem run_loadCells_CR {P : Program} {w : World} {a : Addr} {c : List Value} {n m : Nat} (hn : n ≤ m) (hm : c.length = m) (h : ∀ j, j < m → w.cell? (a.add j) = some (c.getD j undef)) :
    (loadCells a n).run P w = .ok (c.take n).toArray w := by
  rw [run_loadCells w a n (fun j => c.getD j undef) (fun j hj => h j (by omega))]
  congr 2
  apply List.ext_getElem?
  intro j
  by_cases hj : j < n
  · have : j < c.length := by omega
    simp [hj, this, List.getD_eq_getElem?_getD]
  · simp [hj]; omega
def isAggT (P : Program) (t : TypeId) : Bool := match P.underlying t with
  | some (.struct _) | some (.array _ _) => true
  | _ => false
theorem run_isAggT {P : Program} {t : TypeId} {d : TypeDesc} (h : P.underlying t = some d) (w : World) : (isAgg t).run P w = .ok (isAggT P t) w := by
  unfold isAgg isAggT
  rw [Sem.run_bind, run_underlying h]
  simp only [h, Result.andThen]
  cases d <;> rfl
def sizeT (P : Program) (t : TypeId) : Nat := P.cellsOf t
theorem run_sizeT {P : Program} {t : TypeId} {d : TypeDesc} (h : P.underlying t = some d) (w : World) : (sizeOf t).run P w = .ok (sizeT P t) w := by
  have hi : (P.info? t).isSome = true := by
    cases hq : P.info? t with
    | none => simp [Program.underlying, hq] at h
    | some i => rfl
  obtain ⟨i, hi⟩ := Option.isSome_iff_exists.1 hi
  simp [sizeOf, typeInfo, hi, sizeT, Program.cellsOf]
def takeV (sz : Nat) (ag : Bool) (cs : List AV) : Option AV :=
  if ag then (if sz ≤ cs.length then some (.agg (cs.take sz)) else none)
  else match cs with
    | x :: _ => some x
    | [] => none
theorem load_sound {P : Program} {w0 : World} {K : Wd} {h : Heap} {nx : Nat} (g : Good w0 K h nx) {t : TypeId} {d : TypeDesc} (ht : P.underlying t = some d) {p x : AV} {cs : List AV} {v : Value}
    (hp : ptrCells h p = some cs) (hx : takeV (sizeT P t) (isAggT P t) cs = some x) (hv : VR K nx p v) : ∃ u, (Instr.loadAt t v).run P K.w = .ok u K.w ∧ VR K nx x u := by
  obtain ⟨a, c, rfl, hcr, hc⟩ := ptrCells_sound g hp hv
  unfold takeV at hx
  cases hag : isAggT P t with
  | true =>
    rw [hag, if_pos rfl] at hx
    split at hx
    · rename_i hle
      simp only [Option.some.injEq] at hx; subst hx
      refine ⟨.agg (c.take (sizeT P t)).toArray, ?_, (hcr.take _).toAgg⟩
      have hl := run_loadCells_CR (P := P) (w := K.w) (a := a) hle hcr.len (by intro j hj; exact hc j hj)
      simp [Instr.loadAt, Instr.sureAddr, loadVar, run_isAggT ht, hag, run_sizeT ht, hl]
    · cases hx
  | false =>
    rw [hag] at hx
    cases cs with
    | nil => simp at hx
    | cons y r =>
      simp only [Bool.false_eq_true, if_false, Option.some.injEq] at hx; subst hx
      cases c with
      | nil => have := hcr.len; simp at this
      | cons u r' =>
        have h0 := hc 0 (by simp)
        have h0' : K.w.cell? a = some u := by simpa [Addr.add] using h0
        refine ⟨u, ?_, hcr.at_ 0 y u rfl rfl⟩
        simp [Instr.loadAt, Instr.sureAddr, loadVar, run_isAggT ht, hag, h0']
def splice (cs : List AV) (off : Nat) (xs : List AV) : List AV := cs.take off ++ (xs ++ cs.drop (off + xs.length))
def storeH (h : Heap) (p : AV) (xs : List AV) : Option Heap :=
  match p with
  | .op b off => match hget h b with
    | some (.cells cs) => if off + xs.length ≤ cs.length then some (hset h b (.cells (splice cs off xs))) else none
    | _ => none
  | _ => none
theorem setRow_eq_putObj {w : World} {g : Nat} {c : Array Value} {e : TypeId} (h : w.heap[g]? = some (.cells c e (0, 0))) (c' : Array Value) : w.setRow g c' = w.putObj g (.cells c' e (0, 0)) := by
  unfold World.setRow World.putObj
  congr 1
  apply Array.ext_getElem?
  intro k
  rw [Array.getElem?_modify, Array.getElem?_setIfInBounds]
  by_cases e1 : g = k
  · subst e1
    obtain ⟨hl, he⟩ := Array.getElem?_eq_some_iff.1 h
    simp [hl, he]
  · simp [e1]
theorem write_sound {P : Program} {w0 : World} {K : Wd} {h : Heap} {nx : Nat} (g : Good w0 K h nx) {b off : Nat} {cs xs : List AV} {vs : List Value} (hb : hget h b = some (.cells cs)) (hle : off + xs.length ≤ cs.length)
    (hx : CR K nx xs vs) : ∃ K', (storeCells ⟨K.m b, off, none⟩ vs).run P K.w = .ok () K'.w ∧ Ext K nx K' nx ∧ Good w0 K' (hset h b (.cells (splice cs off xs))) nx := by
  obtain ⟨hlt, hge, hnz, ob, hob, hor⟩ := g.live b _ hb
  cases hor with
  | cells _ c e hs h1 hc =>
    have hlen := hx.len
    have hrun := run_storeCells_at P (K.m b) off e vs 0 c K.w hob (by omega) hx.oneCell
    obtain ⟨c', hc'⟩ : ∃ c', c' = (c.toList.take (off + 0) ++ vs ++ c.toList.drop (off + 0 + vs.length)).toArray := ⟨_, rfl⟩
    rw [← hc', setRow_eq_putObj hob] at hrun
    have hsz : c'.size = c.size := by rw [hc']; simp; omega
    have hs1 : ∀ c0 e0, K.w.heap[K.m b]? = some (.cells c0 e0 (0, 0)) → ∃ c2 : Array Value, (Obj.cells c' e (0, 0)) = .cells c2 e0 (0, 0) ∧ c2.size = c0.size := by
      intro c0 e0 h0
      rw [hob] at h0; injection h0 with h0; injection h0 with h0 h00; subst h0; subst h00
      exact ⟨c', rfl, hsz⟩
    have hext := Ext.putObj (ob := .cells c' e (0, 0)) g hb hs1
    refine ⟨K.putObj b (.cells c' e (0, 0)), hrun, hext, Good.putObj g hb hs1 ?_⟩
    have hcr0 : CR K nx cs (c.toList.take cs.length) := ⟨by simp; omega, h1, fun i x v hx hv => by
      have hi : i < cs.length := (List.getElem?_eq_some_iff.1 hx).1
      exact hc i x v hx (by simpa [List.getElem?_take, hi] using hv)⟩
    have hcr := ((hcr0.take off).append (hx.append (hcr0.drop (off + xs.length)))).mono hext
    have hspl : (splice cs off xs).length = cs.length := by simp [splice]; omega
    refine .cells _ _ _ (by rw [hspl, hsz]; exact hs) hcr.one fun i x v hx' hv => ?_
    refine hcr.at_ i x v hx' ?_
    have hi : i < cs.length := by rw [← hspl]; exact (List.getElem?_eq_some_iff.1 hx').1
    rw [← hv, hc']
    rw [List.getElem?_toArray]
    simp only [Nat.add_zero, hlen, List.append_assoc]
    have e3 : c.toList.take off = (c.toList.take cs.length).take off := by rw [List.take_take]; congr 1; omega
    rw [e3]
    simp only [List.getElem?_append]
    split
    · rfl
    · split
      · rfl
      · rename_i h5 h6
        rw [hlen] at h6 ⊢
        simp only [List.length_take, Array.length_toList] at h5 h6
        simp only [List.getElem?_drop, List.getElem?_take, List.length_take, Array.length_toList]
        rw [if_pos (by omega)]
theorem write_sound2 {P : Program} {w0 : World} {K : Wd} {h : Heap} {nx : Nat} (g : Good w0 K h nx) {b off : Nat} {cs xs : List AV} {vs : List Value} (hb : hget h b = some (.cells cs)) (hle : off ≤ cs.length)
    (hfit : ∀ c e, K.w.heap[K.m b]? = some (.cells c e (0, 0)) → off + xs.length ≤ c.size) (hx : CR K nx xs vs) : ∃ K', (storeCells ⟨K.m b, off, none⟩ vs).run P K.w = .ok () K'.w ∧ Ext K nx K' nx ∧ Good w0 K' (hset h b (.cells (splice cs off xs))) nx := by
  obtain ⟨hlt, hge, hnz, ob, hob, hor⟩ := g.live b _ hb
  cases hor with
  | cells _ c e hs h1 hc =>
    have hlen := hx.len
    have hfit := hfit c e hob
    have hrun := run_storeCells_at P (K.m b) off e vs 0 c K.w hob (by omega) hx.oneCell
    obtain ⟨c', hc'⟩ : ∃ c', c' = (c.toList.take (off + 0) ++ vs ++ c.toList.drop (off + 0 + vs.length)).toArray := ⟨_, rfl⟩
    rw [← hc', setRow_eq_putObj hob] at hrun
    have hsz : c'.size = c.size := by rw [hc']; simp; omega
    have hs1 : ∀ c0 e0, K.w.heap[K.m b]? = some (.cells c0 e0 (0, 0)) → ∃ c2 : Array Value, (Obj.cells c' e (0, 0)) = .cells c2 e0 (0, 0) ∧ c2.size = c0.size := by
      intro c0 e0 h0
      rw [hob] at h0; injection h0 with h0; injection h0 with h0 h00; subst h0; subst h00
      exact ⟨c', rfl, hsz⟩
    have hext := Ext.putObj (ob := .cells c' e (0, 0)) g hb hs1
    refine ⟨K.putObj b (.cells c' e (0, 0)), hrun, hext, Good.putObj g hb hs1 ?_⟩
    have hcr0 : CR K nx cs (c.toList.take cs.length) := ⟨by simp; omega, h1, fun i x v hx hv => by
      have hi : i < cs.length := (List.getElem?_eq_some_iff.1 hx).1
      exact hc i x v hx (by simpa [List.getElem?_take, hi] using hv)⟩
    have hcr := ((hcr0.take off).append (hx.append (hcr0.drop (off + xs.length)))).mono hext
    have hspl : (splice cs off xs).length = off + (xs.length + (cs.length - (off + xs.length))) := by simp [splice]; omega
    refine .cells _ _ _ (by rw [hspl, hsz]; omega) hcr.one fun i x v hx' hv => ?_
    refine hcr.at_ i x v hx' ?_
    have hi : i < off + (xs.length + (cs.length - (off + xs.length))) := by rw [← hspl]; exact (List.getElem?_eq_some_iff.1 hx').1
    rw [← hv, hc']
    rw [List.getElem?_toArray]
    simp only [Nat.add_zero, hlen, List.append_assoc]
    have e3 : c.toList.take off = (c.toList.take cs.length).take off := by rw [List.take_take]; congr 1; omega
    rw [e3]
    simp only [List.getElem?_append]
    split
    · rfl
    · split
      · rfl
      · rename_i h5 h6
        rw [hlen] at h6 ⊢
        simp only [List.length_take, Array.length_toList] at h5 h6
        simp only [List.getElem?_drop, List.getElem?_take, List.length_take, Array.length_toList]
        rw [if_pos (by omega)]
theorem store_sound {P : Program} {w0 : World} {K : Wd} {h h' : Heap} {nx : Nat} (g : Good w0 K h nx) {t : TypeId} {d : TypeDesc} (ht : P.underlying t = some d) {p x : AV} {v u : Value}
    (hx : x.plain = true) (hsz : (cellsOf x).length = sizeT P t) (hst : storeH h p (cellsOf x) = some h') (hv : VR K nx p v) (hu : VR K nx x u) :
    ∃ K', (Instr.storeAt t v u).run P K.w = .ok () K'.w ∧ Ext K nx K' nx ∧ Good w0 K' h' nx := by
  unfold storeH at hst
  split at hst
  · rename_i b off
    split at hst
    · rename_i cs hb
      split at hst
      · rename_i hle
        simp only [Option.some.injEq] at hst; subst hst
        cases hv with
        | op _ _ hlt a ha =>
          subst ha
          have hcr := hu.cells hx
          obtain ⟨K', h1, h2, h3⟩ := write_sound (P := P) g hb hle hcr
          refine ⟨K', ?_, h2, h3⟩
          have hl : u.cells.size = sizeT P t := by have := hcr.len; simpa [hsz] using this
          simp [Instr.storeAt, Instr.sureAddr, storeVar, run_sizeT ht, hl, h1]
      · cases hst
    · cases hst
  · cases hst
end Go.Ab
namespace Go.Ab
open Go.RowKit
set_option linter.unusedVariables false
set_option linter.unusedSimpArgs false
def cmpA (op : BinOp) (x y : Int) : Option Bool :=
  match op with
  | .eql => some (decide (x = y))
  | .neq => some (!decide (x = y))
  | .lss => some (decide (x < y))
  | .leq => some (decide (x ≤ y))
  | .gtr => some (decide (y < x))
  | .geq => some (decide (y ≤ x))
  | _ => none
def bitsA (op : BinOp) (k : IntKind) (x y : Int) : Option Int :=
  let a := BitVec.ofInt k.bits x
  let b := BitVec.ofInt k.bits y
  match op with
  | .and => some (k.wrap ((a &&& b).toNat : Int))
  | .or => some (k.wrap ((a ||| b).toNat : Int))
  | .xor => some (k.wrap ((a ^^^ b).toNat : Int))
  | .andNot => some (k.wrap ((a &&& ~~~b).toNat : Int))
  | _ => none
def numA (op : BinOp) (k : IntKind) (x y : Int) : Option AV :=
  match op with
  | .add => some (.int k (k.wrap (x + y)))
  | .sub => some (.int k (k.wrap (x - y)))
  | .mul => some (.int k (k.wrap (x * y)))
  | .quo => if y = 0 then none else some (.int k (k.wrap (x.tdiv y)))
  | .rem => if y = 0 then none else some (.int k (x.tmod y))
  | .and => (bitsA .and k x y).map (.int k)
  | .or => (bitsA .or k x y).map (.int k)
  | .xor => (bitsA .xor k x y).map (.int k)
  | .andNot => (bitsA .andNot k x y).map (.int k)
  | op => (cmpA op x y).map .bool
def strA (op : BinOp) (x y : List UInt8) : Option AV :=
  match op with
  | .add => if x.length + y.length ≤ 9223372036854775807 then some (.str (x ++ y)) else none
  | .eql => some (.bool (x == y))
  | .neq => some (.bool (!(x == y)))
  | .lss => some (.bool (Op.bytesLess x y))
  | .leq => some (.bool (Op.bytesLess x y || x == y))
  | .gtr => some (.bool (!(Op.bytesLess x y || x == y)))
  | .geq => some (.bool (!Op.bytesLess x y))
  | _ => none
def shA (op : BinOp) (k : IntKind) (x y : Int) : Option AV :=
  if y < 0 then none else
    match op with
    | .shl => some (.int k (k.wrap (x * 2 ^ (min y.toNat k.bits))))
    | .shr => some (.int k (x.fdiv (2 ^ (min y.toNat k.bits))))
    | _ => none
def binA (op : BinOp) (x y : AV) : Option AV :=
  match x, y with
  | .int k a, .int k' b => match op with
    | .shl => shA .shl k a b
    | .shr => shA .shr k a b
    | op => if k = k' then numA op k a b else none
  | .str a, .str b => strA op a b
  | _, _ => none
theorem toList_data (s : ByteArray) : s.toList = s.data.toList := ByteArray.toList_eq s
theorem beqI (x y : Int) : (x == y) = decide (x = y) := rfl
theorem append_data (x y : ByteArray) : (x ++ y).data.toList = x.data.toList ++ y.data.toList := by simp
theorem eqGuard_plain {P : Program} (op : BinOp) (t : TypeId) (x y : Operand) {a b : Value} (w : World) (h1 : ∀ c, a ≠ .agg c) (h2 : a ≠ .nilIface ∨ b ≠ .nilIface) : (eqGuard op t x y a b).run P w = .ok () w := by
  unfold eqGuard
  cases op <;> first
    | rfl
    | (cases a <;> first
        | rfl
        | exact absurd rfl (h1 _)
        | (cases b <;> first
            | rfl
            | (rcases h2 with h2 | h2 <;> exact absurd rfl h2)))
theorem binA_sound {P : Program} {K : Wd} {nx : Nat} {op : BinOp} {t : TypeId} {x y r : AV} {u v : Value} {ox oy : Operand} (h : binA op x y = some r) (hu : VR K nx x u) (hv : VR K nx y v) :
    ∃ z, (do eqGuard op t ox oy u v; binOp op t u v : Sem Value).run P K.w = .ok z K.w ∧ VR K nx r z := by
  unfold binA at h
  split at h
  · rename_i k a k' b
    cases hu; cases hv
    rw [Sem.run_bind, eqGuard_plain op t ox oy K.w (by intro c; simp) (by simp)]
    simp only [Result.andThen]
    have hsh : ∀ (o : BinOp), (o = .shl ∨ o = .shr) → shA o k a b = some r → ∃ z, (Op.shift o k a k' b).run P K.w = .ok z K.w ∧ VR K nx r z := by
      intro o ho h
      unfold shA at h
      split at h
      · cases h
      · rename_i hy
        rcases ho with rfl | rfl
        · simp only [Option.some.injEq] at h; subst h
          exact ⟨_, by simp [Op.shift, hy], .int _ _⟩
        · simp only [Option.some.injEq] at h; subst h
          exact ⟨_, by simp [Op.shift, hy], .int _ _⟩
    cases op <;> first
      | exact hsh _ (.inl rfl) h
      | exact hsh _ (.inr rfl) h
      | (dsimp only at h
         split at h
         · rename_i hk; subst hk
           simp only [numA, cmpA, bitsA, Option.map_some, Option.map_none, Option.some.injEq] at h
           first
             | (subst h; exact ⟨_, by simp [binOp, Op.intArith, Op.intBits, Op.intCmp], .int _ _⟩)
             | (subst h; exact ⟨_, by simp [binOp, Op.intCmp, beqI, bne], .bool _⟩)
             | (split at h
                · cases h
                · rename_i hy
                  simp only [Option.some.injEq] at h; subst h
                  exact ⟨_, by simp [binOp, Op.intDiv, hy], .int _ _⟩)
             | cases h
         · cases h)
  · rename_i a b
    cases hu with
    | str _ s hs =>
    cases hv with
    | str _ s' hs' =>
    rw [Sem.run_bind, eqGuard_plain op t ox oy K.w (by intro c; simp) (by simp)]
    simp only [Result.andThen]
    subst hs; subst hs'
    cases op <;> simp only [strA, Option.some.injEq] at h <;> first
      | (subst h; exact ⟨_, by simp [binOp, Op.stringOp, toList_data], .bool _⟩)
      | (split at h
         · rename_i hle
           simp only [Option.some.injEq] at h; subst h
           have hle' : ¬ (((s.size + s'.size : Nat) : Int) > IntKind.i64.max) := by
             have h1 : s.data.toList.length = s.size := by rw [Array.length_toList]; rfl
             have h2 : s'.data.toList.length = s'.size := by rw [Array.length_toList]; rfl
             rw [h1, h2] at hle
             have h3 : IntKind.i64.max = 9223372036854775807 := by decide
             rw [h3]
             omega
           refine ⟨.string (s ++ s'), ?_, .str _ _ (append_data _ _)⟩
           simp only [binOp, Op.stringOp, if_neg hle']
           rfl
         · cases h)
      | cases h
  · cases h
inductive FK where
  | int
  | bool
  | str
  deriving DecidableEq, Inhabited
def fkT (P : Program) (t : TypeId) : Option FK := match P.underlying t with
  | some (.int _) => some .int
  | some .bool => some .bool
  | some .string => some .str
  | _ => none
def eqC : FK → AV → AV → Option Bool
  | .int, .int k a, .int k' b => if k = k' then some (decide (a = b)) else none
  | .bool, .bool a, .bool b => some (a == b)
  | .str, .str a, .str b => some (a == b)
  | _, _, _ => none
inductive NK where
  | ptr
  | sl
  | mp
  | fn
  | ifc
  deriving DecidableEq, Inhabited
def nilA : NK → AV → Option Bool
  | .ptr, .nilP => some true
  | .ptr, .op .. => some false
  | .ptr, .fp _ => some false
  | .sl, .nilS => some true
  | .sl, .lst _ (_ :: _) => some false
  | .sl, .os .. => some false
  | .sl, .ne0 => some false
  | .mp, .nilM => some true
  | .mp, .mp _ => some false
  | .fn, .nilF => some true
  | .fn, .fn .. => some false
  | .fn, .bm .. => some false
  | .ifc, .nilI => some true
  | .ifc, .ifc .. => some false
  | _, _ => none
def eqL : List FK → List AV → List AV → Option Bool
  | [], _, _ => some true
  | f :: fs, x :: xs, y :: ys => match eqC f x y, eqL fs xs ys with
    | some a, some b => some (a && b)
    | _, _ => none
  | _, _, _ => none
theorem eqC_sound {P : Program} {K : Wd} {nx : Nat} {x y : AV} {u v : Value} {r : Bool} (d : Nat) {t : TypeId} {f : FK} (ht : fkT P t = some f) (h : eqC f x y = some r) (hu : VR K nx x u) (hv : VR K nx y v) :
    (Op.equalIn (d + 1) t u v).run P K.w = .ok r K.w := by
  unfold fkT at ht
  split at ht <;> first | (cases ht; done) | skip
  · rename_i q hq
    cases ht
    unfold eqC at h
    split at h <;> first | (cases h; done) | skip
    · split at h
      · rename_i hk
        simp only [Option.some.injEq] at h; subst h; subst hk
        cases hu; cases hv
        simp [Op.equalIn, run_underlying hq, beqI]
      · cases h
    · contradiction
    · contradiction
  · rename_i hq
    cases ht
    unfold eqC at h
    split at h <;> first | (cases h; done) | skip
    · contradiction
    · simp only [Option.some.injEq] at h; subst h
      cases hu; cases hv
      simp [Op.equalIn, run_underlying hq]
    · contradiction
  · rename_i hq
    cases ht
    unfold eqC at h
    split at h <;> first | (cases h; done) | skip
    · contradiction
    · contradiction
    · simp only [Option.some.injEq] at h; subst h
      cases hu with
      | str _ s hs =>
      cases hv with
      | str _ s' hs' =>
      subst hs; subst hs'
      simp [Op.equalIn, run_underlying hq, beq_toListBytes, toList_data]
theorem run_part_at {P : Program} {w : World} {t : TypeId} {d : TypeDesc} (ht : P.underlying t = some d) (hag : isAggT P t = false) {c : Array Value} {off : Nat} {v : Value} (h : c[off]? = some v) : (part t c off).run P w = .ok v w := by
  simp [part, run_isAggT ht, hag, h]
theorem fkT_plain {P : Program} {t : TypeId} {f : FK} (h : fkT P t = some f) : ∃ d, P.underlying t = some d ∧ isAggT P t = false := by
  unfold fkT at h
  split at h <;> first | (cases h; done) | (rename_i hq; exact ⟨_, hq, by simp [isAggT, hq]⟩)
def flatFs (P : Program) : Nat → List Field → Option (List FK)
  | _, [] => some []
  | i, f :: fs => if f.name ≠ "_" ∧ f.offset = i then (match fkT P f.type, flatFs P (i + 1) fs with
      | some k, some r => some (k :: r)
      | _, _ => none) else none
def flatT (P : Program) (t : TypeId) : Option (List FK) :=
  match P.underlying t with
  | some (.struct fs) => if P.stoodInHeld t = false ∧ P.eqGuardType P.depth t = false then flatFs P 0 fs.toList else none
  | some (.array n e) => if n = 1 ∧ P.eqGuardType P.depth t = false then (fkT P e).map fun k => [k] else none
  | _ => none
theorem eqFields_sound {P : Program} {K : Wd} {nx : Nat} (d : Nat) {c c' : Array Value} {cs cs' : List AV} (h1 : CR K nx cs c.toList) (h2 : CR K nx cs' c'.toList) :
    ∀ (fs : List Field) (i : Nat) (ks : List FK) (r : Bool), flatFs P i fs = some ks → eqL ks (cs.drop i) (cs'.drop i) = some r → (Op.eqFields (d + 1) c c' fs).run P K.w = .ok r K.w
  | [], i, ks, r, hk, hr => by
    simp only [flatFs, Option.some.injEq] at hk; subst hk
    simp only [eqL, Option.some.injEq] at hr; subst hr
    simp [Op.eqFields]
  | f :: fs, i, ks, r, hk, hr => by
    simp only [flatFs] at hk
    split at hk
    · rename_i hc
      obtain ⟨hn, ho⟩ := hc
      split at hk
      · rename_i k rs hkf hkr
        simp only [Option.some.injEq] at hk; subst hk
        cases hx : cs.drop i with
        | nil => rw [hx] at hr; simp [eqL] at hr
        | cons x xs =>
          cases hy : cs'.drop i with
          | nil => rw [hx, hy] at hr; simp [eqL] at hr
          | cons y ys =>
            rw [hx, hy] at hr
            simp only [eqL] at hr
            split at hr
            · rename_i a b ha hb
              simp only [Option.some.injEq] at hr; subst hr
              have hxi : cs[i]? = some x := by have := congrArg (·[0]?) hx; simpa using this
              have hyi : cs'[i]? = some y := by have := congrArg (·[0]?) hy; simpa using this
              have hxs : cs.drop (i + 1) = xs := by have := congrArg (List.drop 1) hx; simpa using this
              have hys : cs'.drop (i + 1) = ys := by have := congrArg (List.drop 1) hy; simpa using this
              obtain ⟨u, hu⟩ : ∃ u, c[i]? = some u := by
                have : i < c.toList.length := by rw [h1.len]; exact (List.getElem?_eq_some_iff.1 hxi).1
                exact ⟨_, Array.getElem?_eq_getElem (by simpa using this)⟩
              obtain ⟨v, hv⟩ : ∃ v, c'[i]? = some v := by
                have : i < c'.toList.length := by rw [h2.len]; exact (List.getElem?_eq_some_iff.1 hyi).1
                exact ⟨_, Array.getElem?_eq_getElem (by simpa using this)⟩
              obtain ⟨dd, hd1, hd2⟩ := fkT_plain hkf
              have e1 := run_part_at (P := P) (w := K.w) hd1 hd2 (off := f.offset) (c := c) (v := u) (by rw [ho]; exact hu)
              have e2 := run_part_at (P := P) (w := K.w) hd1 hd2 (off := f.offset) (c := c') (v := v) (by rw [ho]; exact hv)
              have e3 := eqC_sound (P := P) d hkf ha (h1.at_ i x u hxi (by simpa using hu)) (h2.at_ i y v hyi (by simpa using hv))
              have ih := eqFields_sound d h1 h2 fs (i + 1) rs b hkr (by rw [hxs, hys]; exact hb)
              simp only [Op.eqFields, if_pos hn, Sem.run_bind, e1, e2, e3, Result.andThen_ok]
              cases a <;> simp [ih]
            · cases hr
      · cases hk
    · cases hk
theorem eqS_sound {P : Program} {K : Wd} {nx : Nat} {cs cs' : List AV} {u v : Value} {t : TypeId} {ks : List FK} {r : Bool} (neg : Bool) {ox oy : Operand} (ht : flatT P t = some ks) (hr : eqL ks cs cs' = some r)
    (hu : VR K nx (.agg cs) u) (hv : VR K nx (.agg cs') v) : (do eqGuard (if neg then .neq else .eql) t ox oy u v; binOp (if neg then .neq else .eql) t u v : Sem Value).run P K.w = .ok (.bool (if neg then !r else r)) K.w := by
  cases hu with
  | agg _ c hs h1 h =>
  cases hv with
  | agg _ c' hs' h1' h' =>
  unfold flatT at ht
  split at ht
  · rename_i fs hq
    split at ht
    · rename_i hc
      have hcr1 : CR K nx cs c.toList := VR.ofAgg (.agg cs c hs h1 h)
      have hcr2 : CR K nx cs' c'.toList := VR.ofAgg (.agg cs' c' hs' h1' h')
      have hf : P.fieldsOf t = fs := by simp [Program.fieldsOf, hq]
      have e := eqFields_sound (P := P) 9998 hcr1 hcr2 fs.toList 0 ks r ht (by simpa using hr)
      rw [Sem.run_bind, run_eqGuard_agg K.w _ t ox oy c c' hc.2]
      simp only [Result.andThen_ok]
      have hse := run_equalIn_struct (P := P) K.w 9999 t c c' (by rw [hf]; exact hq) hc.1
      rw [hf, e] at hse
      cases neg
      · simp only [Bool.false_eq_true, if_false]
        rw [run_eql_struct, hse]; rfl
      · simp only [if_true]
        rw [run_neq_struct, hse]; rfl
    · cases ht
  · rename_i n e hq
    split at ht
    · rename_i hc
      obtain ⟨rfl, hc2⟩ := hc
      obtain ⟨k, hk, rfl⟩ := Option.map_eq_some_iff.1 ht
      have hcr1 : CR K nx cs c.toList := VR.ofAgg (.agg cs c hs h1 h)
      have hcr2 : CR K nx cs' c'.toList := VR.ofAgg (.agg cs' c' hs' h1' h')
      obtain ⟨dd, hd1, hd2⟩ := fkT_plain hk
      obtain ⟨ie, hie⟩ : ∃ ie, P.info? e = some ie := by
        cases hq2 : P.info? e with
        | some ie => exact ⟨ie, rfl⟩
        | none => simp [Program.underlying, hq2] at hd1
      have key : (Op.equalIn 10000 t (.agg c) (.agg c')).run P K.w = .ok r K.w := by
        rw [run_equalIn_array K.w 9999 c c' hq hie]
        cases cs with
        | nil => simp [eqL] at hr
        | cons x xs =>
        cases cs' with
        | nil => simp [eqL] at hr
        | cons y ys =>
        simp only [eqL] at hr
        split at hr
        · rename_i a b ha hb
          simp only [Option.some.injEq] at hr hb; subst hr; subst hb
          obtain ⟨u, hu⟩ : ∃ u, c[0]? = some u := by
            have : 0 < c.toList.length := by rw [hcr1.len]; simp
            exact ⟨_, Array.getElem?_eq_getElem (by simpa using this)⟩
          obtain ⟨v, hv⟩ : ∃ v, c'[0]? = some v := by
            have : 0 < c'.toList.length := by rw [hcr2.len]; simp
            exact ⟨_, Array.getElem?_eq_getElem (by simpa using this)⟩
          have e1 := run_part_at (P := P) (w := K.w) hd1 hd2 (off := 0 * P.cellsOf e) (c := c) (v := u) (by simpa using hu)
          have e2 := run_part_at (P := P) (w := K.w) hd1 hd2 (off := 0 * P.cellsOf e) (c := c') (v := v) (by simpa using hv)
          have e3 := eqC_sound (P := P) 9998 hk ha (hcr1.at_ 0 x u rfl (by simpa using hu)) (hcr2.at_ 0 y v rfl (by simpa using hv))
          simp only [List.range, List.range.loop, Op.eqItems, Sem.run_bind, e1, e2, e3, Result.andThen_ok]
          cases a <;> simp [Op.eqItems]
        · cases hr
      rw [Sem.run_bind, run_eqGuard_agg K.w _ t ox oy c c' hc2]
      simp only [Result.andThen_ok]
      cases neg
      · simp only [Bool.false_eq_true, if_false]
        rw [run_eql_struct, key]; rfl
      · simp only [if_true]
        rw [run_neq_struct, key]; rfl
    · cases ht
  · cases ht
end Go.Ab
namespace Go.Ab
open Go.RowKit
set_option linter.unusedVariables false
set_option linter.unusedSimpArgs false
theorem new_sound {w0 : World} {K : Wd} {h : Heap} {nx : Nat} (g : Good w0 K h nx) {cs : List AV} {c : Array Value} (hs : cs.length ≤ c.size) (hc : CR K nx cs (c.toList.take cs.length)) (e : TypeId) :
    Good w0 (K.alloc nx (.cells c e (0, 0))) ((nx, .cells cs) :: h) (nx + 1) := by
  refine g.alloc (.cells cs c e hs hc.one fun i x v hx hv => (hc.at_ i x v hx ?_).mono (Ext.alloc g _))
  have hi : i < cs.length := (List.getElem?_eq_some_iff.1 hx).1
  simpa [List.getElem?_take, hi] using hv
theorem zero_cells {P : Program} {t : TypeId} {z : List AV} (h : ((P.info? t).bind (·.zero)).bind (fun v => v.cells.toList.mapM ofC) = some z) :
    ∃ i v, P.info? t = some i ∧ i.zero = some v ∧ v.cells.toList.mapM ofC = some z := by
  simp only [Option.bind_eq_some_iff] at h
  obtain ⟨v, ⟨i, hi, hv⟩, hz⟩ := h
  exact ⟨i, v, hi, hv, hz⟩
def zeroT (P : Program) (t : TypeId) : Option (List AV) := ((P.info? t).bind (·.zero)).bind (fun v => v.cells.toList.mapM ofC)
theorem run_zeroT {P : Program} {t : TypeId} {z : List AV} (h : zeroT P t = some z) : ∃ i v, P.info? t = some i ∧ i.zero = some v ∧ v.cells.toList.mapM ofC = some z ∧ ∀ w, (zeroValue t).run P w = .ok v w := by
  obtain ⟨i, v, hi, hv, hz⟩ := zero_cells h
  exact ⟨i, v, hi, hv, hz, fun w => by simp [zeroValue, typeInfo, hi, hv]⟩
theorem alloc_sound {P : Program} {w0 : World} {K : Wd} {h : Heap} {nx : Nat} (g : Good w0 K h nx) {t : TypeId} {z : List AV} (ht : zeroT P t = some z) :
    ∃ K' v, (Instr.alloc t true (.tuple #[])).run P K.w = .ok v K'.w ∧ Ext K nx K' (nx + 1) ∧ Good w0 K' ((nx, .cells z) :: h) (nx + 1) ∧ VR K' (nx + 1) (.op nx 0) v := by
  obtain ⟨i, v, hi, hv, hz, hrun⟩ := run_zeroT ht
  have hcr : CR K nx z v.cells.toList := CR.ofC hz
  have hg := new_sound g (c := v.cells) (cs := z) (by have := hcr.len; simp at this; omega) (by rw [List.take_of_length_le (by rw [hcr.len]; omega)]; exact hcr) t
  refine ⟨K.alloc nx (.cells v.cells t (0, 0)), .pointer (some ⟨K.w.heap.size, 0, none⟩), ?_, Ext.alloc g _, hg, .op nx 0 (by omega) _ (by simp [Wd.alloc])⟩
  simp [Instr.alloc, hrun, newVar, newRow, newObj, Sem.run, Wd.alloc]
theorem box_sound {P : Program} {w0 : World} {K : Wd} {h : Heap} {nx : Nat} (g : Good w0 K h nx) (t : TypeId) {x : AV} (hx : x.plain = true) {u : Value} (hu : VR K nx x u) :
    ∃ K' v, (Instr.box t u).run P K.w = .ok v K'.w ∧ Ext K nx K' (nx + 1) ∧ Good w0 K' ((nx, .cells (cellsOf x)) :: h) (nx + 1) ∧ VR K' (nx + 1) (.op nx 0) v := by
  have hcr := hu.cells hx
  have hg := new_sound g (c := u.cells) (cs := cellsOf x) (by have := hcr.len; simp at this; omega) (by rw [List.take_of_length_le (by rw [hcr.len]; omega)]; exact hcr) t
  refine ⟨K.alloc nx (.cells u.cells t (0, 0)), .pointer (some ⟨K.w.heap.size, 0, none⟩), ?_, Ext.alloc g _, hg, .op nx 0 (by omega) _ (by simp [Wd.alloc])⟩
  simp [Instr.box, newVar, newRow, newObj, Sem.run, Wd.alloc]
def fillA : List AV → List (Nat × Nat × AV) → Option (List AV)
  | cs, [] => some cs
  | cs, (off, sz, x) :: r => if x.plain = true ∧ (cellsOf x).length = sz ∧ off + sz ≤ cs.length then fillA (splice cs off (cellsOf x)) r else none
theorem foldl_set (vs : List Value) (off : Nat) : ∀ (k : Nat) (cells : Array Value), ((vs.zipIdx k).foldl (fun (cs : Array Value) (p : Value × Nat) => cs.setIfInBounds (off + p.2) p.1) cells).size = cells.size ∧
    ∀ i, ((vs.zipIdx k).foldl (fun (cs : Array Value) (p : Value × Nat) => cs.setIfInBounds (off + p.2) p.1) cells)[i]? = if i < cells.size ∧ off + k ≤ i ∧ i < off + k + vs.length then vs[i - (off + k)]? else cells[i]? := by
  induction vs with
  | nil => intro k cells; refine ⟨rfl, fun i => ?_⟩; rw [if_neg (by simp only [List.length_nil]; omega)]; rfl
  | cons v vs ih =>
    intro k cells
    simp only [List.zipIdx_cons, List.foldl_cons]
    obtain ⟨h1, h2⟩ := ih (k + 1) (cells.setIfInBounds (off + k) v)
    refine ⟨by rw [h1]; simp, fun i => ?_⟩
    rw [h2 i]
    simp only [Array.size_setIfInBounds, List.length_cons, Array.getElem?_setIfInBounds]
    by_cases e : off + k = i
    · subst e
      rw [if_neg (by omega), if_pos rfl]
      by_cases hlt : off + k < cells.size
      · rw [if_pos hlt, if_pos ⟨hlt, by omega, by omega⟩]; simp
      · rw [if_neg hlt, if_neg (by omega)]; simp; omega
    · by_cases hin : i < cells.size ∧ off + (k + 1) ≤ i ∧ i < off + (k + 1) + vs.length
      · rw [if_pos hin, if_pos ⟨hin.1, by omega, by omega⟩]
        have : i - (off + k) = i - (off + (k + 1)) + 1 := by omega
        rw [this, List.getElem?_cons_succ]
      · rw [if_neg hin, if_neg e, if_neg (by omega)]
def Laid (K : Wd) (nx : Nat) (place : Nat → Option (Nat × Nat)) : List (Nat × Value) → List (Nat × Nat × AV) → Prop
  | [], [] => True
  | p :: ps, q :: qs => (place p.1 = some (q.1, q.2.1) ∧ VR K nx q.2.2 p.2) ∧ Laid K nx place ps qs
  | _, _ => False
theorem fill_sound {K : Wd} {nx : Nat} {place : Nat → Option (Nat × Nat)} : ∀ (ps : List (Nat × Value)) (qs : List (Nat × Nat × AV)) (cs r : List AV) (c : Array Value), CR K nx cs c.toList →
    Laid K nx place ps qs → fillA cs qs = some r → ∃ c', Instr.fill place c ps = some c' ∧ CR K nx r c'.toList
  | [], qs, cs, r, c, hc, hf, hr => by
    cases qs with
    | nil =>
      simp only [fillA, Option.some.injEq] at hr; subst hr
      exact ⟨c, rfl, hc⟩
    | cons q qs => exact hf.elim
  | (i, v) :: ps, qs, cs, r, c, hc, hf, hr => by
    cases qs with
    | nil => exact hf.elim
    | cons q qs' =>
      obtain ⟨off, sz, x⟩ := q
      obtain ⟨⟨hp, hv⟩, hf⟩ := hf
      dsimp only at hp hv
      simp only [fillA] at hr
      split at hr
      · rename_i hcond
        obtain ⟨hpl, hsz, hle⟩ := hcond
        have hcv := hv.cells hpl
        have hvl : v.cells.size = sz := by have := hcv.len; simpa [hsz] using this
        have hcl : c.size = cs.length := by have := hc.len; simpa using this
        obtain ⟨h1, h2⟩ := foldl_set v.cells.toList off 0 c
        have hfold : v.cells.zipIdx.foldl (fun cs (p : Value × Nat) => cs.setIfInBounds (off + p.2) p.1) c = (v.cells.toList.zipIdx 0).foldl (fun (cs : Array Value) (p : Value × Nat) => cs.setIfInBounds (off + p.2) p.1) c := by
          rw [← Array.foldl_toList]; congr 1; simp
        generalize (v.cells.toList.zipIdx 0).foldl (fun (cs : Array Value) (p : Value × Nat) => cs.setIfInBounds (off + p.2) p.1) c = F at h1 h2 hfold
        have hcr : CR K nx (splice cs off (cellsOf x)) F.toList := by
          have hA := ((hc.take off).append (hcv.append (hc.drop (off + sz))))
          have hl : (c.toList.take off ++ (v.cells.toList ++ c.toList.drop (off + sz))) = F.toList := by
            apply List.ext_getElem?
            intro j
            have e0 : F.toList[j]? = F[j]? := by simp
            rw [e0, h2 j]
            simp only [List.getElem?_append, List.length_take, Array.length_toList, List.getElem?_take, List.getElem?_drop, Nat.add_zero]
            by_cases j1 : j < off
            · rw [if_pos (by omega), if_pos j1, if_neg (by omega)]; simp
            · rw [if_neg (by omega)]
              by_cases j2 : j < off + sz
              · rw [if_pos (by omega), if_pos (by omega)]; congr 1; omega
              · rw [if_neg (by omega), if_neg (by omega)]
                have e1 : c[j]? = c.toList[j]? := by simp
                rw [e1]; congr 1; omega
          rw [← hl]
          have : splice cs off (cellsOf x) = cs.take off ++ (cellsOf x ++ cs.drop (off + sz)) := by simp [splice, hsz]
          rw [this]; exact hA
        obtain ⟨c', hf', hc'⟩ := fill_sound ps qs' _ r _ hcr hf hr
        refine ⟨c', ?_, hc'⟩
        simp only [Instr.fill, hp]
        rw [if_neg]
        · have := hfold
          rw [← hf']; congr 1
        · simp only [hvl, ne_eq, not_true_eq_false, decide_false, Bool.false_or, decide_eq_true_eq, Bool.or_eq_true, false_or]
          omega
      · cases hr
end Go.Ab
namespace Go.Ab
open Go.RowKit
set_option linter.unusedVariables false
set_option linter.unusedSimpArgs false
def structPl (P : Program) (fs : List Field) : Option (List (Nat × Nat)) := fs.mapM fun f => (P.info? f.type).map fun i => (f.offset, i.size)
theorem build_struct {P : Program} {K : Wd} {nx : Nat} {t : TypeId} {fs : Array Field} {z r : List AV} {pl : List (Nat × Nat)} (hu : P.underlying t = some (.struct fs)) (ht : zeroT P t = some z) (hpl : structPl P fs.toList = some pl)
    {parts : Array (Nat × Value)} {qs : List (Nat × Nat × AV)} (hl : Laid K nx (pl[·]?) parts.toList qs) (hr : fillA z qs = some r) : ∃ v, (Instr.build t parts).run P K.w = .ok v K.w ∧ VR K nx (.agg r) v := by
  obtain ⟨i, v, hi, hv, hz, _⟩ := run_zeroT ht
  have hcr : CR K nx z v.cells.toList := CR.ofC hz
  obtain ⟨c', hf, hc'⟩ := fill_sound parts.toList qs z r v.cells hcr hl hr
  refine ⟨.agg c', run_build K.w t parts c' ?_, hc'.toAgg'⟩
  unfold Program.built
  unfold structPl at hpl
  simp only [hi, hu, hv, hpl]
  rw [← hf]
  congr 1
  funext k
  simp
theorem build_array {P : Program} {K : Wd} {nx : Nat} {t e : TypeId} {n : Nat} {z r : List AV} {ie : TypeInfo} (hu : P.underlying t = some (.array n e)) (ht : zeroT P t = some z) (hie : P.info? e = some ie)
    {parts : Array (Nat × Value)} {qs : List (Nat × Nat × AV)} (hl : Laid K nx (fun i => some (i * ie.size, ie.size)) parts.toList qs) (hr : fillA z qs = some r) : ∃ v, (Instr.build t parts).run P K.w = .ok v K.w ∧ VR K nx (.agg r) v := by
  obtain ⟨i, v, hi, hv, hz, _⟩ := run_zeroT ht
  have hcr : CR K nx z v.cells.toList := CR.ofC hz
  obtain ⟨c', hf, hc'⟩ := fill_sound parts.toList qs z r v.cells hcr hl hr
  refine ⟨.agg c', run_build K.w t parts c' ?_, hc'.toAgg'⟩
  unfold Program.built
  simp only [hi, hu, hv, hie]
  exact hf
theorem CR.flat {K : Wd} {nx : Nat} {sz : Nat} {c : List Value} {es : List (List AV)} (hsz : ∀ e ∈ es, e.length = sz) (h : CR K nx es.flatten c) :
    (∀ (i : Nat) (e : List AV), es[i]? = some e → ∀ (j : Nat) (x : AV), e[j]? = some x → x.one = true ∧ ∃ v, c[i * sz + j]? = some v ∧ VR K nx x v) ∧ c.length = es.length * sz := by
  have hfl : ∀ (es : List (List AV)), (∀ e ∈ es, e.length = sz) → es.flatten.length = es.length * sz := by
    intro es
    induction es with
    | nil => simp
    | cons e es ih =>
      intro h
      rw [List.flatten_cons, List.length_append, ih (fun x hx => h x (by simp [hx])), h e (by simp), List.length_cons, Nat.add_mul]
      omega
  have hget : ∀ (es : List (List AV)), (∀ e ∈ es, e.length = sz) → ∀ (i : Nat) (e : List AV), es[i]? = some e → ∀ (j : Nat) (x : AV), e[j]? = some x → es.flatten[i * sz + j]? = some x := by
    intro es
    induction es with
    | nil => intro _ i e h; simp at h
    | cons e0 es ih =>
      intro h i e he j x hx
      have h0 := h e0 (by simp)
      rw [List.flatten_cons]
      cases i with
      | zero =>
        simp only [List.getElem?_cons_zero, Option.some.injEq] at he; subst he
        rw [List.getElem?_append_left (by have := (List.getElem?_eq_some_iff.1 hx).1; omega)]
        simpa using hx
      | succ i =>
        simp only [List.getElem?_cons_succ] at he
        have := ih (fun x hx => h x (by simp [hx])) i e he j x hx
        rw [List.getElem?_append_right (by rw [h0, Nat.add_mul]; omega), h0]
        rw [← this]; congr 1; rw [Nat.add_mul]; omega
  refine ⟨fun i e he j x hx => ?_, by rw [h.len, hfl es hsz]⟩
  have hf := hget es hsz i e he j x hx
  have hlt : i * sz + j < c.length := by rw [h.len]; exact (List.getElem?_eq_some_iff.1 hf).1
  exact ⟨h.one _ _ hf, c[i * sz + j], List.getElem?_eq_getElem hlt, h.at_ _ _ _ hf (List.getElem?_eq_getElem hlt)⟩
theorem newZ_sound {w0 : World} {K : Wd} {h : Heap} {nx : Nat} (g : Good w0 K h nx) {sz : Nat} {es : List (List AV)} (hsz : ∀ e ∈ es, e.length = sz) {c : List Value} (hc : CR K nx es.flatten c) (e : TypeId) (hmax : es.length ≤ maxLen) {n : Nat} (hn : n = es.length) (rest : List Value) :
    Good w0 (K.allocZ (.cells (c ++ rest).toArray e (0, 0))) h nx ∧ Ext K nx (K.allocZ (.cells (c ++ rest).toArray e (0, 0))) nx ∧
      ∀ cap, n ≤ cap → cap ≤ maxLen → VR (K.allocZ (.cells (c ++ rest).toArray e (0, 0))) nx (.lst sz es) (.slice (some ⟨K.w.heap.size, 0, none⟩) n cap) := by
  refine ⟨g.allocZ _, Ext.allocZ g _, fun cap hcap hcap2 => ?_⟩
  obtain ⟨hf, hl⟩ := hc.flat hsz
  refine .lst sz es _ n cap (fun k => (c.getD k undef)) hn hcap hcap2 (fun i e he => hsz e (List.mem_of_getElem? he)) (fun i e he j x hx => (hf i e he j x hx).1) (fun k hk => ?_) (fun i e he j x hx => ?_)
  · refine ⟨?_, .inr (add_block _ _)⟩
    rw [add_eq]
    have hk' : k < c.length := by rw [hl, ← hn]; exact hk
    have : (K.allocZ (.cells (c ++ rest).toArray e (0, 0))).w.heap[K.w.heap.size]? = some (.cells (c ++ rest).toArray e (0, 0)) := alloc_new _ _
    rw [cell_row this]
    simp [List.getElem?_append_left hk', List.getD_eq_getElem?_getD, hk']
  · obtain ⟨_, v, h1, h2⟩ := hf i e he j x hx
    have : c.getD (i * sz + j) undef = v := by simp [List.getD_eq_getElem?_getD, h1]
    rw [this]
    exact h2.mono (Ext.allocZ g _)
def fillE (sz : Nat) : List (List AV) → List (Nat × AV) → Option (List (List AV))
  | es, [] => some es
  | es, (i, x) :: r => if x.plain = true ∧ (cellsOf x).length = sz ∧ i < es.length then fillE sz (es.set i (cellsOf x)) r else none
theorem flatten_set {sz : Nat} : ∀ (es : List (List AV)) (i : Nat) (x : List AV), (∀ e ∈ es, e.length = sz) → x.length = sz → i < es.length → (es.set i x).flatten = splice es.flatten (i * sz) x
  | [], i, x, _, _, hi => by simp at hi
  | e :: es, 0, x, h, hx, _ => by
    have h0 := h e (by simp)
    simp only [List.set_cons_zero, List.flatten_cons, splice, Nat.zero_mul, List.take_zero, Nat.zero_add, List.nil_append]
    rw [List.drop_append, hx, ← h0]; simp
  | e :: es, i + 1, x, h, hx, hi => by
    have h0 := h e (by simp)
    have ih := flatten_set es i x (fun e he => h e (by simp [he])) hx (by simpa using hi)
    simp only [List.set_cons_succ, List.flatten_cons, ih, splice]
    have e1 : (i + 1) * sz = e.length + i * sz := by rw [Nat.add_mul, h0]; omega
    rw [e1, List.take_length_add_append, List.append_assoc]
    congr 1
    rw [Nat.add_assoc, List.drop_length_add_append]
theorem fillE_fillA {sz : Nat} : ∀ (ps : List (Nat × AV)) (es r : List (List AV)), (∀ e ∈ es, e.length = sz) → fillE sz es ps = some r →
    fillA es.flatten (ps.map fun p => (p.1 * sz, sz, p.2)) = some r.flatten ∧ (∀ e ∈ r, e.length = sz) ∧ r.length = es.length
  | [], es, r, h, hr => by
    simp only [fillE, Option.some.injEq] at hr; subst hr
    exact ⟨rfl, h, rfl⟩
  | (i, x) :: ps, es, r, h, hr => by
    simp only [fillE] at hr
    split at hr
    · rename_i hc
      obtain ⟨h1, h2, h3⟩ := hc
      have hset : ∀ e ∈ es.set i (cellsOf x), e.length = sz := by
        intro e he
        rcases List.mem_or_eq_of_mem_set he with he | he
        · exact h e he
        · rw [he]; exact h2
      obtain ⟨h4, h5, h6⟩ := fillE_fillA ps _ r hset hr
      refine ⟨?_, h5, by rw [h6]; simp⟩
      simp only [List.map_cons, fillA]
      have hfl : es.flatten.length = es.length * sz := by
        have : ∀ (es : List (List AV)), (∀ e ∈ es, e.length = sz) → es.flatten.length = es.length * sz := by
          intro es
          induction es with
          | nil => simp
          | cons e es ih =>
            intro h
            rw [List.flatten_cons, List.length_append, ih (fun x hx => h x (by simp [hx])), h e (by simp), List.length_cons, Nat.add_mul]
            omega
        exact this es h
      have hle : i * sz + sz ≤ es.flatten.length := by
        rw [hfl, ← Nat.succ_mul]; exact Nat.mul_le_mul_right _ h3
      rw [if_pos ⟨h1, h2, hle⟩, ← flatten_set es i _ h h2 h3]
      exact h4
    · cases hr
theorem run_buildSlice {P : Program} {K : Wd} {nx : Nat} {t e : TypeId} {len : Nat} {z : List AV} {es : List (List AV)} {parts : Array (Nat × Value)} {qs : List (Nat × AV)} (hu : P.underlying t = some (.slice e)) (ht : zeroT P e = some z)
    (hzl : z.length = P.cellsOf e) (hsmall : len * z.length ≤ 2 ^ 24) (hl : Laid K nx (fun i => some (i * z.length, z.length)) parts.toList (qs.map fun p => (p.1 * z.length, z.length, p.2))) (hr : fillE z.length (List.replicate len z) qs = some es) :
    ∃ c : List Value, CR K nx es.flatten c ∧ (∀ e ∈ es, e.length = z.length) ∧ es.length = len ∧ ∀ w, (Instr.buildSlice t len parts).run P w = .ok (.slice (some ⟨w.heap.size, 0, none⟩) len len) (w.alloc (.cells c.toArray e (0, 0))) := by
  obtain ⟨i, v, hi, hv, hz, hrun⟩ := run_zeroT ht
  have hcr : CR K nx z v.cells.toList := CR.ofC hz
  have hvl : v.cells.size = z.length := by have := hcr.len; simpa using this
  obtain ⟨h1, h2, h3⟩ := fillE_fillA qs _ es (by intro e he; rw [List.eq_of_mem_replicate he]) hr
  have hs : i.size = z.length := by rw [hzl]; simp [Program.cellsOf, hi]
  obtain ⟨z0, hz0⟩ : ∃ z0 : Array Value, z0 = (Array.range (len * z.length)).map ((if len * z.length = 0 then #[] else v.cells)[· % (if len * z.length = 0 then #[] else v.cells).size]!) := ⟨_, rfl⟩
  have hcz : CR K nx (List.replicate len z).flatten z0.toList := by
    have hrep : z0.toList = (List.replicate len v.cells.toList).flatten := by
      rw [hz0]
      by_cases h0 : len * z.length = 0
      · have : len = 0 ∨ z = [] := by
          rcases Nat.mul_eq_zero.1 h0 with h | h
          · exact .inl h
          · exact .inr (List.eq_nil_of_length_eq_zero h)
        rw [h0]
        rcases this with h | h
        · subst h; simp
        · have : v.cells.toList = [] := List.eq_nil_of_length_eq_zero (by rw [hcr.len, h]; rfl)
          rw [this]; simp
      · simp only [h0, if_false]
        have hpos : 0 < z.length := Nat.pos_of_ne_zero fun h => h0 (by rw [h]; simp)
        have hg : ∀ (n : Nat) (l : List Value), l.length = z.length → ∀ k, k < n * z.length → (List.replicate n l).flatten[k]? = l[k % z.length]? := by
          intro n l hl
          induction n with
          | zero => intro k hk; simp at hk
          | succ n ih =>
            intro k hk
            rw [List.replicate_succ, List.flatten_cons, List.getElem?_append]
            split
            · rename_i h; rw [hl] at h; rw [Nat.mod_eq_of_lt h]
            · rename_i h
              rw [hl] at h ⊢
              have e1 : k % z.length = (k - z.length) % z.length := Nat.mod_eq_sub_mod (by omega)
              rw [e1, ih _ (by rw [Nat.succ_mul] at hk; omega)]
        have hlen : ((List.replicate len v.cells.toList).flatten).length = len * z.length := by simp [hvl]
        apply List.ext_getElem?
        intro k
        by_cases hk : k < len * z.length
        · rw [hg len v.cells.toList (by simpa using hvl) k hk]
          have hm : k % z.length < v.cells.size := by rw [hvl]; exact Nat.mod_lt _ hpos
          have hm' : k % v.cells.size < v.cells.size := by rw [hvl]; rw [hvl] at hm; exact hm
          simp only [Array.getElem?_toList, Array.getElem?_map, Array.getElem?_range, if_pos hk, Option.map_some, hvl]
          simp [hm]
        · rw [List.getElem?_eq_none (by simp; omega), List.getElem?_eq_none (by omega)]
    rw [hrep]
    have : ∀ n, CR K nx (List.replicate n z).flatten (List.replicate n v.cells.toList).flatten := by
      intro n
      induction n with
      | zero => exact .nil _ _
      | succ n ih => rw [List.replicate_succ, List.replicate_succ, List.flatten_cons, List.flatten_cons]; exact hcr.append ih
    exact this len
  obtain ⟨c', hf, hc'⟩ := fill_sound parts.toList _ _ _ z0 hcz hl h1
  refine ⟨c'.toList, hc', h2, by rw [h3]; simp, fun w => ?_⟩
  have hle : ¬ (len * z.length > 2 ^ 24) := by omega
  have hso : (sizeOf e).run P w = .ok z.length w := by simp [sizeOf, typeInfo, hi, hs]
  simp only [Instr.buildSlice, Sem.run_bind, run_underlying hu, Result.andThen_ok, hso, hle, if_false]
  by_cases h0 : len * z.length = 0
  · rw [if_pos h0] at hz0
    rw [if_pos h0]
    simp only [Sem.run_bind, Sem.run_pure, Result.andThen_ok, ← hz0, hf]
    simp [newRow, newObj, Sem.run]
  · rw [if_neg h0] at hz0
    rw [if_neg h0]
    simp only [Sem.run_bind, hrun, Sem.run_pure, Result.andThen_ok, ← hz0, hf]
    simp [newRow, newObj, Sem.run]
end Go.Ab
namespace Go.Ab
open Go.RowKit
set_option linter.unusedVariables false
set_option linter.unusedSimpArgs false
theorem flatten_length {sz : Nat} : ∀ (es : List (List AV)), (∀ e ∈ es, e.length = sz) → es.flatten.length = es.length * sz
  | [], _ => by simp
  | e :: es, h => by
    rw [List.flatten_cons, List.length_append, flatten_length es (fun x hx => h x (by simp [hx])), h e (by simp), List.length_cons, Nat.add_mul]
    omega
theorem flatten_get {sz : Nat} (hsz : 0 < sz) : ∀ (es : List (List AV)) (k : Nat), (∀ e ∈ es, e.length = sz) → es.flatten[k]? = (es[k / sz]?).bind (·[k % sz]?)
  | [], k, _ => by simp
  | e :: es, k, h => by
    have h0 := h e (by simp)
    rw [List.flatten_cons, List.getElem?_append]
    split
    · rename_i hk
      rw [h0] at hk
      rw [Nat.div_eq_of_lt hk, Nat.mod_eq_of_lt hk]
      simp
    · rename_i hk
      rw [h0] at hk ⊢
      rw [flatten_get hsz es (k - sz) (fun x hx => h x (by simp [hx]))]
      have e1 : k / sz = (k - sz) / sz + 1 := by rw [Nat.div_eq_sub_div hsz (by omega)]
      have e2 : k % sz = (k - sz) % sz := Nat.mod_eq_sub_mod (by omega)
      rw [e1, e2, List.getElem?_cons_succ]
def sliceCells (h : Heap) : AV → Option (Nat × List AV)
  | .nilS => some (0, [])
  | .emp => some (0, [])
  | .ne0 => some (0, [])
  | .lst _ es => some (es.length, es.flatten)
  | .os b off _ sz len => match hget h b with
    | some (.cells cs) => if off + len * sz ≤ cs.length then some (len, (cs.drop off).take (len * sz)) else none
    | _ => none
  | .oc b off _ sz len _ => match hget h b with
    | some (.cells cs) => if off + len * sz ≤ cs.length then some (len, (cs.drop off).take (len * sz)) else none
    | _ => none
  | _ => none
def slSz : AV → Nat → Bool
  | .lst sz _, s => sz == s
  | .os _ _ _ sz _, s => sz == s
  | .oc _ _ _ sz _ _, s => sz == s
  | _, _ => true
theorem sliceCells_sound {w0 : World} {K : Wd} {h : Heap} {nx : Nat} (g : Good w0 K h nx) {x : AV} {m s : Nat} {cs : List AV} (hx : sliceCells h x = some (m, cs)) (hs : slSz x s = true) {v : Value} (hv : VR K nx x v) :
    ∃ A cap c, v = .slice A m cap ∧ m ≤ cap ∧ m ≤ maxLen ∧ CR K nx cs c ∧ cs.length = m * s ∧ (0 < m → ∃ a, A = some a ∧ ∀ (j : Nat) (u : Value), c[j]? = some u → K.w.cell? (a.add j) = some u) ∧ (A = none → cap = 0) := by
  unfold sliceCells at hx
  split at hx
  · simp only [Option.some.injEq, Prod.mk.injEq] at hx; obtain ⟨rfl, rfl⟩ := hx
    cases hv
    exact ⟨none, 0, [], rfl, by omega, by simp [maxLen], .nil _ _, by simp, fun h => by omega, fun _ => rfl⟩
  · simp only [Option.some.injEq, Prod.mk.injEq] at hx; obtain ⟨rfl, rfl⟩ := hx
    cases hv
    exact ⟨_, 0, [], rfl, by omega, by simp [maxLen], .nil _ _, by simp, fun h => by omega, fun _ => rfl⟩
  · simp only [Option.some.injEq, Prod.mk.injEq] at hx; obtain ⟨rfl, rfl⟩ := hx
    cases hv
    exact ⟨_, _, [], rfl, by omega, by simp [maxLen], .nil _ _, by simp, fun h => by omega, fun h => by cases h⟩
  · rename_i sz es
    simp only [Option.some.injEq, Prod.mk.injEq] at hx; obtain ⟨rfl, rfl⟩ := hx
    simp only [slSz, beq_iff_eq] at hs; subst hs
    cases hv with
    | lst0 _ _ A n cap h0 hn hA =>
      subst h0; subst hn
      exact ⟨A, cap, [], rfl, by simp, by simp [maxLen], .nil _ _, by simp, fun h => by simp at h, hA⟩
    | lst _ _ a n cap c hn hc hcap hsz h1 hr h =>
      have hall : ∀ e ∈ es, e.length = sz := fun e he => by obtain ⟨i, hi⟩ := List.getElem?_of_mem he; exact hsz i e hi
      have hfl := flatten_length es hall
      refine ⟨some a, cap, (List.range (es.length * sz)).map c, by rw [hn], by omega, by omega, ⟨by simp [hfl], fun k x hx => ?_, fun k x u hx hu => ?_⟩, hfl, fun _ => ⟨a, rfl, fun j u hu => ?_⟩, by simp⟩
      · rcases Nat.eq_zero_or_pos sz with h0 | h0
        · have := (List.getElem?_eq_some_iff.1 hx).1; rw [hfl, h0] at this; omega
        · rw [flatten_get h0 es k hall] at hx
          obtain ⟨e, he, hx⟩ := Option.bind_eq_some_iff.1 hx
          exact h1 _ e he _ x hx
      · have hk : k < es.length * sz := by rw [← hfl]; exact (List.getElem?_eq_some_iff.1 hx).1
        rcases Nat.eq_zero_or_pos sz with h0 | h0
        · rw [h0] at hk; omega
        · rw [flatten_get h0 es k hall] at hx
          obtain ⟨e, he, hx⟩ := Option.bind_eq_some_iff.1 hx
          have := h _ e he _ x hx
          have e1 : k / sz * sz + k % sz = k := by rw [Nat.mul_comm]; exact Nat.div_add_mod k sz
          rw [e1] at this
          have hu' : u = c k := by simpa [hk] using hu.symm
          rw [hu']; exact this
      · have hj : j < es.length * sz := by simpa using (List.getElem?_eq_some_iff.1 hu).1
        have hu' : u = c j := by simpa [hj] using hu.symm
        rw [hu']; exact (hr j (by rw [hn]; exact hj)).1
  · rename_i b off e sz len
    simp only [slSz, beq_iff_eq] at hs; subst hs
    split at hx
    · rename_i cs0 hb
      split at hx
      · rename_i hle
        simp only [Option.some.injEq, Prod.mk.injEq] at hx; obtain ⟨rfl, rfl⟩ := hx
        cases hv with
        | os _ _ _ _ _ a n cap hn hlt hc hcap hA hroom =>
          subst hn
          obtain ⟨_, _, _, ob, hob, hor⟩ := g.live b _ hb
          cases hor with
          | cells _ c e' hs h1 hcc =>
            have hcr0 : CR K nx cs0 (c.toList.take cs0.length) := ⟨by simp; omega, h1, fun i x v hx hv => by
              have hi : i < cs0.length := (List.getElem?_eq_some_iff.1 hx).1
              exact hcc i x v hx (by simpa [List.getElem?_take, hi] using hv)⟩
            refine ⟨some a, cap, _, rfl, hc, by omega, (hcr0.drop off).take (n * sz), by simp; omega, fun h0 => ⟨a, rfl, fun j u hu => ?_⟩, by simp⟩
            have ha := hA (by omega)
            subst ha
            rw [add_eq, cell_row hob]
            rw [List.getElem?_take] at hu
            split at hu
            · rw [List.getElem?_drop, List.getElem?_take] at hu
              split at hu
              · simpa using hu
              · cases hu
            · cases hu
      · cases hx
    · cases hx
  · rename_i b off e sz len cap
    simp only [slSz, beq_iff_eq] at hs; subst hs
    split at hx
    · rename_i cs0 hb
      split at hx
      · rename_i hle
        simp only [Option.some.injEq, Prod.mk.injEq] at hx; obtain ⟨rfl, rfl⟩ := hx
        cases hv with
        | oc _ _ _ _ _ cap a hlt hc hcap hA hroom =>
          obtain ⟨_, _, _, ob, hob, hor⟩ := g.live b _ hb
          cases hor with
          | cells _ c e' hs h1 hcc =>
            have hcr0 : CR K nx cs0 (c.toList.take cs0.length) := ⟨by simp; omega, h1, fun i x v hx hv => by
              have hi : i < cs0.length := (List.getElem?_eq_some_iff.1 hx).1
              exact hcc i x v hx (by simpa [List.getElem?_take, hi] using hv)⟩
            refine ⟨some a, cap, _, rfl, hc, by omega, (hcr0.drop off).take (len * sz), by simp; omega, fun h0 => ⟨a, rfl, fun j u hu => ?_⟩, by simp⟩
            have ha := hA (by omega)
            subst ha
            rw [add_eq, cell_row hob]
            rw [List.getElem?_take] at hu
            split at hu
            · rw [List.getElem?_drop, List.getElem?_take] at hu
              split at hu
              · simpa using hu
              · cases hu
            · cases hu
      · cases hx
    · cases hx
  · cases hx
def Wd.rename (K : Wd) (nx b : Nat) : Wd := { K with m := fun k => if k = nx then K.m b else K.m k }
theorem Ext.rename (K : Wd) (nx b : Nat) : Ext K nx (K.rename nx b) (nx + 1) := ⟨by omega, fun k hk => by simp only [Wd.rename]; rw [if_neg (by omega)], fun _ _ h => h, fun _ _ _ => rfl, fun _ c _ h => ⟨c, h, rfl⟩, rfl, fun _ _ h => .inl h, rfl⟩
theorem Good.rename {w0 : World} {K : Wd} {h : Heap} {nx b : Nat} (g : Good w0 K h nx) {o : AO} (hb : hget h b = some o) : Good w0 (K.rename nx b) ((nx, o) :: hdel h b) (nx + 1) := by
  have he := Ext.rename K nx b
  have hm : (K.rename nx b).m nx = K.m b := by simp [Wd.rename]
  have key : ∀ k o', hget ((nx, o) :: hdel h b) k = some o' → ∃ k0, hget h k0 = some o' ∧ (K.rename nx b).m k = K.m k0 ∧ k < nx + 1 ∧ (k = nx ∧ k0 = b ∨ k = k0 ∧ k ≠ b ∧ k < nx) := by
    intro k o' hk
    rw [hget_cons] at hk
    split at hk
    · rename_i e; subst e
      injection hk with hk; subst hk
      exact ⟨b, hb, hm, by omega, .inl ⟨rfl, rfl⟩⟩
    · rename_i e
      rw [hget_hdel] at hk
      split at hk
      · cases hk
      · rename_i e2
        have := (g.live k o' hk).1
        exact ⟨k, hk, he.m k this, by omega, .inr ⟨rfl, fun h => e2 h.symm, this⟩⟩
  refine ⟨fun k o' hk => ?_, fun k k' o1 o2 hk hk' e => ?_, g.below, g.zin, g.lo, g.gl.mono he⟩
  · obtain ⟨k0, h1, h2, h3, _⟩ := key k o' hk
    obtain ⟨l1, l2, l3, ob, l4, l5⟩ := g.live k0 o' h1
    exact ⟨h3, by rw [h2]; exact l2, by rw [h2]; exact l3, ob, by rw [h2]; exact l4, l5.mono he⟩
  · obtain ⟨k0, h1, h2, h3, h4⟩ := key k o1 hk
    obtain ⟨k1, j1, j2, j3, j4⟩ := key k' o2 hk'
    rw [h2, j2] at e
    have := g.inj k0 k1 o1 o2 h1 j1 e
    rcases h4 with ⟨rfl, rfl⟩ | ⟨rfl, h5, h6⟩ <;> rcases j4 with ⟨rfl, rfl⟩ | ⟨rfl, j5, j6⟩
    · rfl
    · exact absurd this.symm j5
    · exact absurd this h5
    · exact this
def appA (e sz bytes : Nat) (h : Heap) (nx : Nat) (s x : AV) : Option (AV × Heap × Nat) :=
  match sliceCells h x with
  | none => none
  | some (m, news) =>
    if slSz x sz = true then
      match s with
      | .nilS => if m = 0 then some (.nilS, h, nx) else if m * bytes ≤ 140737488355328 ∧ m ≤ maxLen then some (.os nx 0 e sz m, (nx, .cells news) :: h, nx + 1) else none
      | .emp => if m = 0 then some (.emp, h, nx) else if m * bytes ≤ 140737488355328 ∧ m ≤ maxLen then some (.os nx 0 e sz m, (nx, .cells news) :: h, nx + 1) else none
      | .os b off e' sz' len => match hget h b with
        | some (.cells cs) => if off = 0 ∧ e' = e ∧ sz' = sz ∧ cs.length = len * sz ∧ (len + m) * bytes ≤ 140737488355328 ∧ len + m ≤ maxLen then
            (if m = 0 then some (s, h, nx) else some (.os nx 0 e sz (len + m), (nx, .cells (cs ++ news)) :: hdel h b, nx + 1))
            else if off = 0 ∧ e' = e ∧ sz' = sz ∧ (len + m) * sz ≤ cs.length then (if m = 0 then some (s, h, nx) else some (.os b 0 e sz (len + m), hset h b (.cells (splice cs (len * sz) news)), nx)) else none
        | _ => none
      | .oc b off e' sz' len cap => match hget h b with
        | some (.cells cs) => if off = 0 ∧ e' = e ∧ sz' = sz ∧ len + m ≤ cap ∧ (len + m) * sz ≤ cs.length then (if m = 0 then some (s, h, nx) else some (.oc b 0 e sz (len + m) cap, hset h b (.cells (splice cs (len * sz) news)), nx)) else none
        | _ => none
      | _ => none
    else none
theorem run_append_zero {P : Program} {w : World} {t ty e : TypeId} {i : TypeInfo} (ht : P.underlying t = some (.slice e)) (hi : P.info? e = some i) (A : Option Addr) (n c : Nat) (hn : n ≤ c) (B : Option Addr) (c' : Nat) :
    (Builtin.append_ #[t, t] ty #[.slice A n c, .slice B 0 c']).run P w = .ok (.slice A n c) w := by
  have hf : (Builtin.firstCells i.size 0 (.slice B 0 c')).run P w = .ok #[] w := by
    cases B <;> simp [Builtin.firstCells, loadCells, loadCellsFrom]
  cases A <;> simp [Builtin.append_, run_underlying ht, sizeOf, typeInfo, hi, Builtin.lenOf, hn, hf, storeCells]
theorem append_sound {P : Program} {w0 : World} {K : Wd} {h h' : Heap} {nx nx' : Nat} (g : Good w0 K h nx) {t ty e : TypeId} {i : TypeInfo} {z : Value} (ht : P.underlying t = some (.slice e)) (hi : P.info? e = some i) (hz : i.zero = some z)
    (hzs : z.cells.size = i.size) (hpos : 0 < i.size) {s x r : AV} {u v : Value} (ha : appA e i.size i.bytes h nx s x = some (r, h', nx')) (hu : VR K nx s u) (hv : VR K nx x v) :
    ∃ K' y, (Builtin.append_ #[t, t] ty #[u, v]).run P K.w = .ok y K'.w ∧ Ext K nx K' nx' ∧ Good w0 K' h' nx' ∧ VR K' nx' r y := by
  unfold appA at ha
  split at ha
  · cases ha
  rename_i m news hsl
  split at ha
  case isFalse => cases ha
  rename_i hss
  obtain ⟨B, c', nv, rfl, hmc, hmm, hcr, hnl, hcell, _⟩ := sliceCells_sound g hsl hss hv
  have hnvl : nv.length = m * i.size := by rw [hcr.len, hnl]
  have fresh : ∀ (A : Option Addr), m ≠ 0 → m * i.bytes ≤ 140737488355328 → m ≤ maxLen → (A = none ∨ ∃ a, A = some a) → ∃ K' y, (Builtin.append_ #[t, t] ty #[.slice A 0 0, .slice B m c']).run P K.w = .ok y K'.w ∧ Ext K nx K' (nx + 1) ∧ Good w0 K' ((nx, .cells news) :: h) (nx + 1) ∧ VR K' (nx + 1) (.os nx 0 e i.size m) y := by
    intro A hm0 hb hmx hA
    obtain ⟨a, rfl, hc⟩ := hcell (by omega)
    have h63 : m ≤ 9223372036854775807 := by simp only [maxLen] at hmx; omega
    have hge := grownCap_ge K.w m 0 e
    have hcm := grownCap_le_maxLen K.w m 0 e hmx
    obtain ⟨cap, hcapd⟩ : ∃ cap, cap = grownCap K.w m 0 e := ⟨_, rfl⟩
    rw [← hcapd] at hge hcm
    have hrun : (Builtin.append_ #[t, t] ty #[.slice A 0 0, .slice (some a) m c']).run P K.w = .ok (.slice (some ⟨K.w.heap.size, 0, none⟩) m cap) (K.w.drew.alloc (.cells (nv.toArray ++ Builtin.zeroCells z.cells (cap - m)) e)) := by
      rcases hA with rfl | ⟨b, rfl⟩
      · rw [hcapd]; exact run_append_nil K.w t ty e i z ht hi hz a m c' nv hnvl hc (by omega) (by omega) (by omega)
      · have := run_append_grow K.w t ty e i z ht hi hz b 0 0 [] (by simp) (by simp) a m c' nv hnvl hc (by omega) (by omega) (growslice_fits (by omega) (by simpa using hb))
        simpa [hcapd] using this
    have gd : Good w0 { K with w := K.w.drew } h nx := g.drew (K.w.drawn + 1)
    have ed : Ext K nx { K with w := K.w.drew } nx := Ext.of_heap rfl
    obtain ⟨blk, hblk⟩ : ∃ blk, blk = nv.toArray ++ Builtin.zeroCells z.cells (cap - m) := ⟨_, rfl⟩
    have hbs : blk.size = cap * i.size := by
      rw [hblk]; simp only [Array.size_append, List.size_toArray, size_zeroCells, hzs, hnvl, ← Nat.add_mul]
      congr 1; omega
    have hlen : news.length ≤ blk.size := by rw [hbs, hnl]; exact Nat.mul_le_mul_right _ hge
    have htake : blk.toList.take news.length = nv := by
      rw [hblk, ← hcr.len]; simp
    have gn := new_sound (K := { K with w := K.w.drew }) gd (cs := news) (c := blk) hlen (by rw [htake]; exact hcr.mono ed) e
    refine ⟨Wd.alloc { K with w := K.w.drew } nx (.cells blk e (0, 0)), _, by rw [hrun, ← hblk]; rfl, ed.trans (Ext.alloc gd _), gn, ?_⟩
    refine .os nx 0 e i.size m _ m cap rfl (by omega) hge hcm (fun _ => by simp [Wd.alloc]) ⟨blk, ?_, by omega⟩
    have hmn : (Wd.alloc { K with w := K.w.drew } nx (.cells blk e (0, 0))).m nx = K.w.heap.size := by simp [Wd.alloc]
    rw [hmn]
    exact alloc_new K.w.drew _
  split at ha
  · cases hu
    split at ha
    · rename_i hm0; subst hm0
      simp only [Option.some.injEq, Prod.mk.injEq] at ha; obtain ⟨rfl, rfl, rfl⟩ := ha
      exact ⟨K, _, run_append_zero ht hi none 0 0 (by omega) B c', Ext.refl _ _, g, .nilS⟩
    · rename_i hm0
      split at ha
      · rename_i hb
        simp only [Option.some.injEq, Prod.mk.injEq] at ha; obtain ⟨rfl, rfl, rfl⟩ := ha
        exact fresh none hm0 hb.1 hb.2 (.inl rfl)
      · cases ha
  · cases hu with
    | emp A =>
    split at ha
    · rename_i hm0; subst hm0
      simp only [Option.some.injEq, Prod.mk.injEq] at ha; obtain ⟨rfl, rfl, rfl⟩ := ha
      exact ⟨K, _, run_append_zero ht hi A 0 0 (by omega) B c', Ext.refl _ _, g, .emp A⟩
    · rename_i hm0
      split at ha
      · rename_i hb
        simp only [Option.some.injEq, Prod.mk.injEq] at ha; obtain ⟨rfl, rfl, rfl⟩ := ha
        exact fresh A hm0 hb.1 hb.2 (by cases A; exact .inl rfl; exact .inr ⟨_, rfl⟩)
      · cases ha
  · rename_i b off e' sz' len
    split at ha
    · rename_i cs hb
      split at ha
      case isFalse =>
        split at ha
        case isFalse => cases ha
        rename_i hcond
        obtain ⟨rfl, rfl, rfl, hcl⟩ := hcond
        split at ha
        · rename_i hm0; subst hm0
          simp only [Option.some.injEq, Prod.mk.injEq] at ha; obtain ⟨rfl, rfl, rfl⟩ := ha
          have hu' := hu
          cases hu with
          | os _ _ _ _ _ a n cap hn hlt hc hcap hA hroom =>
            exact ⟨K, _, run_append_zero ht hi (some a) n cap (by omega) B c', Ext.refl _ _, g, hu'⟩
        · rename_i hm0
          simp only [Option.some.injEq, Prod.mk.injEq] at ha; obtain ⟨rfl, rfl, rfl⟩ := ha
          obtain ⟨ax, rfl, hc⟩ := hcell (by omega)
          cases hu with
          | os _ _ _ _ _ a n cap hn hlt hnc hcap hA hroom =>
            subst hn
            have hroom' := hroom
            obtain ⟨c, hrow, hsize⟩ := hroom
            simp only [Nat.zero_add] at hsize
            obtain ⟨l1, l2, l3, ob, l4, l5⟩ := g.live b _ hb
            rw [hrow] at l4; injection l4 with l4; subst l4
            cases l5 with
            | cells _ _ _ hs h1 hcc =>
              have hroom2 : n + m ≤ cap := by
                have : (n + m) * i.size ≤ cap * i.size := by omega
                exact Nat.le_of_mul_le_mul_right this hpos
              have ha := hA (by omega); subst ha
              obtain ⟨K', hst, hext, hg⟩ := write_sound (P := P) g hb (off := n * i.size) (xs := news) (by rw [hnl, ← Nat.add_mul]; exact hcl) hcr
              have hf := run_firstCells_some (P := P) K.w i.size m ax m c' nv hnvl hc
              refine ⟨K', .slice (some ⟨K.m b, 0, none⟩) (n + m) cap, ?_, hext, hg, ?_⟩
              · simp [Builtin.append_, run_underlying ht, sizeOf, typeInfo, hi, Builtin.lenOf, hroom2, hf, Addr.add_lit, hst]
              · exact VR.mono hext (.os b 0 e' i.size (n + m) _ (n + m) cap rfl hlt hroom2 hcap (fun _ => rfl) hroom')
      rename_i hcond
      obtain ⟨rfl, rfl, rfl, hcl, hby, hmx⟩ := hcond
      split at ha
      · rename_i hm0; subst hm0
        simp only [Option.some.injEq, Prod.mk.injEq] at ha; obtain ⟨rfl, rfl, rfl⟩ := ha
        have hu' := hu
        cases hu with
        | os _ _ _ _ _ a n cap hn hlt hc hcap hA hroom =>
          exact ⟨K, _, run_append_zero ht hi (some a) n cap (by omega) B c', Ext.refl _ _, g, hu'⟩
      · rename_i hm0
        simp only [Option.some.injEq, Prod.mk.injEq] at ha; obtain ⟨rfl, rfl, rfl⟩ := ha
        obtain ⟨ax, rfl, hc⟩ := hcell (by omega)
        cases hu with
        | os _ _ _ _ _ a n cap hn hlt hnc hcap hA hroom =>
          subst hn
          obtain ⟨c, hrow, hsize⟩ := hroom
          simp only [Nat.zero_add] at hsize
          obtain ⟨l1, l2, l3, ob, l4, l5⟩ := g.live b _ hb
          rw [hrow] at l4; injection l4 with l4; subst l4
          have hor := l5
          cases l5 with
          | cells _ _ _ hs h1 hcc =>
            have hcr0 : CR K nx cs (c.toList.take cs.length) := ⟨by simp; omega, h1, fun i x v hx hv => by
              have hi : i < cs.length := (List.getElem?_eq_some_iff.1 hx).1
              exact hcc i x v hx (by simpa [List.getElem?_take, hi] using hv)⟩
            by_cases hroom2 : n + m ≤ cap
            · -- in place
              have ha := hA (by omega); subst ha
              have hfit : n * i.size + nv.length ≤ c.size := by
                rw [hnvl, ← Nat.add_mul, ← hsize]; exact Nat.mul_le_mul_right _ hroom2
              have hrun := run_append_room K.w t ty e' i ht hi (K.m b) n cap c hrow ax m c' nv hnvl hc hcr.oneCell hroom2 hfit
              obtain ⟨blk, hblk⟩ : ∃ blk, blk = (c.toList.take (n * i.size) ++ nv ++ c.toList.drop (n * i.size + nv.length)).toArray := ⟨_, rfl⟩
              rw [← hblk, setRow_eq_putObj hrow] at hrun
              have hbsz : blk.size = c.size := by rw [hblk]; simp; omega
              have hs1 : ∀ c0 e0, K.w.heap[K.m b]? = some (.cells c0 e0 (0, 0)) → ∃ c2 : Array Value, (Obj.cells blk e' (0, 0)) = .cells c2 e0 (0, 0) ∧ c2.size = c0.size := by
                intro c0 e0 h0
                rw [hrow] at h0; injection h0 with h0; injection h0 with h0 h00; subst h0; subst h00
                exact ⟨blk, rfl, hbsz⟩
              have hext := Ext.putObj (ob := .cells blk e' (0, 0)) g hb hs1
              have hcr2 : CR K nx (cs ++ news) (blk.toList.take (cs ++ news).length) := by
                have : blk.toList.take (cs ++ news).length = c.toList.take cs.length ++ nv := by
                  rw [hblk, hcl]
                  simp only [List.length_append, hcl]
                  rw [← hcr.len]
                  rw [List.take_append_of_le_length (by simp; omega)]
                  rw [List.take_of_length_le (by simp; omega)]
                rw [this]
                exact hcr0.append hcr
              have hlen2 : (cs ++ news).length ≤ blk.size := by rw [hbsz, List.length_append, hcl, ← hcr.len]; exact hfit
              have gp := Good.putObj (o' := .cells (cs ++ news)) (ob := .cells blk e' (0, 0)) g hb hs1 (.cells _ _ _ hlen2 hcr2.one fun i x v hx hv => (hcr2.at_ i x v hx (by
                have hi : i < (cs ++ news).length := (List.getElem?_eq_some_iff.1 hx).1
                rw [List.getElem?_take, if_pos hi]; simpa using hv)).mono hext)
              have gr := gp.rename (b := b) (o := .cells (cs ++ news)) (by simp [hget_hset])
              have er := Ext.rename (K.putObj b (.cells blk e' (0, 0))) nx b
              refine ⟨_, _, hrun, hext.trans er, gr.weaken (Nat.le_refl _) fun k o hk => ?_, ?_⟩
              · rw [hget_cons] at hk ⊢
                split
                · rename_i hq; rw [if_pos hq] at hk; exact hk
                · rename_i hq; rw [if_neg hq] at hk
                  rw [hget_hdel] at hk ⊢
                  split
                  · rename_i hq2; rw [if_pos hq2] at hk; exact hk
                  · rename_i hq2; rw [if_neg hq2] at hk; rw [hget_hset, if_neg hq2]; exact hk
              · refine .os nx 0 e' i.size (n + m) _ (n + m) cap rfl (by omega) hroom2 hcap (fun _ => by simp [Wd.rename, Wd.putObj]) ⟨blk, ?_, by rw [hbsz]; omega⟩
                have : ((K.putObj b (.cells blk e' (0, 0))).rename nx b).m nx = K.m b := by simp [Wd.rename, Wd.putObj]
                rw [this]
                exact World.putObj_heap_same (lt_of_row hrow)
            · -- a new row
              have hlo : (c.toList.take cs.length).length = n * i.size := by simp; omega
              have hold : ∀ (j : Nat) (v : Value), (c.toList.take cs.length)[j]? = some v → K.w.cell? (a.add j) = some v := by
                intro j v hv
                rcases Nat.eq_zero_or_pos cap with h0 | h0
                · have : (c.toList.take cs.length)[j]? = none := by
                    apply List.getElem?_eq_none
                    rw [hlo]
                    have : n = 0 := by omega
                    rw [this]; omega
                  rw [this] at hv; cases hv
                · have ha := hA h0; subst ha
                  rw [add_eq, cell_row hrow]
                  rw [List.getElem?_take] at hv
                  split at hv
                  · simpa using hv
                  · cases hv
              have h63 : n + m ≤ 9223372036854775807 := by simp only [maxLen] at hmx; omega
              have hge := grownCap_ge K.w (n + m) cap e'
              have hcm := grownCap_le_maxLen K.w (n + m) cap e' hmx
              obtain ⟨cap2, hcapd⟩ : ∃ cap2, cap2 = grownCap K.w (n + m) cap e' := ⟨_, rfl⟩
              rw [← hcapd] at hge hcm
              have hrun := run_append_grow K.w t ty e' i z ht hi hz a n cap _ hlo hold ax m c' nv hnvl hc (by omega) (by omega) (growslice_fits (by omega) hby)
              rw [← hcapd] at hrun
              obtain ⟨blk, hblk⟩ : ∃ blk, blk = (c.toList.take cs.length).toArray ++ nv.toArray ++ Builtin.zeroCells z.cells (cap2 - (n + m)) := ⟨_, rfl⟩
              rw [← hblk] at hrun
              have gw := g.weaken (h' := hdel h b) (Nat.le_refl nx) (fun k o hk => by rw [hget_hdel] at hk; split at hk; cases hk; exact hk)
              have gd : Good w0 { K with w := K.w.drew } (hdel h b) nx := gw.drew (K.w.drawn + 1)
              have ed : Ext K nx { K with w := K.w.drew } nx := Ext.of_heap rfl
              have hbs : blk.size = cap2 * i.size := by
                rw [hblk]; simp only [Array.size_append, List.size_toArray, size_zeroCells, hzs, hnvl, hlo, ← Nat.add_mul]
                congr 1; omega
              have hlen : (cs ++ news).length ≤ blk.size := by
                rw [hbs, List.length_append, hcl, hnl, ← Nat.add_mul]; exact Nat.mul_le_mul_right _ hge
              have htake : blk.toList.take (cs ++ news).length = c.toList.take cs.length ++ nv := by
                rw [hblk]
                have hl0 : (cs ++ news).length = (c.toList.take cs.length ++ nv).length := by rw [List.length_append, List.length_append, hcr.len, hcr0.len]
                rw [hl0]
                have e0 : ∀ (l r : List Value), List.take l.length (l ++ r) = l := fun l r => List.take_left
                rw [Array.toList_append, Array.toList_append]
                exact e0 _ _
              have gn := new_sound (K := { K with w := K.w.drew }) gd (cs := cs ++ news) (c := blk) hlen (by rw [htake]; exact (hcr0.append hcr).mono ed) e'
              refine ⟨Wd.alloc { K with w := K.w.drew } nx (.cells blk e' (0, 0)), _, hrun, ed.trans (Ext.alloc gd _), gn, ?_⟩
              refine .os nx 0 e' i.size (n + m) _ (n + m) cap2 rfl (by omega) hge hcm (fun _ => by simp [Wd.alloc]) ⟨blk, ?_, by omega⟩
              have hmn : (Wd.alloc { K with w := K.w.drew } nx (.cells blk e' (0, 0))).m nx = K.w.heap.size := by simp [Wd.alloc]
              rw [hmn]
              exact alloc_new K.w.drew _
    · cases ha
  · rename_i b off e' sz' len cap
    split at ha
    · rename_i cs hb
      split at ha
      case isFalse => cases ha
      rename_i hcond
      obtain ⟨rfl, rfl, rfl, hroom2, hcl⟩ := hcond
      split at ha
      · rename_i hm0; subst hm0
        simp only [Option.some.injEq, Prod.mk.injEq] at ha; obtain ⟨rfl, rfl, rfl⟩ := ha
        have hu' := hu
        cases hu with
        | oc _ _ _ _ _ _ a hlt hc hcap hA hroom =>
          exact ⟨K, _, run_append_zero ht hi (some a) len cap (by omega) B c', Ext.refl _ _, g, hu'⟩
      · rename_i hm0
        simp only [Option.some.injEq, Prod.mk.injEq] at ha; obtain ⟨rfl, rfl, rfl⟩ := ha
        obtain ⟨ax, rfl, hc⟩ := hcell (by omega)
        cases hu with
        | oc _ _ _ _ _ _ a hlt hnc hcap hA hroom =>
          have ha := hA (by omega); subst ha
          obtain ⟨K', hst, hext, hg⟩ := write_sound (P := P) g hb (off := len * i.size) (xs := news) (by rw [hnl, ← Nat.add_mul]; exact hcl) hcr
          have hf := run_firstCells_some (P := P) K.w i.size m ax m c' nv hnvl hc
          refine ⟨K', .slice (some ⟨K.m b, 0, none⟩) (len + m) cap, ?_, hext, hg, ?_⟩
          · simp [Builtin.append_, run_underlying ht, sizeOf, typeInfo, hi, Builtin.lenOf, hroom2, hf, Addr.add_lit, hst]
          · exact VR.mono hext (.oc b 0 e' i.size (len + m) cap _ hlt hroom2 hcap (fun _ => rfl) hroom)
    · cases ha
  · cases ha
end Go.Ab
namespace Go.Ab
open Go.RowKit
set_option linter.unusedVariables false
set_option linter.unusedSimpArgs false
inductive Out where
  | val (x : AV)
  | skip
inductive MOp where
  | mk
  | look (k : FK) (z : AV) (ok : Bool) (m x : Operand)
  | set (k : FK) (m x v : Operand)
  | del (k : FK) (m x : Operand)
  | len (m : Operand)
  | tas (t : TypeId) (z : AV) (x : Operand)
  | glb (x : AV)
  | mx3 (x y z : Operand)
  | rng (m : Operand)
  | ent (it : Operand)
  | glx (g len sz : Nat) (i : Operand)
  deriving Inhabited
def MOp.opnds : MOp → List Operand
  | .mk => []
  | .look _ _ _ m x => [m, x]
  | .set _ m x v => [m, x, v]
  | .del _ m x => [m, x]
  | .len m => [m]
  | .tas _ _ x => [x]
  | .glb _ => []
  | .mx3 x y z => [x, y, z]
  | .rng m => [m]
  | .ent it => [it]
  | .glx _ _ _ i => [i]
def MOp.quiet : MOp → Bool
  | .tas .. => true
  | .glb _ => true
  | .mx3 .. => true
  | .glx .. => true
  | _ => false
def findA (k : FK) (x : AV) : List (AV × AV) → Nat → Option (Option (Nat × AV))
  | [], _ => some none
  | (y, v) :: r, i => match eqC k x y with
    | some true => some (some (i, v))
    | some false => findA k x r (i + 1)
    | none => none
def mapOf (h : Heap) : AV → Option (List (AV × AV))
  | .nilM => some []
  | .mp b => match hget h b with
    | some (.map es _ _) => some es
    | _ => none
  | _ => none
def isKey : FK → AV → Bool
  | .int, .int _ _ => true
  | .bool, .bool _ => true
  | .str, .str _ => true
  | _, _ => false
def lookA (h : Heap) (k : FK) (z : AV) (ok : Bool) (m x : AV) : Option AV :=
  match mapOf h m with
  | some es => if isKey k x = true then (match findA k x es 0 with
    | some (some (_, v)) => some (if ok then .tup [v, .bool true] else v)
    | some none => some (if ok then .tup [z, .bool false] else z)
    | none => none) else none
  | none => none
def setA (h : Heap) (k : FK) (m x v : AV) : Option Heap :=
  match m with
  | .mp b => (match hget h b with
    | some (.map es st ck) => if isKey k x = true then (match findA k x es 0 with
      | some (some (i, _)) => some (hset h b (.map (es.set i (x, v)) st ck))
      | some none => some (hset h b (.map (es ++ [(x, v)]) (st ++ [ck]) (ck + 1)))
      | none => none) else none
    | _ => none)
  | _ => none
def delA (h : Heap) (k : FK) (m x : AV) : Option Heap :=
  match m with
  | .mp b => (match hget h b with
    | some (.map es st ck) => if isKey k x = true then (match findA k x es 0 with
      | some (some (i, _)) => some (hset h b (.map (es.eraseIdx i) (st.eraseIdx i) ck))
      | some none => some h
      | none => none) else none
    | _ => none)
  | _ => none
def tasA (t : TypeId) (z : AV) : AV → Option AV
  | .nilI => some (.tup [z, .bool false])
  | .ifc t' x => some (if t' = t then .tup [x, .bool true] else .tup [z, .bool false])
  | _ => none
def rngA (h : Heap) (nx : Nat) : AV → Option Heap
  | .mp b => match hget h b with
    | some (.map _ _ ck) => some ((nx, .mit b ck [] ck) :: h)
    | _ => none
  | _ => none
def entA : List (AV × AV) → List Nat → Nat → Option (AV × AV)
  | x :: es, s :: st, t => if s = t then some x else entA es st t
  | _, _, _ => none
def entH (h : Heap) : AV → Option AV
  | .op b 0 => match hget h b with
    | some (.mit mb _ seen last) => (match seen.getLast?, hget h mb with
      | some t, some (.map es st ck) => if ck = last then (entA es st t).map fun e => .tup [e.1, e.2] else none
      | _, _ => none)
    | _ => none
  | _ => none
def mopEv (o : MOp) (env : Env) (h : Heap) (nx : Nat) : Option (Out × Heap × Nat) :=
  match o with
  | .mk => some (.val (.mp nx), (nx, .map [] [] 0) :: h, nx + 1)
  | .look k z ok m x => match oev env m, oev env x with
    | some m, some x => (match lookA h k z ok m x with
      | some r => some (.val r, h, nx)
      | none => none)
    | _, _ => none
  | .set k m x v => match oev env m, oev env x, oev env v with
    | some m, some x, some v => (match setA h k m x v with
      | some h' => some (.skip, h', nx)
      | none => none)
    | _, _, _ => none
  | .del k m x => match oev env m, oev env x with
    | some m, some x => (match delA h k m x with
      | some h' => some (.val (.tup []), h', nx)
      | none => none)
    | _, _ => none
  | .len m => match oev env m with
    | some m => (match mapOf h m with
      | some es => some (.val (.int .i64 es.length), h, nx)
      | none => none)
    | none => none
  | .tas t z x => match oev env x with
    | some x => (match tasA t z x with
      | some r => some (.val r, h, nx)
      | none => none)
    | none => none
  | .glb x => some (.val x, h, nx)
  | .mx3 x y z => match oev env x, oev env y, oev env z with
    | some (.int k a), some (.int k' b), some (.int k'' c) => if k = k' ∧ k = k'' then some (.val (.int k (if c > (if b > a then b else a) then c else (if b > a then b else a))), h, nx) else none
    | _, _, _ => none
  | .rng m => match oev env m with
    | some m => (match rngA h nx m with
      | some h' => some (.val (.op nx 0), h', nx + 1)
      | none => none)
    | none => none
  | .ent it => match oev env it with
    | some it => (match entH h it with
      | some r => some (.val r, h, nx)
      | none => none)
    | none => none
  | .glx gi len sz i => match GL gi, oev env i with
    | some cs, some (.int _ n) => if 0 ≤ n ∧ n < len then some (.val (.fp (cs.drop (n.toNat * sz))), h, nx) else none
    | _, _ => none
def zval (P : Program) (t : TypeId) : Option AV := ((P.info? t).bind (·.zero)).bind ofV
def compileM (P : Program) (o : Op) : Option MOp :=
  match o with
  | .makeMap _ none => some .mk
  | .lookup t m x ok => match P.underlying t with
    | some (.map k e) => (fkT P k).bind fun f => (zval P e).map fun z => .look f z ok m x
    | _ => none
  | .mapUpdate t m x v => match P.underlying t with
    | some (.map k _) => (fkT P k).map fun f => .set f m x v
    | _ => none
  | .insert t m x v => match P.underlying t with
    | some (.map k _) => (fkT P k).map fun f => .set f m x v
    | _ => none
  | .load t (.global g) => match P.underlying t with
    | some _ => ((GL g).bind fun cs => takeV (sizeT P t) (isAggT P t) cs).map .glb
    | none => none
  | .indexAddr t (.global g) i => match P.underlying t with
    | some (.array n e) => (P.underlying e).bind fun _ => (GL g).map fun _ => .glx g n (sizeT P e) i
    | _ => none
  | .range t m => match P.underlying t with
    | some (.map _ _) => some (.rng m)
    | _ => none
  | .entry it => some (.ent it)
  | .typeAssert x _ t true => match P.underlying t with
    | some (.interface _) => none
    | some _ => (zval P t).map fun z => .tas t z x
    | none => none
  | .call c => match c.callee, c.args.toList, c.argTypes.toList with
    | .builtin .delete, [m, x], t :: _ => (match P.underlying t with
      | some (.map k _) => (fkT P k).map fun f => .del f m x
      | _ => none)
    | .builtin .max, [x, y, z], _ => some (.mx3 x y z)
    | .builtin .len, [m], [t] => (match P.underlying t with
      | some (.map _ _) => some (.len m)
      | _ => none)
    | _, _, _ => none
  | _ => none
end Go.Ab
