/- What becomes of an abstract state when the world gets a block, a cell is written, an order is drawn, or a block is frozen. -/
import Derived.Test.YtdmjloieldhlnaaCore1
import Derived.RangeFuncMany
namespace Go.Ab
open Go.RowKit

theorem add_eq (g o j : Nat) : (⟨g, o, none⟩ : Addr).add j = ⟨g, o + j, none⟩ := by unfold Addr.add; split <;> simp_all
theorem add_block (a : Addr) (j : Nat) : (a.add j).block = a.block := by unfold Addr.add; split <;> rfl
theorem add_off (a : Addr) (j : Nat) : (a.add j).off = a.off + j := by unfold Addr.add; split <;> simp_all
theorem cell_row {w : World} {g : Nat} {c : Array Value} {e : TypeId} {fr : Nat × Nat} (h : w.heap[g]? = some (.cells c e fr)) (j : Nat) : w.cell? ⟨g, j, none⟩ = c[j]? := by simp [World.cell?, h]
theorem lt_of_row {w : World} {g : Nat} {ob : Obj} (h : w.heap[g]? = some ob) : g < w.heap.size := (Array.getElem?_eq_some_iff.1 h).1

/-- Only the count of draws (and nothing of the heap) has turned. -/
theorem Ext.of_heap {K : Wd} {nx : Nat} {w' : World} (h : w'.heap = K.w.heap) : Ext K nx { K with w := w' } nx :=
  ⟨Nat.le_refl _, fun _ _ => rfl, fun _ _ h => h, fun b o _ => by simp [World.cell?, h], fun b c e hb => ⟨c, by rw [← hb, h], rfl⟩, rfl, fun _ _ h => .inl h⟩

theorem Good.of_heap {w0 : World} {K : Wd} {h : Heap} {nx : Nat} (g : Good w0 K h nx) {w' : World} (hh : w'.heap = K.w.heap) (ho : w'.os = K.w.os) (ht : w'.tape = K.w.tape) (hu : w'.output = K.w.output) :
    Good w0 { K with w := w' } h nx :=
  ⟨fun b o hb => by
    obtain ⟨h1, h2, h3, ob, h4, h5⟩ := g.live b o hb
    exact ⟨h1, h2, h3, ob, by rw [← h4]; simp [hh], h5.mono (Ext.of_heap hh)⟩,
   g.inj, ⟨ho.trans g.below.os, ht.trans g.below.tape, hu.trans g.below.output, by simp only [hh]; exact g.below.size, fun k hk => by simp only [hh]; exact g.below.block k hk⟩,
   fun b off hz => by simp only [hh]; exact g.zin b off hz, g.lo⟩

theorem Good.drew {w0 : World} {K : Wd} {h : Heap} {nx : Nat} (g : Good w0 K h nx) (n : Nat) : Good w0 { K with w := { K.w with drawn := n } } h nx := g.of_heap rfl rfl rfl rfl

/-- More room for numbers, less that is known of the heap. -/
theorem Good.weaken {w0 : World} {K : Wd} {h h' : Heap} {nx nx' : Nat} (g : Good w0 K h nx) (hle : nx ≤ nx') (hh : ∀ b o, hget h' b = some o → hget h b = some o) : Good w0 K h' nx' :=
  ⟨fun b o hb => by
    obtain ⟨h1, h2, h3, ob, h4, h5⟩ := g.live b o (hh b o hb)
    exact ⟨Nat.lt_of_lt_of_le h1 hle, h2, h3, ob, h4, h5.mono ⟨hle, fun _ _ => rfl, fun _ _ h => h, fun _ _ _ => rfl, fun _ c _ h => ⟨c, h, rfl⟩, rfl, fun _ _ h => .inl h⟩⟩,
   fun b b' o o' h1 h2 => g.inj b b' o o' (hh _ _ h1) (hh _ _ h2), g.below, g.zin, g.lo⟩
theorem Ext.more (K : Wd) {nx nx' : Nat} (hle : nx ≤ nx') : Ext K nx K nx' := ⟨hle, fun _ _ => rfl, fun _ _ h => h, fun _ _ _ => rfl, fun _ c _ h => ⟨c, h, rfl⟩, rfl, fun _ _ h => .inl h⟩

/-! ### A new block -/
def Wd.alloc (K : Wd) (nx : Nat) (ob : Obj) : Wd := { w := K.w.alloc ob, m := fun b => if b = nx then K.w.heap.size else K.m b, Z := K.Z, lo := K.lo }
def Wd.allocZ (K : Wd) (ob : Obj) : Wd := { w := K.w.alloc ob, m := K.m, Z := fun b o => K.Z b o ∨ b = K.w.heap.size, lo := K.lo }

theorem alloc_old (w : World) (ob : Obj) {b : Nat} (h : b < w.heap.size) : (w.alloc ob).heap[b]? = w.heap[b]? := Below.heap_alloc w ob b h
theorem alloc_new (w : World) (ob : Obj) : (w.alloc ob).heap[w.heap.size]? = some ob := World.alloc_heap_new w ob

theorem Ext.alloc {w0 : World} {K : Wd} {h : Heap} {nx : Nat} (g : Good w0 K h nx) (ob : Obj) : Ext K nx (K.alloc nx ob) (nx + 1) :=
  ⟨by omega, fun b hb => by simp only [Wd.alloc]; rw [if_neg (by omega)], fun _ _ h => h, fun b o hz => by
    have hb := g.zin b o hz
    simp only [Wd.alloc, World.cell?, alloc_old _ _ hb], fun b c e hb => ⟨c, by simp only [Wd.alloc]; rw [alloc_old _ _ (lt_of_row hb)]; exact hb, rfl⟩, rfl, fun _ _ h => .inl h⟩

theorem Ext.allocZ {w0 : World} {K : Wd} {h : Heap} {nx : Nat} (g : Good w0 K h nx) (ob : Obj) : Ext K nx (K.allocZ ob) nx :=
  ⟨by omega, fun b hb => rfl, fun _ _ h => .inl h, fun b o hz => by
    have hb := g.zin b o hz
    simp only [Wd.allocZ, World.cell?, alloc_old _ _ hb], fun b c e hb => ⟨c, by simp only [Wd.allocZ]; rw [alloc_old _ _ (lt_of_row hb)]; exact hb, rfl⟩, rfl, fun b o hz => hz.imp id fun e => by rw [e, g.lo]; exact g.below.size⟩

theorem Good.alloc {w0 : World} {K : Wd} {h : Heap} {nx : Nat} (g : Good w0 K h nx) {o : AO} {ob : Obj} (ho : OR (K.alloc nx ob) (nx + 1) o ob) : Good w0 (K.alloc nx ob) ((nx, o) :: h) (nx + 1) := by
  have he := Ext.alloc g ob
  have hm : (K.alloc nx ob).m nx = K.w.heap.size := by simp [Wd.alloc]
  have hnz : ∀ off, ¬ (K.alloc nx ob).Z K.w.heap.size off := fun off hz => absurd (g.zin _ _ hz) (by omega)
  refine ⟨fun b o' hb => ?_, fun b b' o1 o2 hb hb' e => ?_, g.below.alloc g.below.size ob, fun b off hz => ?_, g.lo⟩
  · rw [hget_cons] at hb
    split at hb
    · rename_i e; subst e
      injection hb with hb; subst hb
      exact ⟨by omega, by rw [hm]; exact g.below.size, by rw [hm]; exact hnz, ob, by rw [hm]; exact alloc_new _ _, ho⟩
    · rename_i e
      obtain ⟨h1, h2, h3, ob', h4, h5⟩ := g.live b o' hb
      have hmb : (K.alloc nx ob).m b = K.m b := he.m b h1
      exact ⟨by omega, by rw [hmb]; exact h2, by rw [hmb]; exact h3, ob', by rw [hmb]; simp only [Wd.alloc]; rw [alloc_old _ _ (lt_of_row h4)]; exact h4, h5.mono he⟩
  · rw [hget_cons] at hb hb'
    have key : ∀ b o', (if nx = b then some o else hget h b) = some o' → (b = nx ∧ (K.alloc nx ob).m b = K.w.heap.size) ∨ (b < nx ∧ hget h b = some o' ∧ (K.alloc nx ob).m b = K.m b ∧ K.m b < K.w.heap.size) := by
      intro b o' hb
      split at hb
      · rename_i e; subst e; exact .inl ⟨rfl, hm⟩
      · obtain ⟨h1, h2, h3, ob', h4, h5⟩ := g.live b o' hb
        exact .inr ⟨h1, hb, he.m b h1, lt_of_row h4⟩
    rcases key b o1 hb with ⟨h1, h2⟩ | ⟨h1, h2, h3, h4⟩ <;> rcases key b' o2 hb' with ⟨k1, k2⟩ | ⟨k1, k2, k3, k4⟩
    · omega
    · rw [h2, k3] at e; omega
    · rw [h3, k2] at e; omega
    · rw [h3, k3] at e; exact g.inj b b' o1 o2 h2 k2 e
  · have := g.zin b off hz
    simp only [Wd.alloc, World.size_alloc]; omega

theorem Good.allocZ {w0 : World} {K : Wd} {h : Heap} {nx : Nat} (g : Good w0 K h nx) (ob : Obj) : Good w0 (K.allocZ ob) h nx := by
  have he := Ext.allocZ g ob
  refine ⟨fun b o' hb => ?_, g.inj, g.below.alloc g.below.size ob, fun b off hz => ?_, g.lo⟩
  · obtain ⟨h1, h2, h3, ob', h4, h5⟩ := g.live b o' hb
    refine ⟨h1, h2, fun off hz => ?_, ob', by simp only [Wd.allocZ]; rw [alloc_old _ _ (lt_of_row h4)]; exact h4, h5.mono he⟩
    rcases hz with hz | hz
    · exact h3 off hz
    · have := lt_of_row h4
      have hz' : K.m b = K.w.heap.size := hz
      omega
  · rcases hz with hz | hz
    · have := g.zin b off hz
      simp only [Wd.allocZ, World.size_alloc]; omega
    · simp only [Wd.allocZ, World.size_alloc]; omega

/-! ### An object of the call's own is set anew -/
def Wd.putObj (K : Wd) (b : Nat) (ob : Obj) : Wd := { K with w := K.w.putObj (K.m b) ob }

theorem putObj_other (w : World) (r k : Nat) (o : Obj) (h : k ≠ r) : (w.putObj r o).heap[k]? = w.heap[k]? := World.putObj_heap_other h

theorem Ext.putObj {w0 : World} {K : Wd} {h : Heap} {nx b : Nat} (g : Good w0 K h nx) {o : AO} (hb : hget h b = some o) {ob : Obj}
    (hs : ∀ c e, K.w.heap[K.m b]? = some (.cells c e (0, 0)) → ∃ c' : Array Value, ob = .cells c' e (0, 0) ∧ c'.size = c.size) : Ext K nx (K.putObj b ob) nx := by
  obtain ⟨h1, h2, h3, ob', h4, h5⟩ := g.live b o hb
  refine ⟨by omega, fun _ _ => rfl, fun _ _ h => h, fun k off hz => ?_, fun k c e hk => ?_, rfl, fun _ _ h => .inl h⟩
  · have hne : k ≠ K.m b := fun e => h3 off (e ▸ hz)
    simp only [Wd.putObj, World.cell?, putObj_other _ _ _ _ hne]
  · by_cases e1 : k = K.m b
    · subst e1
      obtain ⟨c', rfl, h7⟩ := hs c e hk
      exact ⟨c', by simp only [Wd.putObj]; exact World.putObj_heap_same (lt_of_row h4), h7⟩
    · exact ⟨c, by simp only [Wd.putObj]; rw [putObj_other _ _ _ _ e1]; exact hk, rfl⟩

theorem Good.putObj {w0 : World} {K : Wd} {h : Heap} {nx b : Nat} (g : Good w0 K h nx) {o o' : AO} (hb : hget h b = some o) {ob : Obj}
    (hs : ∀ c e, K.w.heap[K.m b]? = some (.cells c e (0, 0)) → ∃ c' : Array Value, ob = .cells c' e (0, 0) ∧ c'.size = c.size) (ho : OR (K.putObj b ob) nx o' ob) :
    Good w0 (K.putObj b ob) (hset h b o') nx := by
  have he := Ext.putObj g hb hs
  obtain ⟨h1, h2, h3, ob', h4, h5⟩ := g.live b o hb
  refine ⟨fun k o1 hk => ?_, fun k k' o1 o2 hk hk' e => ?_, ?_, fun k off hz => by simp only [Wd.putObj, World.putObj_size]; exact g.zin k off hz, g.lo⟩
  · rw [hget_hset] at hk
    split at hk
    · rename_i e; subst e
      injection hk with hk; subst hk
      exact ⟨h1, h2, h3, ob, by simp only [Wd.putObj]; exact World.putObj_heap_same (lt_of_row h4), ho⟩
    · rename_i e
      obtain ⟨k1, k2, k3, ob2, k4, k5⟩ := g.live k o1 hk
      have hne : K.m k ≠ K.m b := fun e' => e (g.inj k b o1 o hk hb e').symm
      exact ⟨k1, k2, k3, ob2, by simp only [Wd.putObj]; rw [putObj_other _ _ _ _ hne]; exact k4, k5.mono he⟩
  · rw [hget_hset] at hk hk'
    have key : ∀ k o1, (if b = k then some o' else hget h k) = some o1 → ∃ o2, hget h k = some o2 := by
      intro k o1 hk
      split at hk
      · rename_i e; subst e; exact ⟨o, hb⟩
      · exact ⟨o1, hk⟩
    obtain ⟨p, hp⟩ := key k o1 hk
    obtain ⟨q, hq⟩ := key k' o2 hk'
    exact g.inj k k' p q hp hq e
  · refine g.below.trans ⟨rfl, rfl, rfl, by simp [Wd.putObj], fun k hk => ?_⟩
    simp only [Wd.putObj]
    rw [putObj_other _ _ _ _ (by omega)]

theorem setCell_eq_putObj {w : World} {g o : Nat} {c : Array Value} {e : TypeId} {fr : Nat × Nat} (h : w.heap[g]? = some (.cells c e fr)) (v : Value) : w.setCell ⟨g, o, none⟩ v = w.putObj g (.cells (c.setIfInBounds o v) e fr) := by
  simp only [World.setCell, World.putObj]
  congr 1
  apply Array.ext_getElem?
  intro k
  rw [Array.getElem?_modify, Array.getElem?_setIfInBounds]
  by_cases e1 : g = k
  · subst e1
    obtain ⟨hl, he⟩ := Array.getElem?_eq_some_iff.1 h
    simp [hl, he]
  · simp [e1]

/-! ### A block of cells is frozen -/
def Wd.ice1 (K : Wd) (b : Nat) : Wd := { K with Z := fun k o => K.Z k o ∨ k = K.m b }
theorem Ext.ice1 {w0 : World} {K : Wd} {h : Heap} {nx b : Nat} (g : Good w0 K h nx) {o : AO} (hb : hget h b = some o) : Ext K nx (K.ice1 b) nx :=
  ⟨Nat.le_refl _, fun _ _ => rfl, fun _ _ h => .inl h, fun _ _ _ => rfl, fun _ c _ h => ⟨c, h, rfl⟩, rfl, fun k o hz => hz.imp id fun e => by rw [e, g.lo]; exact (g.live b _ hb).2.1⟩
theorem Good.ice1 {w0 : World} {K : Wd} {h : Heap} {nx b : Nat} (g : Good w0 K h nx) {o : AO} (hb : hget h b = some o) : Good w0 (K.ice1 b) (hdel h b) nx := by
  have he := Ext.ice1 g hb
  obtain ⟨h1, h2, h3, ob', h4, h5⟩ := g.live b o hb
  refine ⟨fun k o1 hk => ?_, fun k k' o1 o2 hk hk' e => ?_, g.below, fun k off hz => ?_, g.lo⟩
  · rw [hget_hdel] at hk
    split at hk
    · cases hk
    · rename_i e
      obtain ⟨k1, k2, k3, ob2, k4, k5⟩ := g.live k o1 hk
      refine ⟨k1, k2, fun off hz => ?_, ob2, k4, k5.mono he⟩
      rcases hz with hz | hz
      · exact k3 off hz
      · exact e (g.inj k b o1 o hk hb hz).symm
  · rw [hget_hdel] at hk hk'
    split at hk
    · cases hk
    · split at hk'
      · cases hk'
      · exact g.inj k k' o1 o2 hk hk' e
  · rcases hz with hz | hz
    · exact g.zin k off hz
    · have := lt_of_row h4
      have hz' : k = K.m b := hz
      show k < K.w.heap.size
      omega

end Go.Ab
