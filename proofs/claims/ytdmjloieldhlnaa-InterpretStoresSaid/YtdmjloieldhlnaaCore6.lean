/- The operations on abstract values, fourth part: literals, slices, append, make. -/
import Derived.Test.YtdmjloieldhlnaaCore5
namespace Go.Ab
open Go.RowKit
set_option linter.unusedVariables false
set_option linter.unusedSimpArgs false

/-- Where the parts of a struct or an array lie. -/
def structPl (P : Program) (fs : List Field) : Option (List (Nat × Nat)) := fs.mapM fun f => (P.info? f.type).map fun i => (f.offset, i.size)

theorem build_struct {P : Program} {K : Wd} {nx : Nat} {t : TypeId} {fs : Array Field} {z r : List AV} {pl : List (Nat × Nat)} (hu : P.underlying t = some (.struct fs)) (ht : zeroT P t = some z) (hpl : structPl P fs.toList = some pl)
    {parts : Array (Nat × Value)} {qs : List (Nat × Nat × AV)} (hl : Laid K nx (pl[·]?) parts.toList qs) (hr : fillA z qs = some r) : ∃ v, (Instr.build t parts).run P K.w = .ok v K.w ∧ VR K nx (.agg r) v := by
  obtain ⟨i, v, hi, hv, hz, _⟩ := run_zeroT ht
  have hcr : CR K nx z v.cells.toList := CR.ofC hz
  obtain ⟨c', hf, hc'⟩ := fill_sound parts.toList qs z r v.cells hcr hl hr
  refine ⟨.agg c', run_build K.w t parts c' ?_, hc'.toAgg'⟩
  unfold Program.built
  unfold structPl at hpl
  simp only [hi, hu, hv, hpl]
  rw [← hf]
  congr 1
  funext k
  simp

theorem build_array {P : Program} {K : Wd} {nx : Nat} {t e : TypeId} {n : Nat} {z r : List AV} {ie : TypeInfo} (hu : P.underlying t = some (.array n e)) (ht : zeroT P t = some z) (hie : P.info? e = some ie)
    {parts : Array (Nat × Value)} {qs : List (Nat × Nat × AV)} (hl : Laid K nx (fun i => some (i * ie.size, ie.size)) parts.toList qs) (hr : fillA z qs = some r) : ∃ v, (Instr.build t parts).run P K.w = .ok v K.w ∧ VR K nx (.agg r) v := by
  obtain ⟨i, v, hi, hv, hz, _⟩ := run_zeroT ht
  have hcr : CR K nx z v.cells.toList := CR.ofC hz
  obtain ⟨c', hf, hc'⟩ := fill_sound parts.toList qs z r v.cells hcr hl hr
  refine ⟨.agg c', run_build K.w t parts c' ?_, hc'.toAgg'⟩
  unfold Program.built
  simp only [hi, hu, hv, hie]
  exact hf

/-! ### Rows of elements -/
theorem CR.flat {K : Wd} {nx : Nat} {sz : Nat} {c : List Value} {es : List (List AV)} (hsz : ∀ e ∈ es, e.length = sz) (h : CR K nx es.flatten c) :
    (∀ (i : Nat) (e : List AV), es[i]? = some e → ∀ (j : Nat) (x : AV), e[j]? = some x → x.one = true ∧ ∃ v, c[i * sz + j]? = some v ∧ VR K nx x v) ∧ c.length = es.length * sz := by
  have hfl : ∀ (es : List (List AV)), (∀ e ∈ es, e.length = sz) → es.flatten.length = es.length * sz := by
    intro es
    induction es with
    | nil => simp
    | cons e es ih =>
      intro h
      rw [List.flatten_cons, List.length_append, ih (fun x hx => h x (by simp [hx])), h e (by simp), List.length_cons, Nat.add_mul]
      omega
  have hget : ∀ (es : List (List AV)), (∀ e ∈ es, e.length = sz) → ∀ (i : Nat) (e : List AV), es[i]? = some e → ∀ (j : Nat) (x : AV), e[j]? = some x → es.flatten[i * sz + j]? = some x := by
    intro es
    induction es with
    | nil => intro _ i e h; simp at h
    | cons e0 es ih =>
      intro h i e he j x hx
      have h0 := h e0 (by simp)
      rw [List.flatten_cons]
      cases i with
      | zero =>
        simp only [List.getElem?_cons_zero, Option.some.injEq] at he; subst he
        rw [List.getElem?_append_left (by have := (List.getElem?_eq_some_iff.1 hx).1; omega)]
        simpa using hx
      | succ i =>
        simp only [List.getElem?_cons_succ] at he
        have := ih (fun x hx => h x (by simp [hx])) i e he j x hx
        rw [List.getElem?_append_right (by rw [h0, Nat.add_mul]; omega), h0]
        rw [← this]; congr 1; rw [Nat.add_mul]; omega
  refine ⟨fun i e he j x hx => ?_, by rw [h.len, hfl es hsz]⟩
  have hf := hget es hsz i e he j x hx
  have hlt : i * sz + j < c.length := by rw [h.len]; exact (List.getElem?_eq_some_iff.1 hf).1
  exact ⟨h.one _ _ hf, c[i * sz + j], List.getElem?_eq_getElem hlt, h.at_ _ _ _ hf (List.getElem?_eq_getElem hlt)⟩

/-- A new block, frozen at once: a slice of what it holds. -/
theorem newZ_sound {w0 : World} {K : Wd} {h : Heap} {nx : Nat} (g : Good w0 K h nx) {sz : Nat} {es : List (List AV)} (hsz : ∀ e ∈ es, e.length = sz) {c : List Value} (hc : CR K nx es.flatten c) (e : TypeId) (hmax : es.length ≤ maxLen) {n : Nat} (hn : n = es.length) (rest : List Value) :
    Good w0 (K.allocZ (.cells (c ++ rest).toArray e (0, 0))) h nx ∧ Ext K nx (K.allocZ (.cells (c ++ rest).toArray e (0, 0))) nx ∧
      ∀ cap, n ≤ cap → cap ≤ maxLen → VR (K.allocZ (.cells (c ++ rest).toArray e (0, 0))) nx (.lst sz es) (.slice (some ⟨K.w.heap.size, 0, none⟩) n cap) := by
  refine ⟨g.allocZ _, Ext.allocZ g _, fun cap hcap hcap2 => ?_⟩
  obtain ⟨hf, hl⟩ := hc.flat hsz
  refine .lst sz es _ n cap (fun k => (c.getD k undef)) hn hcap hcap2 (fun i e he => hsz e (List.mem_of_getElem? he)) (fun i e he j x hx => (hf i e he j x hx).1) (fun k hk => ?_) (fun i e he j x hx => ?_)
  · refine ⟨?_, .inr (add_block _ _)⟩
    rw [add_eq]
    have hk' : k < c.length := by rw [hl, ← hn]; exact hk
    have : (K.allocZ (.cells (c ++ rest).toArray e (0, 0))).w.heap[K.w.heap.size]? = some (.cells (c ++ rest).toArray e (0, 0)) := alloc_new _ _
    rw [cell_row this]
    simp [List.getElem?_append_left hk', List.getD_eq_getElem?_getD, hk']
  · obtain ⟨_, v, h1, h2⟩ := hf i e he j x hx
    have : c.getD (i * sz + j) undef = v := by simp [List.getD_eq_getElem?_getD, h1]
    rw [this]
    exact h2.mono (Ext.allocZ g _)

def fillE (sz : Nat) : List (List AV) → List (Nat × AV) → Option (List (List AV))
  | es, [] => some es
  | es, (i, x) :: r => if x.plain = true ∧ (cellsOf x).length = sz ∧ i < es.length then fillE sz (es.set i (cellsOf x)) r else none

theorem flatten_set {sz : Nat} : ∀ (es : List (List AV)) (i : Nat) (x : List AV), (∀ e ∈ es, e.length = sz) → x.length = sz → i < es.length → (es.set i x).flatten = splice es.flatten (i * sz) x
  | [], i, x, _, _, hi => by simp at hi
  | e :: es, 0, x, h, hx, _ => by
    have h0 := h e (by simp)
    simp only [List.set_cons_zero, List.flatten_cons, splice, Nat.zero_mul, List.take_zero, Nat.zero_add, List.nil_append]
    rw [List.drop_append, hx, ← h0]; simp
  | e :: es, i + 1, x, h, hx, hi => by
    have h0 := h e (by simp)
    have ih := flatten_set es i x (fun e he => h e (by simp [he])) hx (by simpa using hi)
    simp only [List.set_cons_succ, List.flatten_cons, ih, splice]
    have e1 : (i + 1) * sz = e.length + i * sz := by rw [Nat.add_mul, h0]; omega
    rw [e1, List.take_length_add_append, List.append_assoc]
    congr 1
    rw [Nat.add_assoc, List.drop_length_add_append]

theorem fillE_fillA {sz : Nat} : ∀ (ps : List (Nat × AV)) (es r : List (List AV)), (∀ e ∈ es, e.length = sz) → fillE sz es ps = some r →
    fillA es.flatten (ps.map fun p => (p.1 * sz, sz, p.2)) = some r.flatten ∧ (∀ e ∈ r, e.length = sz) ∧ r.length = es.length
  | [], es, r, h, hr => by
    simp only [fillE, Option.some.injEq] at hr; subst hr
    exact ⟨rfl, h, rfl⟩
  | (i, x) :: ps, es, r, h, hr => by
    simp only [fillE] at hr
    split at hr
    · rename_i hc
      obtain ⟨h1, h2, h3⟩ := hc
      have hset : ∀ e ∈ es.set i (cellsOf x), e.length = sz := by
        intro e he
        rcases List.mem_or_eq_of_mem_set he with he | he
        · exact h e he
        · rw [he]; exact h2
      obtain ⟨h4, h5, h6⟩ := fillE_fillA ps _ r hset hr
      refine ⟨?_, h5, by rw [h6]; simp⟩
      simp only [List.map_cons, fillA]
      have hfl : es.flatten.length = es.length * sz := by
        have : ∀ (es : List (List AV)), (∀ e ∈ es, e.length = sz) → es.flatten.length = es.length * sz := by
          intro es
          induction es with
          | nil => simp
          | cons e es ih =>
            intro h
            rw [List.flatten_cons, List.length_append, ih (fun x hx => h x (by simp [hx])), h e (by simp), List.length_cons, Nat.add_mul]
            omega
        exact this es h
      have hle : i * sz + sz ≤ es.flatten.length := by
        rw [hfl, ← Nat.succ_mul]; exact Nat.mul_le_mul_right _ h3
      rw [if_pos ⟨h1, h2, hle⟩, ← flatten_set es i _ h h2 h3]
      exact h4
    · cases hr

theorem run_buildSlice {P : Program} {K : Wd} {nx : Nat} {t e : TypeId} {len : Nat} {z : List AV} {es : List (List AV)} {parts : Array (Nat × Value)} {qs : List (Nat × AV)} (hu : P.underlying t = some (.slice e)) (ht : zeroT P e = some z)
    (hzl : z.length = P.cellsOf e) (hsmall : len * z.length ≤ 2 ^ 24) (hl : Laid K nx (fun i => some (i * z.length, z.length)) parts.toList (qs.map fun p => (p.1 * z.length, z.length, p.2))) (hr : fillE z.length (List.replicate len z) qs = some es) :
    ∃ c : List Value, CR K nx es.flatten c ∧ (∀ e ∈ es, e.length = z.length) ∧ es.length = len ∧ ∀ w, (Instr.buildSlice t len parts).run P w = .ok (.slice (some ⟨w.heap.size, 0, none⟩) len len) (w.alloc (.cells c.toArray e (0, 0))) := by
  obtain ⟨i, v, hi, hv, hz, hrun⟩ := run_zeroT ht
  have hcr : CR K nx z v.cells.toList := CR.ofC hz
  have hvl : v.cells.size = z.length := by have := hcr.len; simpa using this
  obtain ⟨h1, h2, h3⟩ := fillE_fillA qs _ es (by intro e he; rw [List.eq_of_mem_replicate he]) hr
  have hs : i.size = z.length := by rw [hzl]; simp [Program.cellsOf, hi]
  obtain ⟨z0, hz0⟩ : ∃ z0 : Array Value, z0 = (Array.range (len * z.length)).map ((if len * z.length = 0 then #[] else v.cells)[· % (if len * z.length = 0 then #[] else v.cells).size]!) := ⟨_, rfl⟩
  have hcz : CR K nx (List.replicate len z).flatten z0.toList := by
    have hrep : z0.toList = (List.replicate len v.cells.toList).flatten := by
      rw [hz0]
      by_cases h0 : len * z.length = 0
      · have : len = 0 ∨ z = [] := by
          rcases Nat.mul_eq_zero.1 h0 with h | h
          · exact .inl h
          · exact .inr (List.eq_nil_of_length_eq_zero h)
        rw [h0]
        rcases this with h | h
        · subst h; simp
        · have : v.cells.toList = [] := List.eq_nil_of_length_eq_zero (by rw [hcr.len, h]; rfl)
          rw [this]; simp
      · simp only [h0, if_false]
        have hpos : 0 < z.length := Nat.pos_of_ne_zero fun h => h0 (by rw [h]; simp)
        have hg : ∀ (n : Nat) (l : List Value), l.length = z.length → ∀ k, k < n * z.length → (List.replicate n l).flatten[k]? = l[k % z.length]? := by
          intro n l hl
          induction n with
          | zero => intro k hk; simp at hk
          | succ n ih =>
            intro k hk
            rw [List.replicate_succ, List.flatten_cons, List.getElem?_append]
            split
            · rename_i h; rw [hl] at h; rw [Nat.mod_eq_of_lt h]
            · rename_i h
              rw [hl] at h ⊢
              have e1 : k % z.length = (k - z.length) % z.length := Nat.mod_eq_sub_mod (by omega)
              rw [e1, ih _ (by rw [Nat.succ_mul] at hk; omega)]
        have hlen : ((List.replicate len v.cells.toList).flatten).length = len * z.length := by simp [hvl]
        apply List.ext_getElem?
        intro k
        by_cases hk : k < len * z.length
        · rw [hg len v.cells.toList (by simpa using hvl) k hk]
          have hm : k % z.length < v.cells.size := by rw [hvl]; exact Nat.mod_lt _ hpos
          have hm' : k % v.cells.size < v.cells.size := by rw [hvl]; rw [hvl] at hm; exact hm
          simp only [Array.getElem?_toList, Array.getElem?_map, Array.getElem?_range, if_pos hk, Option.map_some, hvl]
          simp [hm]
        · rw [List.getElem?_eq_none (by simp; omega), List.getElem?_eq_none (by omega)]
    rw [hrep]
    have : ∀ n, CR K nx (List.replicate n z).flatten (List.replicate n v.cells.toList).flatten := by
      intro n
      induction n with
      | zero => exact .nil _ _
      | succ n ih => rw [List.replicate_succ, List.replicate_succ, List.flatten_cons, List.flatten_cons]; exact hcr.append ih
    exact this len
  obtain ⟨c', hf, hc'⟩ := fill_sound parts.toList _ _ _ z0 hcz hl h1
  refine ⟨c'.toList, hc', h2, by rw [h3]; simp, fun w => ?_⟩
  have hle : ¬ (len * z.length > 2 ^ 24) := by omega
  have hso : (sizeOf e).run P w = .ok z.length w := by simp [sizeOf, typeInfo, hi, hs]
  simp only [Instr.buildSlice, Sem.run_bind, run_underlying hu, Result.andThen_ok, hso, hle, if_false]
  by_cases h0 : len * z.length = 0
  · rw [if_pos h0] at hz0
    rw [if_pos h0]
    simp only [Sem.run_bind, Sem.run_pure, Result.andThen_ok, ← hz0, hf]
    simp [newRow, newObj, Sem.run]
  · rw [if_neg h0] at hz0
    rw [if_neg h0]
    simp only [Sem.run_bind, hrun, Sem.run_pure, Result.andThen_ok, ← hz0, hf]
    simp [newRow, newObj, Sem.run]

end Go.Ab
