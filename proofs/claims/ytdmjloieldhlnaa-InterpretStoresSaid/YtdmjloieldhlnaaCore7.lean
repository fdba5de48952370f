/- The operations on abstract values, fifth part: slices' cells, append, make, parts of slices, indexes, fields. -/
import Derived.Test.YtdmjloieldhlnaaCore6
namespace Go.Ab
open Go.RowKit
set_option linter.unusedVariables false
set_option linter.unusedSimpArgs false

theorem flatten_length {sz : Nat} : ∀ (es : List (List AV)), (∀ e ∈ es, e.length = sz) → es.flatten.length = es.length * sz
  | [], _ => by simp
  | e :: es, h => by
    rw [List.flatten_cons, List.length_append, flatten_length es (fun x hx => h x (by simp [hx])), h e (by simp), List.length_cons, Nat.add_mul]
    omega
theorem flatten_get {sz : Nat} (hsz : 0 < sz) : ∀ (es : List (List AV)) (k : Nat), (∀ e ∈ es, e.length = sz) → es.flatten[k]? = (es[k / sz]?).bind (·[k % sz]?)
  | [], k, _ => by simp
  | e :: es, k, h => by
    have h0 := h e (by simp)
    rw [List.flatten_cons, List.getElem?_append]
    split
    · rename_i hk
      rw [h0] at hk
      rw [Nat.div_eq_of_lt hk, Nat.mod_eq_of_lt hk]
      simp
    · rename_i hk
      rw [h0] at hk ⊢
      rw [flatten_get hsz es (k - sz) (fun x hx => h x (by simp [hx]))]
      have e1 : k / sz = (k - sz) / sz + 1 := by rw [Nat.div_eq_sub_div hsz (by omega)]
      have e2 : k % sz = (k - sz) % sz := Nat.mod_eq_sub_mod (by omega)
      rw [e1, e2, List.getElem?_cons_succ]

/-- How many elements a slice has, and their cells. -/
def sliceCells (h : Heap) : AV → Option (Nat × List AV)
  | .nilS => some (0, [])
  | .emp => some (0, [])
  | .ne0 => some (0, [])
  | .lst _ es => some (es.length, es.flatten)
  | .os b off _ sz len => match hget h b with
    | some (.cells cs) => if off + len * sz ≤ cs.length then some (len, (cs.drop off).take (len * sz)) else none
    | _ => none
  | .oc b off _ sz len _ => match hget h b with
    | some (.cells cs) => if off + len * sz ≤ cs.length then some (len, (cs.drop off).take (len * sz)) else none
    | _ => none
  | _ => none

def slSz : AV → Nat → Bool
  | .lst sz _, s => sz == s
  | .os _ _ _ sz _, s => sz == s
  | .oc _ _ _ sz _ _, s => sz == s
  | _, _ => true

theorem sliceCells_sound {w0 : World} {K : Wd} {h : Heap} {nx : Nat} (g : Good w0 K h nx) {x : AV} {m s : Nat} {cs : List AV} (hx : sliceCells h x = some (m, cs)) (hs : slSz x s = true) {v : Value} (hv : VR K nx x v) :
    ∃ A cap c, v = .slice A m cap ∧ m ≤ cap ∧ m ≤ maxLen ∧ CR K nx cs c ∧ cs.length = m * s ∧ (0 < m → ∃ a, A = some a ∧ ∀ (j : Nat) (u : Value), c[j]? = some u → K.w.cell? (a.add j) = some u) ∧ (A = none → cap = 0) := by
  unfold sliceCells at hx
  split at hx
  · simp only [Option.some.injEq, Prod.mk.injEq] at hx; obtain ⟨rfl, rfl⟩ := hx
    cases hv
    exact ⟨none, 0, [], rfl, by omega, by simp [maxLen], .nil _ _, by simp, fun h => by omega, fun _ => rfl⟩
  · simp only [Option.some.injEq, Prod.mk.injEq] at hx; obtain ⟨rfl, rfl⟩ := hx
    cases hv
    exact ⟨_, 0, [], rfl, by omega, by simp [maxLen], .nil _ _, by simp, fun h => by omega, fun _ => rfl⟩
  · simp only [Option.some.injEq, Prod.mk.injEq] at hx; obtain ⟨rfl, rfl⟩ := hx
    cases hv
    exact ⟨_, _, [], rfl, by omega, by simp [maxLen], .nil _ _, by simp, fun h => by omega, fun h => by cases h⟩
  · rename_i sz es
    simp only [Option.some.injEq, Prod.mk.injEq] at hx; obtain ⟨rfl, rfl⟩ := hx
    simp only [slSz, beq_iff_eq] at hs; subst hs
    cases hv with
    | lst0 _ _ A n cap h0 hn hA =>
      subst h0; subst hn
      exact ⟨A, cap, [], rfl, by simp, by simp [maxLen], .nil _ _, by simp, fun h => by simp at h, hA⟩
    | lst _ _ a n cap c hn hc hcap hsz h1 hr h =>
      have hall : ∀ e ∈ es, e.length = sz := fun e he => by obtain ⟨i, hi⟩ := List.getElem?_of_mem he; exact hsz i e hi
      have hfl := flatten_length es hall
      refine ⟨some a, cap, (List.range (es.length * sz)).map c, by rw [hn], by omega, by omega, ⟨by simp [hfl], fun k x hx => ?_, fun k x u hx hu => ?_⟩, hfl, fun _ => ⟨a, rfl, fun j u hu => ?_⟩, by simp⟩
      · rcases Nat.eq_zero_or_pos sz with h0 | h0
        · have := (List.getElem?_eq_some_iff.1 hx).1; rw [hfl, h0] at this; omega
        · rw [flatten_get h0 es k hall] at hx
          obtain ⟨e, he, hx⟩ := Option.bind_eq_some_iff.1 hx
          exact h1 _ e he _ x hx
      · have hk : k < es.length * sz := by rw [← hfl]; exact (List.getElem?_eq_some_iff.1 hx).1
        rcases Nat.eq_zero_or_pos sz with h0 | h0
        · rw [h0] at hk; omega
        · rw [flatten_get h0 es k hall] at hx
          obtain ⟨e, he, hx⟩ := Option.bind_eq_some_iff.1 hx
          have := h _ e he _ x hx
          have e1 : k / sz * sz + k % sz = k := by rw [Nat.mul_comm]; exact Nat.div_add_mod k sz
          rw [e1] at this
          have hu' : u = c k := by simpa [hk] using hu.symm
          rw [hu']; exact this
      · have hj : j < es.length * sz := by simpa using (List.getElem?_eq_some_iff.1 hu).1
        have hu' : u = c j := by simpa [hj] using hu.symm
        rw [hu']; exact (hr j (by rw [hn]; exact hj)).1
  · rename_i b off e sz len
    simp only [slSz, beq_iff_eq] at hs; subst hs
    split at hx
    · rename_i cs0 hb
      split at hx
      · rename_i hle
        simp only [Option.some.injEq, Prod.mk.injEq] at hx; obtain ⟨rfl, rfl⟩ := hx
        cases hv with
        | os _ _ _ _ _ a n cap hn hlt hc hcap hA hroom =>
          subst hn
          obtain ⟨_, _, _, ob, hob, hor⟩ := g.live b _ hb
          cases hor with
          | cells _ c e' hs h1 hcc =>
            have hcr0 : CR K nx cs0 (c.toList.take cs0.length) := ⟨by simp; omega, h1, fun i x v hx hv => by
              have hi : i < cs0.length := (List.getElem?_eq_some_iff.1 hx).1
              exact hcc i x v hx (by simpa [List.getElem?_take, hi] using hv)⟩
            refine ⟨some a, cap, _, rfl, hc, by omega, (hcr0.drop off).take (n * sz), by simp; omega, fun h0 => ⟨a, rfl, fun j u hu => ?_⟩, by simp⟩
            have ha := hA (by omega)
            subst ha
            rw [add_eq, cell_row hob]
            rw [List.getElem?_take] at hu
            split at hu
            · rw [List.getElem?_drop, List.getElem?_take] at hu
              split at hu
              · simpa using hu
              · cases hu
            · cases hu
      · cases hx
    · cases hx
  · rename_i b off e sz len cap
    simp only [slSz, beq_iff_eq] at hs; subst hs
    split at hx
    · rename_i cs0 hb
      split at hx
      · rename_i hle
        simp only [Option.some.injEq, Prod.mk.injEq] at hx; obtain ⟨rfl, rfl⟩ := hx
        cases hv with
        | oc _ _ _ _ _ cap a hlt hc hcap hA hroom =>
          obtain ⟨_, _, _, ob, hob, hor⟩ := g.live b _ hb
          cases hor with
          | cells _ c e' hs h1 hcc =>
            have hcr0 : CR K nx cs0 (c.toList.take cs0.length) := ⟨by simp; omega, h1, fun i x v hx hv => by
              have hi : i < cs0.length := (List.getElem?_eq_some_iff.1 hx).1
              exact hcc i x v hx (by simpa [List.getElem?_take, hi] using hv)⟩
            refine ⟨some a, cap, _, rfl, hc, by omega, (hcr0.drop off).take (len * sz), by simp; omega, fun h0 => ⟨a, rfl, fun j u hu => ?_⟩, by simp⟩
            have ha := hA (by omega)
            subst ha
            rw [add_eq, cell_row hob]
            rw [List.getElem?_take] at hu
            split at hu
            · rw [List.getElem?_drop, List.getElem?_take] at hu
              split at hu
              · simpa using hu
              · cases hu
            · cases hu
      · cases hx
    · cases hx
  · cases hx

/-! ### A block under a new number -/
def Wd.rename (K : Wd) (nx b : Nat) : Wd := { K with m := fun k => if k = nx then K.m b else K.m k }
theorem Ext.rename (K : Wd) (nx b : Nat) : Ext K nx (K.rename nx b) (nx + 1) := ⟨by omega, fun k hk => by simp only [Wd.rename]; rw [if_neg (by omega)], fun _ _ h => h, fun _ _ _ => rfl, fun _ c _ h => ⟨c, h, rfl⟩, rfl, fun _ _ h => .inl h⟩
theorem Good.rename {w0 : World} {K : Wd} {h : Heap} {nx b : Nat} (g : Good w0 K h nx) {o : AO} (hb : hget h b = some o) : Good w0 (K.rename nx b) ((nx, o) :: hdel h b) (nx + 1) := by
  have he := Ext.rename K nx b
  have hm : (K.rename nx b).m nx = K.m b := by simp [Wd.rename]
  have key : ∀ k o', hget ((nx, o) :: hdel h b) k = some o' → ∃ k0, hget h k0 = some o' ∧ (K.rename nx b).m k = K.m k0 ∧ k < nx + 1 ∧ (k = nx ∧ k0 = b ∨ k = k0 ∧ k ≠ b ∧ k < nx) := by
    intro k o' hk
    rw [hget_cons] at hk
    split at hk
    · rename_i e; subst e
      injection hk with hk; subst hk
      exact ⟨b, hb, hm, by omega, .inl ⟨rfl, rfl⟩⟩
    · rename_i e
      rw [hget_hdel] at hk
      split at hk
      · cases hk
      · rename_i e2
        have := (g.live k o' hk).1
        exact ⟨k, hk, he.m k this, by omega, .inr ⟨rfl, fun h => e2 h.symm, this⟩⟩
  refine ⟨fun k o' hk => ?_, fun k k' o1 o2 hk hk' e => ?_, g.below, g.zin, g.lo⟩
  · obtain ⟨k0, h1, h2, h3, _⟩ := key k o' hk
    obtain ⟨l1, l2, l3, ob, l4, l5⟩ := g.live k0 o' h1
    exact ⟨h3, by rw [h2]; exact l2, by rw [h2]; exact l3, ob, by rw [h2]; exact l4, l5.mono he⟩
  · obtain ⟨k0, h1, h2, h3, h4⟩ := key k o1 hk
    obtain ⟨k1, j1, j2, j3, j4⟩ := key k' o2 hk'
    rw [h2, j2] at e
    have := g.inj k0 k1 o1 o2 h1 j1 e
    rcases h4 with ⟨rfl, rfl⟩ | ⟨rfl, h5, h6⟩ <;> rcases j4 with ⟨rfl, rfl⟩ | ⟨rfl, j5, j6⟩
    · rfl
    · exact absurd this.symm j5
    · exact absurd this h5
    · exact this

/-! ### append -/
def appA (e sz bytes : Nat) (h : Heap) (nx : Nat) (s x : AV) : Option (AV × Heap × Nat) :=
  match sliceCells h x with
  | none => none
  | some (m, news) =>
    if slSz x sz = true then
      match s with
      | .nilS => if m = 0 then some (.nilS, h, nx) else if m * bytes ≤ 140737488355328 ∧ m ≤ maxLen then some (.os nx 0 e sz m, (nx, .cells news) :: h, nx + 1) else none
      | .emp => if m = 0 then some (.emp, h, nx) else if m * bytes ≤ 140737488355328 ∧ m ≤ maxLen then some (.os nx 0 e sz m, (nx, .cells news) :: h, nx + 1) else none
      | .os b off e' sz' len => match hget h b with
        | some (.cells cs) => if off = 0 ∧ e' = e ∧ sz' = sz ∧ cs.length = len * sz ∧ (len + m) * bytes ≤ 140737488355328 ∧ len + m ≤ maxLen then
            (if m = 0 then some (s, h, nx) else some (.os nx 0 e sz (len + m), (nx, .cells (cs ++ news)) :: hdel h b, nx + 1))
            else if off = 0 ∧ e' = e ∧ sz' = sz ∧ (len + m) * sz ≤ cs.length then (if m = 0 then some (s, h, nx) else some (.os b 0 e sz (len + m), hset h b (.cells (splice cs (len * sz) news)), nx)) else none
        | _ => none
      | .oc b off e' sz' len cap => match hget h b with
        | some (.cells cs) => if off = 0 ∧ e' = e ∧ sz' = sz ∧ len + m ≤ cap ∧ (len + m) * sz ≤ cs.length then (if m = 0 then some (s, h, nx) else some (.oc b 0 e sz (len + m) cap, hset h b (.cells (splice cs (len * sz) news)), nx)) else none
        | _ => none
      | _ => none
    else none

theorem run_append_zero {P : Program} {w : World} {t ty e : TypeId} {i : TypeInfo} (ht : P.underlying t = some (.slice e)) (hi : P.info? e = some i) (A : Option Addr) (n c : Nat) (hn : n ≤ c) (B : Option Addr) (c' : Nat) :
    (Builtin.append_ #[t, t] ty #[.slice A n c, .slice B 0 c']).run P w = .ok (.slice A n c) w := by
  have hf : (Builtin.firstCells i.size 0 (.slice B 0 c')).run P w = .ok #[] w := by
    cases B <;> simp [Builtin.firstCells, loadCells, loadCellsFrom]
  cases A <;> simp [Builtin.append_, run_underlying ht, sizeOf, typeInfo, hi, Builtin.lenOf, hn, hf, storeCells]

theorem append_sound {P : Program} {w0 : World} {K : Wd} {h h' : Heap} {nx nx' : Nat} (g : Good w0 K h nx) {t ty e : TypeId} {i : TypeInfo} {z : Value} (ht : P.underlying t = some (.slice e)) (hi : P.info? e = some i) (hz : i.zero = some z)
    (hzs : z.cells.size = i.size) (hpos : 0 < i.size) {s x r : AV} {u v : Value} (ha : appA e i.size i.bytes h nx s x = some (r, h', nx')) (hu : VR K nx s u) (hv : VR K nx x v) :
    ∃ K' y, (Builtin.append_ #[t, t] ty #[u, v]).run P K.w = .ok y K'.w ∧ Ext K nx K' nx' ∧ Good w0 K' h' nx' ∧ VR K' nx' r y := by
  unfold appA at ha
  split at ha
  · cases ha
  rename_i m news hsl
  split at ha
  case isFalse => cases ha
  rename_i hss
  obtain ⟨B, c', nv, rfl, hmc, hmm, hcr, hnl, hcell, _⟩ := sliceCells_sound g hsl hss hv
  have hnvl : nv.length = m * i.size := by rw [hcr.len, hnl]
  have fresh : ∀ (A : Option Addr), m ≠ 0 → m * i.bytes ≤ 140737488355328 → m ≤ maxLen → (A = none ∨ ∃ a, A = some a) → ∃ K' y, (Builtin.append_ #[t, t] ty #[.slice A 0 0, .slice B m c']).run P K.w = .ok y K'.w ∧ Ext K nx K' (nx + 1) ∧ Good w0 K' ((nx, .cells news) :: h) (nx + 1) ∧ VR K' (nx + 1) (.os nx 0 e i.size m) y := by
    intro A hm0 hb hmx hA
    obtain ⟨a, rfl, hc⟩ := hcell (by omega)
    have h63 : m ≤ 9223372036854775807 := by simp only [maxLen] at hmx; omega
    have hge := grownCap_ge K.w m 0 e
    have hcm := grownCap_le_maxLen K.w m 0 e hmx
    obtain ⟨cap, hcapd⟩ : ∃ cap, cap = grownCap K.w m 0 e := ⟨_, rfl⟩
    rw [← hcapd] at hge hcm
    have hrun : (Builtin.append_ #[t, t] ty #[.slice A 0 0, .slice (some a) m c']).run P K.w = .ok (.slice (some ⟨K.w.heap.size, 0, none⟩) m cap) (K.w.drew.alloc (.cells (nv.toArray ++ Builtin.zeroCells z.cells (cap - m)) e)) := by
      rcases hA with rfl | ⟨b, rfl⟩
      · rw [hcapd]; exact run_append_nil K.w t ty e i z ht hi hz a m c' nv hnvl hc (by omega) (by omega) (by omega)
      · have := run_append_grow K.w t ty e i z ht hi hz b 0 0 [] (by simp) (by simp) a m c' nv hnvl hc (by omega) (by omega) (growslice_fits (by omega) (by simpa using hb))
        simpa [hcapd] using this
    have gd : Good w0 { K with w := K.w.drew } h nx := g.drew (K.w.drawn + 1)
    have ed : Ext K nx { K with w := K.w.drew } nx := Ext.of_heap rfl
    obtain ⟨blk, hblk⟩ : ∃ blk, blk = nv.toArray ++ Builtin.zeroCells z.cells (cap - m) := ⟨_, rfl⟩
    have hbs : blk.size = cap * i.size := by
      rw [hblk]; simp only [Array.size_append, List.size_toArray, size_zeroCells, hzs, hnvl, ← Nat.add_mul]
      congr 1; omega
    have hlen : news.length ≤ blk.size := by rw [hbs, hnl]; exact Nat.mul_le_mul_right _ hge
    have htake : blk.toList.take news.length = nv := by
      rw [hblk, ← hcr.len]; simp
    have gn := new_sound (K := { K with w := K.w.drew }) gd (cs := news) (c := blk) hlen (by rw [htake]; exact hcr.mono ed) e
    refine ⟨Wd.alloc { K with w := K.w.drew } nx (.cells blk e (0, 0)), _, by rw [hrun, ← hblk]; rfl, ed.trans (Ext.alloc gd _), gn, ?_⟩
    refine .os nx 0 e i.size m _ m cap rfl (by omega) hge hcm (fun _ => by simp [Wd.alloc]) ⟨blk, ?_, by omega⟩
    have hmn : (Wd.alloc { K with w := K.w.drew } nx (.cells blk e (0, 0))).m nx = K.w.heap.size := by simp [Wd.alloc]
    rw [hmn]
    exact alloc_new K.w.drew _
  split at ha
  · cases hu
    split at ha
    · rename_i hm0; subst hm0
      simp only [Option.some.injEq, Prod.mk.injEq] at ha; obtain ⟨rfl, rfl, rfl⟩ := ha
      exact ⟨K, _, run_append_zero ht hi none 0 0 (by omega) B c', Ext.refl _ _, g, .nilS⟩
    · rename_i hm0
      split at ha
      · rename_i hb
        simp only [Option.some.injEq, Prod.mk.injEq] at ha; obtain ⟨rfl, rfl, rfl⟩ := ha
        exact fresh none hm0 hb.1 hb.2 (.inl rfl)
      · cases ha
  · cases hu with
    | emp A =>
    split at ha
    · rename_i hm0; subst hm0
      simp only [Option.some.injEq, Prod.mk.injEq] at ha; obtain ⟨rfl, rfl, rfl⟩ := ha
      exact ⟨K, _, run_append_zero ht hi A 0 0 (by omega) B c', Ext.refl _ _, g, .emp A⟩
    · rename_i hm0
      split at ha
      · rename_i hb
        simp only [Option.some.injEq, Prod.mk.injEq] at ha; obtain ⟨rfl, rfl, rfl⟩ := ha
        exact fresh A hm0 hb.1 hb.2 (by cases A; exact .inl rfl; exact .inr ⟨_, rfl⟩)
      · cases ha
  · rename_i b off e' sz' len
    split at ha
    · rename_i cs hb
      split at ha
      case isFalse =>
        split at ha
        case isFalse => cases ha
        rename_i hcond
        obtain ⟨rfl, rfl, rfl, hcl⟩ := hcond
        split at ha
        · rename_i hm0; subst hm0
          simp only [Option.some.injEq, Prod.mk.injEq] at ha; obtain ⟨rfl, rfl, rfl⟩ := ha
          have hu' := hu
          cases hu with
          | os _ _ _ _ _ a n cap hn hlt hc hcap hA hroom =>
            exact ⟨K, _, run_append_zero ht hi (some a) n cap (by omega) B c', Ext.refl _ _, g, hu'⟩
        · rename_i hm0
          simp only [Option.some.injEq, Prod.mk.injEq] at ha; obtain ⟨rfl, rfl, rfl⟩ := ha
          obtain ⟨ax, rfl, hc⟩ := hcell (by omega)
          cases hu with
          | os _ _ _ _ _ a n cap hn hlt hnc hcap hA hroom =>
            subst hn
            have hroom' := hroom
            obtain ⟨c, hrow, hsize⟩ := hroom
            simp only [Nat.zero_add] at hsize
            obtain ⟨l1, l2, l3, ob, l4, l5⟩ := g.live b _ hb
            rw [hrow] at l4; injection l4 with l4; subst l4
            cases l5 with
            | cells _ _ _ hs h1 hcc =>
              have hroom2 : n + m ≤ cap := by
                have : (n + m) * i.size ≤ cap * i.size := by omega
                exact Nat.le_of_mul_le_mul_right this hpos
              have ha := hA (by omega); subst ha
              obtain ⟨K', hst, hext, hg⟩ := write_sound (P := P) g hb (off := n * i.size) (xs := news) (by rw [hnl, ← Nat.add_mul]; exact hcl) hcr
              have hf := run_firstCells_some (P := P) K.w i.size m ax m c' nv hnvl hc
              refine ⟨K', .slice (some ⟨K.m b, 0, none⟩) (n + m) cap, ?_, hext, hg, ?_⟩
              · simp [Builtin.append_, run_underlying ht, sizeOf, typeInfo, hi, Builtin.lenOf, hroom2, hf, Addr.add_lit, hst]
              · exact VR.mono hext (.os b 0 e' i.size (n + m) _ (n + m) cap rfl hlt hroom2 hcap (fun _ => rfl) hroom')
      rename_i hcond
      obtain ⟨rfl, rfl, rfl, hcl, hby, hmx⟩ := hcond
      split at ha
      · rename_i hm0; subst hm0
        simp only [Option.some.injEq, Prod.mk.injEq] at ha; obtain ⟨rfl, rfl, rfl⟩ := ha
        have hu' := hu
        cases hu with
        | os _ _ _ _ _ a n cap hn hlt hc hcap hA hroom =>
          exact ⟨K, _, run_append_zero ht hi (some a) n cap (by omega) B c', Ext.refl _ _, g, hu'⟩
      · rename_i hm0
        simp only [Option.some.injEq, Prod.mk.injEq] at ha; obtain ⟨rfl, rfl, rfl⟩ := ha
        obtain ⟨ax, rfl, hc⟩ := hcell (by omega)
        cases hu with
        | os _ _ _ _ _ a n cap hn hlt hnc hcap hA hroom =>
          subst hn
          obtain ⟨c, hrow, hsize⟩ := hroom
          simp only [Nat.zero_add] at hsize
          obtain ⟨l1, l2, l3, ob, l4, l5⟩ := g.live b _ hb
          rw [hrow] at l4; injection l4 with l4; subst l4
          have hor := l5
          cases l5 with
          | cells _ _ _ hs h1 hcc =>
            have hcr0 : CR K nx cs (c.toList.take cs.length) := ⟨by simp; omega, h1, fun i x v hx hv => by
              have hi : i < cs.length := (List.getElem?_eq_some_iff.1 hx).1
              exact hcc i x v hx (by simpa [List.getElem?_take, hi] using hv)⟩
            by_cases hroom2 : n + m ≤ cap
            · -- in place
              have ha := hA (by omega); subst ha
              have hfit : n * i.size + nv.length ≤ c.size := by
                rw [hnvl, ← Nat.add_mul, ← hsize]; exact Nat.mul_le_mul_right _ hroom2
              have hrun := run_append_room K.w t ty e' i ht hi (K.m b) n cap c hrow ax m c' nv hnvl hc hcr.oneCell hroom2 hfit
              obtain ⟨blk, hblk⟩ : ∃ blk, blk = (c.toList.take (n * i.size) ++ nv ++ c.toList.drop (n * i.size + nv.length)).toArray := ⟨_, rfl⟩
              rw [← hblk, setRow_eq_putObj hrow] at hrun
              have hbsz : blk.size = c.size := by rw [hblk]; simp; omega
              have hs1 : ∀ c0 e0, K.w.heap[K.m b]? = some (.cells c0 e0 (0, 0)) → ∃ c2 : Array Value, (Obj.cells blk e' (0, 0)) = .cells c2 e0 (0, 0) ∧ c2.size = c0.size := by
                intro c0 e0 h0
                rw [hrow] at h0; injection h0 with h0; injection h0 with h0 h00; subst h0; subst h00
                exact ⟨blk, rfl, hbsz⟩
              have hext := Ext.putObj (ob := .cells blk e' (0, 0)) g hb hs1
              have hcr2 : CR K nx (cs ++ news) (blk.toList.take (cs ++ news).length) := by
                have : blk.toList.take (cs ++ news).length = c.toList.take cs.length ++ nv := by
                  rw [hblk, hcl]
                  simp only [List.length_append, hcl]
                  rw [← hcr.len]
                  rw [List.take_append_of_le_length (by simp; omega)]
                  rw [List.take_of_length_le (by simp; omega)]
                rw [this]
                exact hcr0.append hcr
              have hlen2 : (cs ++ news).length ≤ blk.size := by rw [hbsz, List.length_append, hcl, ← hcr.len]; exact hfit
              have gp := Good.putObj (o' := .cells (cs ++ news)) (ob := .cells blk e' (0, 0)) g hb hs1 (.cells _ _ _ hlen2 hcr2.one fun i x v hx hv => (hcr2.at_ i x v hx (by
                have hi : i < (cs ++ news).length := (List.getElem?_eq_some_iff.1 hx).1
                rw [List.getElem?_take, if_pos hi]; simpa using hv)).mono hext)
              have gr := gp.rename (b := b) (o := .cells (cs ++ news)) (by simp [hget_hset])
              have er := Ext.rename (K.putObj b (.cells blk e' (0, 0))) nx b
              refine ⟨_, _, hrun, hext.trans er, gr.weaken (Nat.le_refl _) fun k o hk => ?_, ?_⟩
              · rw [hget_cons] at hk ⊢
                split
                · rename_i hq; rw [if_pos hq] at hk; exact hk
                · rename_i hq; rw [if_neg hq] at hk
                  rw [hget_hdel] at hk ⊢
                  split
                  · rename_i hq2; rw [if_pos hq2] at hk; exact hk
                  · rename_i hq2; rw [if_neg hq2] at hk; rw [hget_hset, if_neg hq2]; exact hk
              · refine .os nx 0 e' i.size (n + m) _ (n + m) cap rfl (by omega) hroom2 hcap (fun _ => by simp [Wd.rename, Wd.putObj]) ⟨blk, ?_, by rw [hbsz]; omega⟩
                have : ((K.putObj b (.cells blk e' (0, 0))).rename nx b).m nx = K.m b := by simp [Wd.rename, Wd.putObj]
                rw [this]
                exact World.putObj_heap_same (lt_of_row hrow)
            · -- a new row
              have hlo : (c.toList.take cs.length).length = n * i.size := by simp; omega
              have hold : ∀ (j : Nat) (v : Value), (c.toList.take cs.length)[j]? = some v → K.w.cell? (a.add j) = some v := by
                intro j v hv
                rcases Nat.eq_zero_or_pos cap with h0 | h0
                · have : (c.toList.take cs.length)[j]? = none := by
                    apply List.getElem?_eq_none
                    rw [hlo]
                    have : n = 0 := by omega
                    rw [this]; omega
                  rw [this] at hv; cases hv
                · have ha := hA h0; subst ha
                  rw [add_eq, cell_row hrow]
                  rw [List.getElem?_take] at hv
                  split at hv
                  · simpa using hv
                  · cases hv
              have h63 : n + m ≤ 9223372036854775807 := by simp only [maxLen] at hmx; omega
              have hge := grownCap_ge K.w (n + m) cap e'
              have hcm := grownCap_le_maxLen K.w (n + m) cap e' hmx
              obtain ⟨cap2, hcapd⟩ : ∃ cap2, cap2 = grownCap K.w (n + m) cap e' := ⟨_, rfl⟩
              rw [← hcapd] at hge hcm
              have hrun := run_append_grow K.w t ty e' i z ht hi hz a n cap _ hlo hold ax m c' nv hnvl hc (by omega) (by omega) (growslice_fits (by omega) hby)
              rw [← hcapd] at hrun
              obtain ⟨blk, hblk⟩ : ∃ blk, blk = (c.toList.take cs.length).toArray ++ nv.toArray ++ Builtin.zeroCells z.cells (cap2 - (n + m)) := ⟨_, rfl⟩
              rw [← hblk] at hrun
              have gw := g.weaken (h' := hdel h b) (Nat.le_refl nx) (fun k o hk => by rw [hget_hdel] at hk; split at hk; cases hk; exact hk)
              have gd : Good w0 { K with w := K.w.drew } (hdel h b) nx := gw.drew (K.w.drawn + 1)
              have ed : Ext K nx { K with w := K.w.drew } nx := Ext.of_heap rfl
              have hbs : blk.size = cap2 * i.size := by
                rw [hblk]; simp only [Array.size_append, List.size_toArray, size_zeroCells, hzs, hnvl, hlo, ← Nat.add_mul]
                congr 1; omega
              have hlen : (cs ++ news).length ≤ blk.size := by
                rw [hbs, List.length_append, hcl, hnl, ← Nat.add_mul]; exact Nat.mul_le_mul_right _ hge
              have htake : blk.toList.take (cs ++ news).length = c.toList.take cs.length ++ nv := by
                rw [hblk]
                have hl0 : (cs ++ news).length = (c.toList.take cs.length ++ nv).length := by rw [List.length_append, List.length_append, hcr.len, hcr0.len]
                rw [hl0]
                have e0 : ∀ (l r : List Value), List.take l.length (l ++ r) = l := fun l r => List.take_left
                rw [Array.toList_append, Array.toList_append]
                exact e0 _ _
              have gn := new_sound (K := { K with w := K.w.drew }) gd (cs := cs ++ news) (c := blk) hlen (by rw [htake]; exact (hcr0.append hcr).mono ed) e'
              refine ⟨Wd.alloc { K with w := K.w.drew } nx (.cells blk e' (0, 0)), _, hrun, ed.trans (Ext.alloc gd _), gn, ?_⟩
              refine .os nx 0 e' i.size (n + m) _ (n + m) cap2 rfl (by omega) hge hcm (fun _ => by simp [Wd.alloc]) ⟨blk, ?_, by omega⟩
              have hmn : (Wd.alloc { K with w := K.w.drew } nx (.cells blk e' (0, 0))).m nx = K.w.heap.size := by simp [Wd.alloc]
              rw [hmn]
              exact alloc_new K.w.drew _
    · cases ha
  · rename_i b off e' sz' len cap
    split at ha
    · rename_i cs hb
      split at ha
      case isFalse => cases ha
      rename_i hcond
      obtain ⟨rfl, rfl, rfl, hroom2, hcl⟩ := hcond
      split at ha
      · rename_i hm0; subst hm0
        simp only [Option.some.injEq, Prod.mk.injEq] at ha; obtain ⟨rfl, rfl, rfl⟩ := ha
        have hu' := hu
        cases hu with
        | oc _ _ _ _ _ _ a hlt hc hcap hA hroom =>
          exact ⟨K, _, run_append_zero ht hi (some a) len cap (by omega) B c', Ext.refl _ _, g, hu'⟩
      · rename_i hm0
        simp only [Option.some.injEq, Prod.mk.injEq] at ha; obtain ⟨rfl, rfl, rfl⟩ := ha
        obtain ⟨ax, rfl, hc⟩ := hcell (by omega)
        cases hu with
        | oc _ _ _ _ _ _ a hlt hnc hcap hA hroom =>
          have ha := hA (by omega); subst ha
          obtain ⟨K', hst, hext, hg⟩ := write_sound (P := P) g hb (off := len * i.size) (xs := news) (by rw [hnl, ← Nat.add_mul]; exact hcl) hcr
          have hf := run_firstCells_some (P := P) K.w i.size m ax m c' nv hnvl hc
          refine ⟨K', .slice (some ⟨K.m b, 0, none⟩) (len + m) cap, ?_, hext, hg, ?_⟩
          · simp [Builtin.append_, run_underlying ht, sizeOf, typeInfo, hi, Builtin.lenOf, hroom2, hf, Addr.add_lit, hst]
          · exact VR.mono hext (.oc b 0 e' i.size (len + m) cap _ hlt hroom2 hcap (fun _ => rfl) hroom)
    · cases ha
  · cases ha

end Go.Ab
