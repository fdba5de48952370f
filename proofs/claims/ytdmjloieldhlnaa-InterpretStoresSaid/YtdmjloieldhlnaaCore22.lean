/- Arguments: whatever a row lets in is a value of the abstract kind, frozen. -/
import Derived.Test.YtdmjloieldhlnaaCore21
import Derived.OpenShut
import Derived.ChangeOld
import Derived.Carry
import Derived.SizedLaws
import Derived.ProofKit
namespace Go.Ab
open Go.RowKit Go.ChangeShapes
set_option linter.unusedVariables false
set_option linter.unusedSimpArgs false

/-- Parts, one behind the other. -/
def ATl (A : TypeId → List AV → Prop) : List TypeId → List AV → Prop
  | [], xs => xs = []
  | t :: ts, xs => ∃ y z, xs = y ++ z ∧ A t y ∧ ATl A ts z
/-- Cells of a type, as the abstract state has them. -/
def AT (P : Program) : Nat → TypeId → List AV → Prop
  | 0, _, _ => False
  | n + 1, t, xs => match P.underlying t with
    | some .bool => ∃ b, xs = [.bool b]
    | some (.int k) => ∃ i, xs = [.int k i] ∧ (Lit.int k i).wf = true
    | some .string => ∃ s, xs = [.str s] ∧ s.length ≤ maxLen
    | some (.slice e) => ∃ es, xs = [.lst (P.cellsOf e) es] ∧ es.length ≤ maxLen ∧ ∀ x ∈ es, x.length = P.cellsOf e ∧ AT P n e x
    | some (.struct fs) => ATl (AT P n) (fs.toList.map (·.type)) xs
    | some (.array m e) => ATl (AT P n) (List.replicate m e) xs
    | some (.pointer e) => xs = [.nilP] ∨ ∃ cs, xs = [.fp cs] ∧ AT P n e cs
    | _ => False

/-- The types of a set are made of the set's. -/
def tiles (P : Program) : Nat → List Field → Option Nat
  | o, [] => some o
  | o, f :: fs => if f.offset = o then tiles P (o + P.cellsOf f.type) fs else none
def okS (P : Program) (S : List TypeId) : Bool := S.all fun t => match P.underlying t with
  | some .bool => true
  | some (.int _) => true
  | some .string => true
  | some (.slice e) => S.contains e
  | some (.struct fs) => fs.toList.all (fun f => S.contains f.type) && tiles P 0 fs.toList == some (P.cellsOf t)
  | some (.array m e) => S.contains e && P.cellsOf t == m * P.cellsOf e
  | some (.pointer e) => S.contains e
  | _ => false

theorem mapM_get {α β : Type} {f : α → Option β} : ∀ {l : List α} {r : List β}, l.mapM f = some r → r.length = l.length ∧ ∀ (i : Nat) (a : α), l[i]? = some a → f a = r[i]?
  | [], r, h => by simp at h; subst h; simp
  | a :: l, r, h => by
    simp only [List.mapM_cons, Option.bind_eq_bind, Option.bind_eq_some_iff, Option.pure_def, Option.some.injEq] at h
    obtain ⟨x, hx, ys, hys, rfl⟩ := h
    obtain ⟨h1, h2⟩ := mapM_get hys
    refine ⟨by simp [h1], fun i b hb => ?_⟩
    cases i with
    | zero => simp at hb; subst hb; simpa using hx
    | succ i => simp at hb; simpa using h2 i b hb
theorem cells_at {w : World} {base : Nat} {a : Addr} {n : Nat} {cs : List Value} (h : w.cells? base a n = some cs) : cs.length = n ∧ ∀ j, j < n → w.cell? (a.add j) = cs[j]? := by
  unfold World.cells? at h
  split at h
  · obtain ⟨h1, h2⟩ := mapM_get h
    exact ⟨by simpa using h1, fun j hj => h2 j j (by simp [hj])⟩
  · cases h
theorem add_add (a : Addr) (i j : Nat) (v : Value) (w : World) (h : w.cell? ((a.add i).add j) = some v) : w.cell? (a.add (i + j)) = some v := by
  unfold Addr.add at h ⊢
  by_cases hi : i = 0
  · subst hi; simpa using h
  · by_cases hj : j = 0
    · subst hj; simpa [hi] using h
    · have : i + j ≠ 0 := by omega
      simp only [hi, hj, this, if_false] at h ⊢
      rw [← h]; congr 2; omega
theorem exists_list {α : Type} {p : Nat → α → Prop} : ∀ (n : Nat), (∀ i, i < n → ∃ x, p i x) → ∃ l : List α, l.length = n ∧ ∀ (i : Nat) (x : α), l[i]? = some x → p i x
  | 0, _ => ⟨[], rfl, fun i x h => by simp at h⟩
  | n + 1, h => by
    obtain ⟨l, h1, h2⟩ := exists_list n fun i hi => h i (by omega)
    obtain ⟨x, hx⟩ := h n (by omega)
    refine ⟨l ++ [x], by simp [h1], fun i y hy => ?_⟩
    rw [List.getElem?_append] at hy
    split at hy
    · exact h2 i y hy
    · have : i = n := by
        have := (List.getElem?_eq_some_iff.1 hy).1
        simp at this; omega
      subst this
      simp [h1] at hy; subst hy; exact hx
theorem cell_lt {w : World} {a : Addr} {v : Value} (h : w.cell? a = some v) : a.block < w.heap.size := by
  unfold World.cell? at h
  split at h
  · rename_i hb; exact lt_of_row hb
  · cases h

section
variable {H : Type} {enc : TypeId × Value → H} {P : Program} {K : Wd} {base : Nat} {spare : Nat → Bool} {held : Bool}

/-- The whole memory is frozen. -/
def Old (K : Wd) : Prop := ∀ b o, b < K.w.heap.size → K.Z b o

theorem opened {S : List TypeId} (hS : okS P S = true) (hK : Old K) : ∀ (fuel : Nat) (t : TypeId) (cs : List Value) (x : DataW H × List MemPlace), t ∈ S → DataW.trod enc P K.w base spare held fuel t cs = some x →
    ∃ xs, AT P fuel t xs ∧ CR K 0 xs cs := by
  intro fuel
  induction fuel with
  | zero => intro t cs x _ h; simp [DataW.trod] at h
  | succ n ih =>
    intro t cs x ht h
    have hok := List.all_eq_true.1 hS t ht
    have fields : ∀ (ts : List (TypeId × Nat)) (cs : List Value) (o : Nat), (∀ q ∈ ts, q.1 ∈ S ∧ q.2 = P.cellsOf q.1) → (∀ q ∈ ts, True) → cs.length = o + (ts.map (·.2)).sum →
        (∀ i q, ts[i]? = some q → ∃ y, DataW.trod enc P K.w base spare held n q.1 ((cs.drop (o + ((ts.take i).map (·.2)).sum)).take q.2) = some y) → ∃ xs, ATl (AT P n) (ts.map (·.1)) xs ∧ CR K 0 xs (cs.drop o) := by
      intro ts
      induction ts with
      | nil =>
        intro cs o _ _ hl _
        refine ⟨[], rfl, ?_⟩
        rw [List.drop_of_length_le (by simp at hl; omega)]; exact .nil _ _
      | cons q ts ihs =>
        intro cs o hq hu hl hf
        obtain ⟨y, hy⟩ := hf 0 q rfl
        simp only [List.take_zero, List.map_nil, List.sum_nil, Nat.add_zero] at hy
        obtain ⟨ys, h1, h2⟩ := ih _ _ _ (hq q List.mem_cons_self).1 hy
        obtain ⟨zs, h3, h4⟩ := ihs cs (o + q.2) (fun r hr => hq r (List.mem_cons_of_mem _ hr)) (fun _ _ => trivial) (by rw [hl]; simp; omega) (fun i r hr => by
          obtain ⟨y', hy'⟩ := hf (i + 1) r (by simpa using hr)
          refine ⟨y', ?_⟩
          rw [← hy']
          simp only [List.take_succ_cons, List.map_cons, List.sum_cons, Nat.add_assoc])
        refine ⟨ys ++ zs, ⟨ys, zs, rfl, h1, h3⟩, ?_⟩
        have : cs.drop o = (cs.drop o).take q.2 ++ cs.drop (o + q.2) := by
          rw [← List.drop_drop, List.take_append_drop]
        rw [this]
        exact h2.append h4
    simp only [AT]
    cases hu : P.underlying t with
    | none => simp [hu] at hok
    | some d =>
      simp only [hu] at hok
      cases d <;> simp only at hok <;> first | (cases hok; done) | skip
      case bool =>
        obtain ⟨b, rfl, rfl⟩ := DataW.trod_bool hu h
        exact ⟨[.bool b], ⟨b, rfl⟩, .single (.bool b) rfl⟩
      case int k =>
        obtain ⟨i, rfl, rfl, hw⟩ := DataW.trod_int hu h
        exact ⟨[.int k i], ⟨i, rfl, hw⟩, .single (.int k i) rfl⟩
      case string =>
        obtain ⟨s, rfl, rfl, hw⟩ := DataW.trod_string hu h
        exact ⟨[.str s.data.toList], ⟨_, rfl, by simpa using hw⟩, .single (.str _ s rfl) rfl⟩
      case pointer e =>
        have he : e ∈ S := by simpa using hok
        rcases DataW.trod_pointer hu h with ⟨rfl, rfl⟩ | ⟨a, cs', y, m, hm, rfl, rfl, hc, hy⟩
        · exact ⟨[.nilP], .inl rfl, .single .nilP rfl⟩
        · obtain rfl : m = n := by omega
          obtain ⟨ys, h1, h2⟩ := ih e cs' y he hy
          obtain ⟨h3, h4⟩ := cells_at hc
          refine ⟨[.fp ys], .inr ⟨ys, rfl, h1⟩, .single (.fp ys a (fun k => cs'.getD k undef) h2.one (fun k hk => ?_) fun j x hx => ?_) rfl⟩
          · have hkl : k < cs'.length := by rw [h2.len]; exact hk
            have := h4 k (by omega)
            rw [List.getElem?_eq_getElem hkl] at this
            refine ⟨by simp only [this, List.getD_eq_getElem?_getD, List.getElem?_eq_getElem hkl, Option.getD_some], hK _ _ ?_⟩
            exact cell_lt this
          · have hj := (List.getElem?_eq_some_iff.1 hx).1
            have hjl : j < cs'.length := by rw [h2.len]; exact hj
            refine h2.at_ j x _ hx ?_
            simp only [List.getD_eq_getElem?_getD, List.getElem?_eq_getElem hjl, Option.getD_some]
      case slice e =>
        have he : e ∈ S := by simpa using hok
        rcases DataW.trod_slice hu h with ⟨rfl, rfl⟩ | ⟨a, len, cap, elems, rest, m, hm, rfl, hx, _, hlc, hcap, hlen, hel, _, _⟩
        · exact ⟨[.lst (P.cellsOf e) []], ⟨[], rfl, by simp, fun x hx => by simp at hx⟩, .single (.lst0 _ _ _ _ _ rfl rfl fun _ => rfl) rfl⟩
        · obtain rfl : m = n := by omega
          obtain ⟨es, h1, h2⟩ := exists_list (α := List AV) (p := fun i xs => AT P m e xs ∧ ∃ cs, K.w.cells? base (a.add (i * P.cellsOf e)) (P.cellsOf e) = some cs ∧ CR K 0 xs cs) len fun i hi => by
            have h3 := hel i hi
            have hy : elems[i]? = some (elems[i]'(by omega)) := List.getElem?_eq_getElem (by omega)
            rw [hy] at h3
            obtain ⟨cs, h4, h5⟩ := Option.bind_eq_some_iff.1 h3
            obtain ⟨xs, h6, h7⟩ := ih e cs _ he h5
            exact ⟨xs, h6, cs, h4, h7⟩
          have hlenE : ∀ (i : Nat) (x : List AV), es[i]? = some x → x.length = P.cellsOf e := fun i x hx => by
            obtain ⟨_, cs, h4, h5⟩ := h2 i x hx
            rw [← h5.len]; exact (cells_at h4).1
          refine ⟨[.lst (P.cellsOf e) es], ⟨es, rfl, by omega, fun x hx => ?_⟩, .single ?_ rfl⟩
          · obtain ⟨i, hi⟩ := List.getElem?_of_mem hx
            exact ⟨hlenE i x hi, (h2 i x hi).1⟩
          · refine .lst _ es a len cap (fun k => (K.w.cell? (a.add k)).getD undef) h1.symm hlc hcap hlenE (fun i x hx j y hy => ?_) (fun k hk => ?_) fun i x hx j y hy => ?_
            · obtain ⟨_, cs, h4, h5⟩ := h2 i x hx
              exact h5.one j y hy
            · have hpos : 0 < P.cellsOf e := by
                rcases Nat.eq_zero_or_pos (P.cellsOf e) with h | h
                · rw [h] at hk; simp at hk
                · exact h
              have hi : k / P.cellsOf e < len := by rw [Nat.div_lt_iff_lt_mul hpos]; exact hk
              have hx : es[k / P.cellsOf e]? = some (es[k / P.cellsOf e]'(by omega)) := List.getElem?_eq_getElem (by omega)
              obtain ⟨_, cs, h4, h5⟩ := h2 _ _ hx
              obtain ⟨h6, h7⟩ := cells_at h4
              have hmod : k % P.cellsOf e < P.cellsOf e := Nat.mod_lt _ hpos
              have h8 := h7 (k % P.cellsOf e) hmod
              rw [List.getElem?_eq_getElem (by omega)] at h8
              have h9 := add_add _ _ _ _ _ h8
              rw [Nat.mul_comm, Nat.div_add_mod] at h9
              exact ⟨by rw [h9]; rfl, hK _ _ (cell_lt h9)⟩
            · obtain ⟨_, cs, h4, h5⟩ := h2 i x hx
              obtain ⟨h6, h7⟩ := cells_at h4
              have hj := (List.getElem?_eq_some_iff.1 hy).1
              have hjl : j < cs.length := by rw [h5.len]; exact hj
              have h8 := h7 j (by omega)
              rw [List.getElem?_eq_getElem hjl] at h8
              have h9 := add_add _ _ _ _ _ h8
              rw [h9]
              exact h5.at_ j y _ hy (List.getElem?_eq_getElem hjl)
      case struct fs =>
        simp only [Bool.and_eq_true, List.all_eq_true, beq_iff_eq] at hok
        obtain ⟨hmem, htile⟩ := hok
        obtain ⟨ys, m, hm, rfl, hl, hyl, hf⟩ := DataW.trod_struct hu h
        obtain rfl : m = n := by omega
        have off : ∀ (l : List Field) (o r : Nat), tiles P o l = some r → r = o + (l.map fun f => P.cellsOf f.type).sum ∧ ∀ i f, l[i]? = some f → f.offset = o + ((l.take i).map fun f => P.cellsOf f.type).sum := by
          intro l
          induction l with
          | nil => intro o r h; simp only [tiles, Option.some.injEq] at h; subst h; exact ⟨by simp, fun i f h => by simp at h⟩
          | cons f l ihl =>
            intro o r h
            simp only [tiles] at h
            split at h
            · rename_i ho
              obtain ⟨h1, h2⟩ := ihl _ _ h
              refine ⟨by rw [h1]; simp; omega, fun i g hg => ?_⟩
              cases i with
              | zero => simp at hg; subst hg; simpa using ho
              | succ i => rw [h2 i g (by simpa using hg)]; simp; omega
            · cases h
        obtain ⟨h1, h2⟩ := off fs.toList 0 _ htile
        have hmm : ∀ (l : List Field), (l.map fun f => (f.type, P.cellsOf f.type)).map (·.1) = l.map (·.type) := fun l => by simp
        obtain ⟨xs, h3, h4⟩ := fields (fs.toList.map fun f => (f.type, P.cellsOf f.type)) cs 0 (fun q hq => by
            obtain ⟨f, hf, rfl⟩ := List.mem_map.1 hq
            exact ⟨by simpa using hmem f hf, rfl⟩) (fun _ _ => trivial) (by rw [hl, h1, List.map_map]; rfl) (fun i q hq => by
            rw [List.getElem?_map] at hq
            cases hfi : fs.toList[i]? with
            | none => rw [hfi] at hq; cases hq
            | some f =>
              rw [hfi] at hq
              simp only [Option.map_some, Option.some.injEq] at hq; subst hq
              have hfi' : fs[i]? = some f := by simpa using hfi
              have h5 := hf i f hfi'
              have hlt : i < ys.length := by rw [hyl]; exact (Array.getElem?_eq_some_iff.1 hfi').1
              rw [List.getElem?_eq_getElem hlt] at h5
              refine ⟨ys[i], ?_⟩
              rw [← h5, h2 i f hfi, ← List.map_take, List.map_map]; rfl)
        rw [hmm] at h3
        exact ⟨xs, h3, by simpa using h4⟩
      case array m e =>
        simp only [Bool.and_eq_true, beq_iff_eq] at hok
        obtain ⟨hmem, hsz⟩ := hok
        obtain ⟨ys, m', hm, rfl, hl, hyl, hf⟩ := DataW.trod_array hu h
        obtain rfl : m' = n := by omega
        have hsum : ∀ k, ((List.replicate k (e, P.cellsOf e)).map (·.2)).sum = k * P.cellsOf e := fun k => by simp
        obtain ⟨xs, h3, h4⟩ := fields (List.replicate m (e, P.cellsOf e)) cs 0 (fun q hq => by
            obtain ⟨_, rfl⟩ := List.mem_replicate.1 hq
            exact ⟨by simpa using hmem, rfl⟩) (fun _ _ => trivial) (by rw [hl, hsz, hsum]; omega) (fun i q hq => by
            have hi : i < m := by have := (List.getElem?_eq_some_iff.1 hq).1; simpa using this
            have : q = (e, P.cellsOf e) := (List.mem_replicate.1 (List.mem_of_getElem? hq)).2
            subst this
            have h5 := hf i hi
            rw [List.getElem?_eq_getElem (by omega)] at h5
            refine ⟨ys[i]'(by omega), ?_⟩
            rw [← h5, List.take_replicate, hsum, Nat.min_eq_left (by omega), Nat.zero_add])
        refine ⟨xs, ?_, by simpa using h4⟩
        simpa using h3

/-- The world before a call, all of it frozen. -/
def wd0 (W : World) : Wd := { w := W, m := fun _ => 0, Z := fun b _ => b < W.heap.size, lo := W.heap.size }
theorem Old.wd0 (W : World) : Old (wd0 W) := fun b o h => h
theorem Good.wd0 (W : World) : Good W (wd0 W) [] 0 := ⟨fun b o hb => by simp [hget] at hb, fun b b' o o' hb => by simp [hget] at hb, Below.refl _ _, fun b off h => h, rfl⟩

/-- An argument that is no struct and no array. -/
theorem arg_one {S : List TypeId} (hS : okS P S = true) {W : World} {t : TypeId} {v : Value} {d : DataW H} {p : List MemPlace} (ht : t ∈ S) (hone : ∀ c, v ≠ .agg c) (h : DataW.Trod enc P W base spare held t v d p) :
    ∃ n x, AT P n t [x] ∧ VR (wd0 W) 0 x v := by
  obtain ⟨fuel, hf⟩ := h
  obtain ⟨xs, h1, h2⟩ := opened (K := wd0 W) hS (Old.wd0 W) fuel t _ _ ht hf
  have hc : v.cells.toList = [v] := by cases v <;> first | rfl | exact absurd rfl (hone _)
  rw [hc] at h2
  have hl := h2.len
  match xs, hl with
  | [x], _ => exact ⟨fuel, x, h1, h2.at_ 0 x v rfl rfl⟩
theorem arg_agg {S : List TypeId} (hS : okS P S = true) {W : World} {t : TypeId} {c : Array Value} {d : DataW H} {p : List MemPlace} (ht : t ∈ S) (h : DataW.Trod enc P W base spare held t (.agg c) d p) :
    ∃ n xs, AT P n t xs ∧ VR (wd0 W) 0 (.agg xs) (.agg c) := by
  obtain ⟨fuel, hf⟩ := h
  obtain ⟨xs, h1, h2⟩ := opened (K := wd0 W) hS (Old.wd0 W) fuel t _ _ ht hf
  exact ⟨fuel, xs, h1, h2.toAgg'⟩

/-- All arguments read behind a call as they read before, when the call has left the old memory alone. -/
theorem below_all (hl : laidOutB P = true) {W W' : World} (hb : Below W.heap.size W W') : ∀ (ts : List TypeId) (vs : List Value) (ds : List (DataW H)) (ps : List MemPlace), ts.all (fun t => P.readableRec t && decide (t < P.types.size)) = true →
    DataW.TrodAll enc P W 0 (fun _ => true) true ts vs ds ps → DataW.TrodAll enc P W' 0 (fun b => decide (b < W.heap.size)) true ts vs ds ps
  | [], [], [], ps, _, h => h
  | t :: ts, v :: vs, d :: ds, ps, hr, ⟨p, q, h1, h2, h3⟩ => by
    simp only [List.all_cons, Bool.and_eq_true, decide_eq_true_eq] at hr
    refine ⟨p, q, Below.trod hl hr.1.1 hr.1.2 h1 hb (by obtain ⟨m, hm⟩ := h1; exact DataW.trod_lt m _ _ _ hm), below_all hl hb ts vs ds q hr.2 h2, h3⟩
  | [], _ :: _, _, _, _, h => by simp [DataW.TrodAll] at h
  | [], [], _ :: _, _, _, h => by simp [DataW.TrodAll] at h
  | _ :: _, [], _, _, _, h => by simp [DataW.TrodAll] at h
  | _ :: _, _ :: _, [], _, _, h => by simp [DataW.TrodAll] at h

theorem argR_nil {K : Wd} {nx : Nat} : ArgR K nx [] #[] := ⟨rfl, fun i x v hx => by simp at hx⟩
theorem argR_cons {K : Wd} {nx : Nat} {x : AV} {xs : List AV} {v : Value} {vs : List Value} (h : VR K nx x v) (hr : ArgR K nx xs vs.toArray) : ArgR K nx (x :: xs) (v :: vs).toArray := by
  refine ⟨by have := hr.1; simp at this ⊢; exact this, fun i y u hy hu => ?_⟩
  cases i with
  | zero => simp at hy hu; subst hy; subst hu; exact h
  | succ i => exact hr.2 i y u (by simpa using hy) (by simpa using hu)

/-- From a contract of the law's function to the call. -/
theorem law_calls {f : FuncId} {xs : List AV} {W : World} {args : Array Value} (hc : AC P f xs [] 0 fun y _ _ => y = .ret (.bool true)) (ha : ArgR (wd0 W) 0 xs args) : Calls P f args W fun e W' => e = .returned (.bool true) ∧ Below W.heap.size W W' := by
  refine (hc.2 W (wd0 W) args (Good.wd0 W) ha).mono ?_
  rintro e w' ⟨K', h', nx', y, rfl, hext, hgood, her, rfl⟩
  cases e <;> simp only [AER] at her
  cases her
  exact ⟨rfl, hgood.below⟩
end
end Go.Ab
