/- More on slices of the call's own: several at once, cells of rows, arguments that may be nil. -/
import Derived.Test.YtdmjloieldhlnaaCore25
namespace Go.Ab
open Go.RowKit
set_option linter.unusedVariables false
set_option linter.unusedSimpArgs false

/-- The block of a slice of the call's own. -/
def blkOf : AV → Option Nat
  | .os b _ _ _ _ => some b
  | _ => none
def apart (x y : AV) : Prop := ∀ b, blkOf x = some b → blkOf y = some b → False
theorem apart.symm {x y : AV} (h : apart x y) : apart y x := fun b h1 h2 => h b h2 h1
theorem OwnSl.blk {e sz : Nat} {h : Heap} {nx : Nat} {x : AV} {es : List (List AV)} (ho : OwnSl e sz h nx x es) {b : Nat} (hb : blkOf x = some b) : x = .os b 0 e sz es.length ∧ hget h b = some (.cells es.flatten) ∧ b < nx := by
  rcases ho with ⟨rfl, rfl⟩ | ⟨b', rfl, h1, h2⟩
  · simp [blkOf] at hb
  · simp [blkOf] at hb; subst hb; exact ⟨rfl, h1, h2⟩
/-- What keeps the block keeps the slice. -/
theorem OwnSl.keep {e sz : Nat} {h h' : Heap} {nx nx' : Nat} {x : AV} {es : List (List AV)} (ho : OwnSl e sz h nx x es) (hle : nx ≤ nx') (hk : ∀ b o, blkOf x = some b → hget h b = some o → hget h' b = some o) : OwnSl e sz h' nx' x es := by
  rcases ho with ho | ⟨b, rfl, h1, h2⟩
  · exact .inl ho
  · exact .inr ⟨b, rfl, hk b _ rfl h1, by omega⟩
theorem OwnSl.back {e sz : Nat} {h h' : Heap} {nx nx' : Nat} {x : AV} {es : List (List AV)} (ho : OwnSl e sz h nx x es) (hle : nx ≤ nx') (hd : ∀ c o, hget h c = some o → hget h' c = none) : OwnSl e sz (h' ++ h) nx' x es :=
  ho.keep hle fun b o hb hg => by rw [hget_append, hd b o hg]; exact hg
theorem OwnSl.apart_new {e sz e' sz' : Nat} {h h' : Heap} {nx n' : Nat} {x y : AV} {es es' : List (List AV)} (ho : OwnSl e sz h nx x es) (hn : OwnSl e' sz' h' n' y es') (hd : ∀ c o, hget h c = some o → hget h' c = none) : apart x y := fun b h1 h2 => by
  obtain ⟨_, h3, _⟩ := ho.blk h1
  obtain ⟨_, h4, _⟩ := hn.blk h2
  rw [hd b _ h3] at h4; cases h4
theorem apart_ne {x : AV} {b e sz : Nat} (h : ∀ b', blkOf x = some b' → b' ≠ b) : ∀ y, x ≠ .os b 0 e sz y := by
  rintro y rfl
  exact h b rfl rfl

theorem flat_put {sz : Nat} : ∀ (es : List (List AV)) (i off : Nat) (v : AV) (r : List AV), (∀ z ∈ es, z.length = sz) → es[i]? = some r → off < sz → (es.set i (r.set off v)).flatten = es.flatten.set (i * sz + off) v
  | [], i, off, v, r, _, hi, _ => by simp at hi
  | z :: es, 0, off, v, r, hs, hr, ho => by
    have hz := hs z (by simp)
    simp at hr; subst hr
    simp only [List.set_cons_zero, List.flatten_cons, Nat.zero_mul, Nat.zero_add]
    rw [List.set_append_left _ _ (by omega)]
  | z :: es, i + 1, off, v, r, hs, hr, ho => by
    have hz := hs z (by simp)
    have ih := flat_put es i off v r (fun y hy => hs y (by simp [hy])) (by simpa using hr) ho
    simp only [List.set_cons_succ, List.flatten_cons, ih]
    rw [List.set_append_right _ _ (by rw [hz, Nat.succ_mul]; omega)]
    congr 2
    rw [hz, Nat.succ_mul]; omega
theorem splice_one (cs : List AV) (k : Nat) (v : AV) (hk : k < cs.length) : splice cs k [v] = cs.set k v := by
  simp only [splice, List.length_cons, List.length_nil, Nat.zero_add]
  rw [List.set_eq_take_append_cons_drop, if_pos hk]; rfl
/-- A cell of an element is set. -/
theorem OwnSl.put {e sz : Nat} {h : Heap} {nx : Nat} {x : AV} {es : List (List AV)} (ho : OwnSl e sz h nx x es) (hs : ∀ z ∈ es, z.length = sz) {i off : Nat} {r : List AV} (hr : es[i]? = some r) (hoff : off < sz) (v : AV) :
    ∃ b o h', idxA sz x (i : Int) = some (.op b o) ∧ storeH h (.op b (o + off)) [v] = some h' ∧ OwnSl e sz h' nx x (es.set i (r.set off v)) ∧ ∀ c a, hget h c = some a → (∀ b', blkOf x = some b' → b' ≠ c) → hget h' c = some a := by
  have hi := (List.getElem?_eq_some_iff.1 hr).1
  rcases ho with ⟨rfl, rfl⟩ | ⟨b, rfl, hb, hlt⟩
  · simp at hi
  · have hfl : es.flatten.length = es.length * sz := flat_len hs
    have hle : i * sz + sz ≤ es.length * sz := by
      have := Nat.mul_le_mul_right sz (show i + 1 ≤ es.length by omega)
      rw [Nat.add_mul, Nat.one_mul] at this; exact this
    refine ⟨b, 0 + i * sz, hset h b (.cells (splice es.flatten (0 + i * sz + off) [v])), ?_, ?_, .inr ⟨b, by simp, ?_, hlt⟩, fun c a hc hne => ?_⟩
    · have : (i : Int) < (es.length : Int) := by omega
      simp [idxA, this]
    · simp only [storeH, hb]
      rw [if_pos (by show 0 + i * sz + off + 1 ≤ _; omega)]
    · rw [hget_hset, if_pos rfl, flat_put es i off v r hs hr hoff, Nat.zero_add, splice_one _ _ _ (by omega)]
    · rw [hget_hset, if_neg]
      · exact hc
      · intro e; exact hne b rfl e
theorem put_len {sz : Nat} {es : List (List AV)} (hs : ∀ z ∈ es, z.length = sz) {i off : Nat} {r : List AV} (hr : es[i]? = some r) (v : AV) : ∀ y ∈ es.set i (r.set off v), y.length = sz := fun y hy => by
  rcases List.mem_or_eq_of_mem_set hy with h | h
  · exact hs y h
  · subst h; rw [List.length_set]; exact hs r (List.mem_of_getElem? hr)

/-- A cell of an element is read. -/
theorem OwnSl.cell {e sz : Nat} {h : Heap} {nx : Nat} {x : AV} {es : List (List AV)} (ho : OwnSl e sz h nx x es) (hs : ∀ z ∈ es, z.length = sz) {i off : Nat} {r : List AV} {c : AV} (hr : es[i]? = some r) (hc : r[off]? = some c) :
    ∃ b o rest, idxA sz x (i : Int) = some (.op b o) ∧ ptrCells h (.op b (o + off)) = some (c :: rest) := by
  have hi := (List.getElem?_eq_some_iff.1 hr).1
  rcases ho with ⟨rfl, rfl⟩ | ⟨b, rfl, hb, hlt⟩
  · simp at hi
  · refine ⟨b, 0 + i * sz, es.flatten.drop (0 + i * sz + off + 1), ?_, ?_⟩
    · have : (i : Int) < (es.length : Int) := by omega
      simp [idxA, this]
    · have hat := flat_at hs i r hr off c hc
      simp only [ptrCells, hb]
      congr 1
      rw [Nat.zero_add]
      have hlt := (List.getElem?_eq_some_iff.1 hat).1
      rw [List.drop_eq_getElem_cons hlt]
      congr 1
      exact (List.getElem?_eq_some_iff.1 hat).2
/-- An element is read whole. -/
theorem OwnSl.row {e sz : Nat} {h : Heap} {nx : Nat} {x : AV} {es : List (List AV)} (ho : OwnSl e sz h nx x es) (hs : ∀ z ∈ es, z.length = sz) {i : Nat} {r : List AV} (hr : es[i]? = some r) :
    ∃ b o cs, idxA sz x (i : Int) = some (.op b o) ∧ ptrCells h (.op b o) = some cs ∧ cs.take sz = r := by
  obtain ⟨b, o, h1, cs, h2, h3, _⟩ := ho.idx hs hr
  exact ⟨b, o, cs, h1, h2, h3⟩

/-- An argument without elements: nil, or not. -/
theorem AC.split0 {P : Program} {f : FuncId} {h : Heap} {nx : Nat} {Q : AE → Heap → Nat → Prop} {sz : Nat} (pre post : List AV) (h1 : AC P f (pre ++ .nilS :: post) h nx Q) (h2 : AC P f (pre ++ .ne0 :: post) h nx Q) : AC P f (pre ++ .lst sz [] :: post) h nx Q := by
  refine ⟨h1.1, fun w0 K args hg ha => ?_⟩
  have hlen := ha.1
  have hi : pre.length < args.size := by rw [hlen]; simp
  have hv := ha.2 pre.length (.lst sz []) args[pre.length] (by simp) (Array.getElem?_eq_getElem hi)
  have key : ∀ x, VR K nx x args[pre.length] → ArgR K nx (pre ++ x :: post) args := by
    intro x hx
    refine ⟨by rw [hlen]; simp, fun i y v hy hv => ?_⟩
    by_cases h : i = pre.length
    · subst h
      simp at hy; subst hy
      rw [Array.getElem?_eq_getElem hi] at hv; injection hv with hv; subst hv
      exact hx
    · refine ha.2 i y v ?_ hv
      rw [← hy, List.getElem?_append, List.getElem?_append]
      split
      · rfl
      · obtain ⟨j, hj⟩ : ∃ j, i - pre.length = j + 1 := ⟨i - pre.length - 1, by omega⟩
        rw [hj]; rfl
  generalize args[pre.length] = u at hv key
  cases hv with
  | lst0 _ _ A n cap h0 hn hA =>
    subst hn
    cases A with
    | none =>
      obtain rfl := hA rfl
      exact h1.2 w0 K args hg (key _ .nilS)
    | some a => exact h2.2 w0 K args hg (key _ (.ne0 a cap))
  | lst _ _ a n cap c hn hc hcap hsz _ hr _ =>
    simp at hn; subst hn
    exact h2.2 w0 K args hg (key _ (.ne0 a cap))
end Go.Ab
