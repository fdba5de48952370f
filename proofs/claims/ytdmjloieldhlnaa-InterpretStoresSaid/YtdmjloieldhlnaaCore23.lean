/- Slices that a call has made: what is appended to them, and arguments that are frozen. -/
import Derived.Test.YtdmjloieldhlnaaCore21
namespace Go.Ab
open Go.RowKit
set_option linter.unusedVariables false
set_option linter.unusedSimpArgs false

/-- A slice of the call's own with these elements, or none. -/
def OwnSl (e sz : Nat) (h : Heap) (nx : Nat) (x : AV) (es : List (List AV)) : Prop :=
  (x = .nilS ∧ es = []) ∨ ∃ b, x = .os b 0 e sz es.length ∧ hget h b = some (.cells es.flatten) ∧ b < nx

theorem OwnSl.mono {e sz : Nat} {h : Heap} {nx nx' : Nat} {x : AV} {es : List (List AV)} (ho : OwnSl e sz h nx x es) (hle : nx ≤ nx') : OwnSl e sz h nx' x es := by
  rcases ho with ho | ⟨b, h1, h2, h3⟩
  · exact .inl ho
  · exact .inr ⟨b, h1, h2, by omega⟩
theorem OwnSl.front {e sz : Nat} {h' h : Heap} {nx : Nat} {x : AV} {es : List (List AV)} (ho : OwnSl e sz h' nx x es) : OwnSl e sz (h' ++ h) nx x es := by
  rcases ho with ho | ⟨b, h1, h2, h3⟩
  · exact .inl ho
  · exact .inr ⟨b, h1, by rw [hget_append, h2]; rfl, h3⟩
theorem OwnSl.len {e sz : Nat} {h : Heap} {nx : Nat} {x : AV} {es : List (List AV)} (ho : OwnSl e sz h nx x es) : lenA x = some es.length := by
  rcases ho with ⟨rfl, rfl⟩ | ⟨b, rfl, _, _⟩ <;> rfl
theorem OwnSl.frz {e sz : Nat} {h : Heap} {nx : Nat} {x : AV} {es : List (List AV)} (ho : OwnSl e sz h nx x es) (hs : ∀ z ∈ es, z.length = sz) : ∃ h', Frz h x h' (.lst sz es) := by
  rcases ho with ⟨rfl, rfl⟩ | ⟨b, rfl, hb, _⟩
  · exact ⟨h, Frz.nilS h sz⟩
  · exact ⟨hdel h b, Frz.os hb hs rfl⟩
theorem OwnSl.frz2 {e sz : Nat} {h : Heap} {nx : Nat} {x : AV} {es : List (List AV)} (ho : OwnSl e sz h nx x es) (hs : ∀ z ∈ es, z.length = sz) : ∃ h', Frz h x h' (.lst sz es) ∧ ∀ c o, hget h c = some o → (∀ y, x ≠ .os c 0 e sz y) → hget h' c = some o := by
  rcases ho with ⟨rfl, rfl⟩ | ⟨b, rfl, hb, _⟩
  · exact ⟨h, Frz.nilS h sz, fun c o hc _ => hc⟩
  · refine ⟨hdel h b, Frz.os hb hs rfl, fun c o hc hne => ?_⟩
    rw [hget_hdel, if_neg]
    · exact hc
    · intro e; subst e; exact hne _ rfl
theorem OwnSl.idx {e sz : Nat} {h : Heap} {nx : Nat} {x : AV} {es : List (List AV)} (ho : OwnSl e sz h nx x es) (hs : ∀ z ∈ es, z.length = sz) {i : Nat} {r : List AV} (hr : es[i]? = some r) :
    ∃ b off, idxA sz x (i : Int) = some (.op b off) ∧ ∃ cs, ptrCells h (.op b off) = some cs ∧ cs.take sz = r ∧ ∀ (j : Nat), j < sz → cs[j]? = r[j]? := by
  have hi := (List.getElem?_eq_some_iff.1 hr).1
  rcases ho with ⟨rfl, rfl⟩ | ⟨b, rfl, hb, _⟩
  · simp at hi
  · have hp : ptrCells h (.op b (0 + i * sz)) = some (es.flatten.drop (0 + i * sz)) := by simp only [ptrCells, hb]
    refine ⟨b, 0 + i * sz, ?_, es.flatten.drop (0 + i * sz), hp, ?_, fun j hj => ?_⟩
    · have : (i : Int) < (es.length : Int) := by omega
      simp [idxA, this]
    · have hrl := hs r (List.mem_of_getElem? hr)
      apply List.ext_getElem?
      intro j
      rw [List.getElem?_take, List.getElem?_drop]
      split
      · rename_i hj
        have : r[j]? = some (r[j]'(by omega)) := List.getElem?_eq_getElem (by omega)
        rw [this, Nat.zero_add]
        exact flat_at hs i r hr j _ this
      · rw [List.getElem?_eq_none (by omega)]
    · have hrl := hs r (List.mem_of_getElem? hr)
      have : r[j]? = some (r[j]'(by omega)) := List.getElem?_eq_getElem (by omega)
      rw [List.getElem?_drop, this, Nat.zero_add]
      exact flat_at hs i r hr j _ this

theorem OwnSl.app {e sz bytes : Nat} {h : Heap} {nx : Nat} {x : AV} {es ns : List (List AV)} (ho : OwnSl e sz h nx x es) (hs : ∀ z ∈ es, z.length = sz) (hn : ∀ z ∈ ns, z.length = sz)
    (h1 : (es.length + ns.length) * bytes ≤ 140737488355328) (h2 : es.length + ns.length ≤ maxLen) :
    ∃ x' h' n', appA e sz bytes h nx x (.lst sz ns) = some (x', h', n') ∧ OwnSl e sz h' n' x' (es ++ ns) ∧ nx ≤ n' ∧ (∀ c o, c < nx → hget h c = some o → (∀ y, x ≠ .os c 0 e sz y) → hget h' c = some o) ∧ ∀ c y, x' = .os c 0 e sz y → nx ≤ c ∨ ∃ y', x = .os c 0 e sz y' := by
  have hsc : sliceCells h (.lst sz ns) = some (ns.length, ns.flatten) := rfl
  have hsz : slSz (.lst sz ns) sz = true := by simp [slSz]
  have hf : (es ++ ns).flatten = es.flatten ++ ns.flatten := by simp
  rcases ho with ⟨rfl, rfl⟩ | ⟨b, rfl, hb, hlt⟩
  · simp only [List.length_nil, Nat.zero_add] at h1 h2
    simp only [appA, hsc, hsz, if_true]
    by_cases h0 : ns.length = 0
    · rw [if_pos h0]
      exact ⟨_, _, _, rfl, .inl ⟨rfl, by simpa using h0⟩, Nat.le_refl _, fun c o _ hc _ => hc, fun c y h => by cases h⟩
    · rw [if_neg h0, if_pos ⟨h1, h2⟩]
      refine ⟨_, _, _, rfl, .inr ⟨nx, by simp, by simp [hget_cons], by omega⟩, by omega, fun c o hlt hc _ => ?_, fun c y h => by cases h; exact .inl (Nat.le_refl _)⟩
      rw [hget_cons, if_neg (by omega)]; exact hc
  · simp only [appA, hsc, hsz, if_true, hb]
    rw [if_pos ⟨trivial, trivial, trivial, flat_len hs, h1, h2⟩]
    by_cases h0 : ns.length = 0
    · rw [if_pos h0]
      have : ns = [] := by simpa using h0
      subst this
      exact ⟨_, _, _, rfl, .inr ⟨b, by simp, by simpa using hb, hlt⟩, Nat.le_refl _, fun c o _ hc _ => hc, fun c y h => .inr ⟨y, h⟩⟩
    · rw [if_neg h0]
      refine ⟨_, _, _, rfl, .inr ⟨nx, by simp, by simp [hget_cons], by omega⟩, by omega, fun c o hlt hc hne => ?_, fun c y h => by cases h; exact .inl (Nat.le_refl _)⟩
      rw [hget_cons, if_neg (by omega), hget_hdel, if_neg]
      · exact hc
      · intro e; subst e; exact hne _ rfl

/-- A function that hands back a slice of its own. -/
theorem AC.own {P : Program} {f : FuncId} {xs : List AV} {e sz : Nat} {es : List (List AV)} (hc : ∀ nx, AC P f xs [] nx fun y h' n' => ∃ v, y = .ret v ∧ OwnSl e sz h' n' v es) (h : Heap) (nx : Nat) :
    AC P f xs h nx fun y h'' n' => ∃ v h', y = .ret v ∧ h'' = h' ++ h ∧ nx ≤ n' ∧ (∀ c o, hget h c = some o → hget h' c = none) ∧ OwnSl e sz h' n' v es :=
  ((hc nx).frame h).mono fun y h'' n' ⟨h', e1, e2, e3, v, e4, e5⟩ => ⟨v, h', e4, e1, e2, e3, e5⟩
/-- The same, frozen. -/
theorem Pure.own {P : Program} {f : FuncId} {xs : List AV} {e sz : Nat} {es : List (List AV)} (hs : ∀ x ∈ es, x.length = sz) (hc : ∀ nx, AC P f xs [] nx fun y h' n' => ∃ v, y = .ret v ∧ OwnSl e sz h' n' v es) : Pure P f xs (.lst sz es) :=
  Pure.of fun nx => AC.frz ((hc nx).mono fun y h' n' ⟨v, e1, ho⟩ => by
    subst e1
    obtain ⟨h2, hf⟩ := ho.frz hs
    exact ⟨h2, _, hf, rfl⟩)

theorem Frz.trans {h h1 h2 : Heap} {x x1 x2 : AV} (f1 : Frz h x h1 x1) (f2 : Frz h1 x1 h2 x2) : Frz h x h2 x2 := fun w0 K nx v g hv => by
  obtain ⟨K1, a1, a2, a3, a4⟩ := f1 w0 K nx v g hv
  obtain ⟨K2, b1, b2, b3, b4⟩ := f2 w0 K1 nx v a3 a4
  exact ⟨K2, b1.trans a1, a2.trans b2, b3, b4⟩
/-- Less is known of a block: its first cells. -/
theorem Good.short {w0 : World} {K : Wd} {h : Heap} {nx b : Nat} {cs rest : List AV} (g : Good w0 K h nx) (hb : hget h b = some (.cells (cs ++ rest))) : Good w0 K (hset h b (.cells cs)) nx := by
  have old : ∀ k o, hget (hset h b (.cells cs)) k = some o → ∃ o', hget h k = some o' := by
    intro k o hk
    rw [hget_hset] at hk
    split at hk
    · rename_i e; subst e; exact ⟨_, hb⟩
    · exact ⟨o, hk⟩
  refine ⟨fun k o hk => ?_, fun k k' o o' hk hk' e => ?_, g.below, g.zin, g.lo⟩
  · rw [hget_hset] at hk
    split at hk
    · rename_i e; subst e
      injection hk with hk; subst hk
      obtain ⟨h1, h2, h3, ob, h4, h5⟩ := g.live _ _ hb
      refine ⟨h1, h2, h3, ob, h4, ?_⟩
      cases h5 with
      | cells _ c e hs h1 hc =>
        refine .cells cs c e (by simp at hs; omega) (fun i x hx => h1 i x ?_) fun i x v hx hv => hc i x v ?_ hv
        · rw [List.getElem?_append_left (List.getElem?_eq_some_iff.1 hx).1]; exact hx
        · rw [List.getElem?_append_left (List.getElem?_eq_some_iff.1 hx).1]; exact hx
    · exact g.live k o hk
  · obtain ⟨p, hp⟩ := old k o hk
    obtain ⟨q, hq⟩ := old k' o' hk'
    exact g.inj k k' p q hp hq e
theorem Frz.short {h : Heap} {b : Nat} {cs rest : List AV} (hb : hget h b = some (.cells (cs ++ rest))) (x : AV) : Frz h x (hset h b (.cells cs)) x := fun w0 K nx v g hv => ⟨K, rfl, Ext.refl _ _, g.short hb, hv⟩
/-- The first elements of a block's, frozen. -/
theorem Frz.osP {h : Heap} {b sz n : Nat} {e : TypeId} {es : List (List AV)} {rest : List AV} (hb : hget h b = some (.cells (es.flatten ++ rest))) (hs : ∀ x ∈ es, x.length = sz) (hn : n = es.length) : Frz h (.os b 0 e sz n) (hdel (hset h b (.cells es.flatten)) b) (.lst sz es) :=
  (Frz.short hb _).trans (Frz.os (by rw [hget_hset, if_pos rfl]) hs hn)

section
variable {P : Program} {f : FuncId} {h h' : Heap} {nx : Nat} {Q : AE → Heap → Nat → Prop} {x x' : AV}
/-- An argument is frozen before the call. -/
theorem AC.ice (pre post : List AV) (hf : Frz h x h' x') (hc : AC P f (pre ++ x' :: post) h' nx Q) : AC P f (pre ++ x :: post) h nx Q := by
  refine ⟨hc.1, fun w0 K args hg ha => ?_⟩
  have hlen := ha.1
  have hi : pre.length < args.size := by rw [hlen]; simp
  have hx : (pre ++ x :: post)[pre.length]? = some x := by simp
  obtain ⟨K', e1, e2, e3, e4⟩ := hf w0 K nx args[pre.length] hg (ha.2 _ x _ hx (Array.getElem?_eq_getElem hi))
  have ha' : ArgR K' nx (pre ++ x' :: post) args := by
    refine ⟨by rw [hlen]; simp, fun i y v hy hv => ?_⟩
    by_cases h : i = pre.length
    · subst h
      simp at hy; subst hy
      rw [Array.getElem?_eq_getElem hi] at hv; injection hv with hv; subst hv
      exact e4
    · refine (ha.2 i y v ?_ hv).mono e2
      rw [← hy]
      rw [List.getElem?_append, List.getElem?_append]
      split
      · rfl
      · rename_i h2
        obtain ⟨j, hj⟩ : ∃ j, i - pre.length = j + 1 := ⟨i - pre.length - 1, by omega⟩
        rw [hj]; rfl
  have := hc.2 w0 K' args e3 ha'
  rw [e1] at this
  exact this.mono fun e w' ⟨K2, h2, n2, y, a1, a2, a3, a4, a5⟩ => ⟨K2, h2, n2, y, a1, e2.trans a2, a3, a4, a5⟩
theorem AC.ice0 {r : List AV} (hf : Frz h x h' x') (hc : AC P f (x' :: r) h' nx Q) : AC P f (x :: r) h nx Q := AC.ice [] r hf hc
theorem AC.ice1 {y : AV} {r : List AV} (hf : Frz h x h' x') (hc : AC P f (y :: x' :: r) h' nx Q) : AC P f (y :: x :: r) h nx Q := AC.ice [y] r hf hc
theorem AC.ice2 {y z : AV} {r : List AV} (hf : Frz h x h' x') (hc : AC P f (y :: z :: x' :: r) h' nx Q) : AC P f (y :: z :: x :: r) h nx Q := AC.ice [y, z] r hf hc
end
end Go.Ab
