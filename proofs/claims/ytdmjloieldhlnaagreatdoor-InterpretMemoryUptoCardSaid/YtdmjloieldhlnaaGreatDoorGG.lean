/- What is let in, and how large it is: the second form's bound. -/
import Derived.Test.YtdmjloieldhlnaaGreatDoorGF
import Derived.Test.YtdmjloieldhlnaaGreatDoorRows
import Derived.KernelRfl
namespace Go.Ab
open Go.RowKit Go.ChangeShapes Go.Proofs.YtdmjloieldhlnaaGreatDoor.Rows
set_option linter.unusedVariables false
set_option linter.unusedSimpArgs false
mutual
def avz : AV → Nat
  | .str s => s.length + 1
  | .lst _ es => avzLL es + 1
  | .agg cs => avzL cs + 1
  | .tup cs => avzL cs + 1
  | .fp cs => avzL cs + 1
  | _ => 1
def avzL : List AV → Nat
  | [] => 0
  | x :: r => avz x + avzL r
def avzLL : List (List AV) → Nat
  | [] => 0
  | x :: r => avzL x + avzLL r
end
theorem avzL_app : ∀ a b : List AV, avzL (a ++ b) = avzL a + avzL b
  | [], b => by simp [avzL]
  | x :: a, b => by simp only [List.cons_append, avzL, avzL_app a b]; omega
theorem bulk_all {H : Type} : ∀ (es : List (List AV)) (ps : List (DataW H)), es.length = ps.length → (∀ (i : Nat) x d, es[i]? = some x → ps[i]? = some d → avzL x ≤ uptoBulk d) → avzLL es ≤ uptoBulkAll ps
  | [], _, _, _ => by simp [avzLL]
  | x :: es, [], h, _ => by simp at h
  | x :: es, d :: ps, h, hb => by
    have h1 := hb 0 x d rfl rfl
    have h2 := bulk_all es ps (by simpa using h) fun i y e hy he => hb (i + 1) y e (by simpa using hy) (by simpa using he)
    simp only [avzLL, uptoBulkAll]; omega
section
variable {H : Type} {enc : TypeId × Value → H} {P : Program} {K : Wd} {base : Nat} {spare : Nat → Bool} {held : Bool}
theorem openedU {S : List TypeId} (hS : okS P S = true) (hK : Old K) : ∀ (fuel : Nat) (t : TypeId) (cs : List Value) (x : DataW H × List MemPlace), t ∈ S → DataW.trod enc P K.w base spare held fuel t cs = some x →
    ∃ xs, AT P fuel t xs ∧ CR K 0 xs cs ∧ avzL xs ≤ uptoBulk x.1 := by
  intro fuel
  induction fuel with
  | zero => intro t cs x _ h; simp [DataW.trod] at h
  | succ n ih =>
    intro t cs x ht h
    have hok := List.all_eq_true.1 hS t ht
    have fields : ∀ (ts : List (TypeId × Nat)) (ps : List (DataW H × List MemPlace)) (cs : List Value) (o : Nat), (∀ q ∈ ts, q.1 ∈ S ∧ q.2 = P.cellsOf q.1) → ps.length = ts.length → cs.length = o + (ts.map (·.2)).sum →
        (∀ i q, ts[i]? = some q → DataW.trod enc P K.w base spare held n q.1 ((cs.drop (o + ((ts.take i).map (·.2)).sum)).take q.2) = ps[i]?) → ∃ xs, ATl (AT P n) (ts.map (·.1)) xs ∧ CR K 0 xs (cs.drop o) ∧ avzL xs ≤ uptoBulkAll (ps.map (·.1)) := by
      intro ts
      induction ts with
      | nil =>
        intro ps cs o _ _ hl _
        refine ⟨[], rfl, ?_, by simp [avzL]⟩
        rw [List.drop_of_length_le (by simp at hl; omega)]; exact .nil _ _
      | cons q ts ihs =>
        intro ps cs o hq hu hl hf
        match ps, hu with
        | y :: ps, hu =>
        have hy := hf 0 q rfl
        simp only [List.take_zero, List.map_nil, List.sum_nil, Nat.add_zero, List.getElem?_cons_zero] at hy
        obtain ⟨ys, h1, h2, h2b⟩ := ih _ _ _ (hq q List.mem_cons_self).1 hy
        obtain ⟨zs, h3, h4, h4b⟩ := ihs ps cs (o + q.2) (fun r hr => hq r (List.mem_cons_of_mem _ hr)) (by simpa using hu) (by rw [hl]; simp; omega) (fun i r hr => by
          have hy' := hf (i + 1) r (by simpa using hr)
          rw [List.getElem?_cons_succ] at hy'
          rw [← hy']
          simp only [List.take_succ_cons, List.map_cons, List.sum_cons, Nat.add_assoc])
        refine ⟨ys ++ zs, ⟨ys, zs, rfl, h1, h3⟩, ?_, by rw [avzL_app, List.map_cons, uptoBulkAll]; omega⟩
        have : cs.drop o = (cs.drop o).take q.2 ++ cs.drop (o + q.2) := by
          rw [← List.drop_drop, List.take_append_drop]
        rw [this]
        exact h2.append h4
    simp only [AT]
    cases hu : P.underlying t with
    | none => simp [hu] at hok
    | some d =>
      simp only [hu] at hok
      cases d <;> simp only at hok <;> first | (cases hok; done) | skip
      case bool =>
        obtain ⟨b, rfl, rfl⟩ := DataW.trod_bool hu h
        exact ⟨[.bool b], ⟨b, rfl⟩, .single (.bool b) rfl, by simp [avzL, avz, uptoBulk]⟩
      case int k =>
        obtain ⟨i, rfl, rfl, hw⟩ := DataW.trod_int hu h
        exact ⟨[.int k i], ⟨i, rfl, hw⟩, .single (.int k i) rfl, by simp [avzL, avz, uptoBulk]⟩
      case string =>
        obtain ⟨s, rfl, rfl, hw⟩ := DataW.trod_string hu h
        exact ⟨[.str s.data.toList], ⟨_, rfl, by simpa using hw⟩, .single (.str _ s rfl) rfl, by simp [avzL, avz, uptoBulk]⟩
      case pointer e =>
        have he : e ∈ S := by simpa using hok
        rcases DataW.trod_pointer hu h with ⟨rfl, rfl⟩ | ⟨a, cs', y, m, hm, rfl, rfl, hc, hy⟩
        · exact ⟨[.nilP], .inl rfl, .single .nilP rfl, by simp [avzL, avz, uptoBulk]⟩
        · obtain rfl : m = n := by omega
          obtain ⟨ys, h1, h2, h2b⟩ := ih e cs' y he hy
          obtain ⟨h3, h4⟩ := cells_at hc
          refine ⟨[.fp ys], .inr ⟨ys, rfl, h1⟩, .single (.fp ys a (fun k => cs'.getD k undef) h2.one (fun k hk => ?_) fun j x hx => ?_) rfl, by simp only [avzL, avz, uptoBulk]; omega⟩
          · have hkl : k < cs'.length := by rw [h2.len]; exact hk
            have := h4 k (by omega)
            rw [List.getElem?_eq_getElem hkl] at this
            refine ⟨by simp only [this, List.getD_eq_getElem?_getD, List.getElem?_eq_getElem hkl, Option.getD_some], hK _ _ ?_⟩
            exact cell_lt this
          · have hj := (List.getElem?_eq_some_iff.1 hx).1
            have hjl : j < cs'.length := by rw [h2.len]; exact hj
            refine h2.at_ j x _ hx ?_
            simp only [List.getD_eq_getElem?_getD, List.getElem?_eq_getElem hjl, Option.getD_some]
      case slice e =>
        have he : e ∈ S := by simpa using hok
        rcases DataW.trod_slice hu h with ⟨rfl, rfl⟩ | ⟨a, len, cap, elems, rest, m, hm, rfl, hx, _, hlc, hcap, hlen, hel, _, _⟩
        · exact ⟨[.lst (P.cellsOf e) []], ⟨[], rfl, by simp, fun x hx => by simp at hx⟩, .single (.lst0 _ _ _ _ _ rfl rfl fun _ => rfl) rfl, by simp [avzL, avz, avzLL, uptoBulk]⟩
        · obtain rfl : m = n := by omega
          obtain ⟨es, h1, h2⟩ := exists_list (α := List AV) (p := fun i xs => AT P m e xs ∧ ∃ cs, K.w.cells? base (a.add (i * P.cellsOf e)) (P.cellsOf e) = some cs ∧ CR K 0 xs cs ∧ ∀ d, elems[i]? = some d → avzL xs ≤ uptoBulk d.1) len fun i hi => by
            have h3 := hel i hi
            have hy : elems[i]? = some (elems[i]'(by omega)) := List.getElem?_eq_getElem (by omega)
            rw [hy] at h3
            obtain ⟨cs, h4, h5⟩ := Option.bind_eq_some_iff.1 h3
            obtain ⟨xs, h6, h7, h8⟩ := ih e cs _ he h5
            exact ⟨xs, h6, cs, h4, h7, fun d hd => by rw [hy] at hd; injection hd with hd; subst hd; exact h8⟩
          have hlenE : ∀ (i : Nat) (x : List AV), es[i]? = some x → x.length = P.cellsOf e := fun i x hx => by
            obtain ⟨_, cs, h4, h5, _⟩ := h2 i x hx
            rw [← h5.len]; exact (cells_at h4).1
          have hbk : avzLL es ≤ uptoBulkAll (elems.map (·.1)) := bulk_all es _ (by rw [List.length_map, hlen, h1]) fun i x d hx hd => by
            rw [List.getElem?_map] at hd
            cases hel : elems[i]? with
            | none => rw [hel] at hd; cases hd
            | some y =>
              rw [hel] at hd; simp only [Option.map_some, Option.some.injEq] at hd; subst hd
              obtain ⟨_, _, _, _, h6⟩ := h2 i x hx
              exact h6 y hel
          refine ⟨[.lst (P.cellsOf e) es], ⟨es, rfl, by omega, fun x hx => ?_⟩, .single ?_ rfl, by rw [hx]; simp only [avzL, avz, uptoBulk]; omega⟩
          · obtain ⟨i, hi⟩ := List.getElem?_of_mem hx
            exact ⟨hlenE i x hi, (h2 i x hi).1⟩
          · refine .lst _ es a len cap (fun k => (K.w.cell? (a.add k)).getD undef) h1.symm hlc hcap hlenE (fun i x hx j y hy => ?_) (fun k hk => ?_) fun i x hx j y hy => ?_
            · obtain ⟨_, cs, h4, h5, _⟩ := h2 i x hx
              exact h5.one j y hy
            · have hpos : 0 < P.cellsOf e := by
                rcases Nat.eq_zero_or_pos (P.cellsOf e) with h | h
                · rw [h] at hk; simp at hk
                · exact h
              have hi : k / P.cellsOf e < len := by rw [Nat.div_lt_iff_lt_mul hpos]; exact hk
              have hx : es[k / P.cellsOf e]? = some (es[k / P.cellsOf e]'(by omega)) := List.getElem?_eq_getElem (by omega)
              obtain ⟨_, cs, h4, h5, _⟩ := h2 _ _ hx
              obtain ⟨h6, h7⟩ := cells_at h4
              have hmod : k % P.cellsOf e < P.cellsOf e := Nat.mod_lt _ hpos
              have h8 := h7 (k % P.cellsOf e) hmod
              rw [List.getElem?_eq_getElem (by omega)] at h8
              have h9 := add_add _ _ _ _ _ h8
              rw [Nat.mul_comm, Nat.div_add_mod] at h9
              exact ⟨by rw [h9]; rfl, hK _ _ (cell_lt h9)⟩
            · obtain ⟨_, cs, h4, h5, _⟩ := h2 i x hx
              obtain ⟨h6, h7⟩ := cells_at h4
              have hj := (List.getElem?_eq_some_iff.1 hy).1
              have hjl : j < cs.length := by rw [h5.len]; exact hj
              have h8 := h7 j (by omega)
              rw [List.getElem?_eq_getElem hjl] at h8
              have h9 := add_add _ _ _ _ _ h8
              rw [h9]
              exact h5.at_ j y _ hy (List.getElem?_eq_getElem hjl)
      case struct fs =>
        simp only [Bool.and_eq_true, List.all_eq_true, beq_iff_eq] at hok
        obtain ⟨hmem, htile⟩ := hok
        obtain ⟨ys, m, hm, rfl, hl, hyl, hf⟩ := DataW.trod_struct hu h
        obtain rfl : m = n := by omega
        have off : ∀ (l : List Field) (o r : Nat), tiles P o l = some r → r = o + (l.map fun f => P.cellsOf f.type).sum ∧ ∀ i f, l[i]? = some f → f.offset = o + ((l.take i).map fun f => P.cellsOf f.type).sum := by
          intro l
          induction l with
          | nil => intro o r h; simp only [tiles, Option.some.injEq] at h; subst h; exact ⟨by simp, fun i f h => by simp at h⟩
          | cons f l ihl =>
            intro o r h
            simp only [tiles] at h
            split at h
            · rename_i ho
              obtain ⟨h1, h2⟩ := ihl _ _ h
              refine ⟨by rw [h1]; simp; omega, fun i g hg => ?_⟩
              cases i with
              | zero => simp at hg; subst hg; simpa using ho
              | succ i => rw [h2 i g (by simpa using hg)]; simp; omega
            · cases h
        obtain ⟨h1, h2⟩ := off fs.toList 0 _ htile
        have hmm : ∀ (l : List Field), (l.map fun f => (f.type, P.cellsOf f.type)).map (·.1) = l.map (·.type) := fun l => by simp
        obtain ⟨xs, h3, h4, h4b⟩ := fields (fs.toList.map fun f => (f.type, P.cellsOf f.type)) ys cs 0 (fun q hq => by
            obtain ⟨f, hf, rfl⟩ := List.mem_map.1 hq
            exact ⟨by simpa using hmem f hf, rfl⟩) (by rw [List.length_map, hyl]; simp) (by rw [hl, h1, List.map_map]; rfl) (fun i q hq => by
            rw [List.getElem?_map] at hq
            cases hfi : fs.toList[i]? with
            | none => rw [hfi] at hq; cases hq
            | some f =>
              rw [hfi] at hq
              simp only [Option.map_some, Option.some.injEq] at hq; subst hq
              have hfi' : fs[i]? = some f := by simpa using hfi
              have h5 := hf i f hfi'
              rw [← h5, h2 i f hfi, ← List.map_take, List.map_map]; rfl)
        rw [hmm] at h3
        exact ⟨xs, h3, by simpa using h4, by simp only [uptoBulk]; omega⟩
      case array m e =>
        simp only [Bool.and_eq_true, beq_iff_eq] at hok
        obtain ⟨hmem, hsz⟩ := hok
        obtain ⟨ys, m', hm, rfl, hl, hyl, hf⟩ := DataW.trod_array hu h
        obtain rfl : m' = n := by omega
        have hsum : ∀ k, ((List.replicate k (e, P.cellsOf e)).map (·.2)).sum = k * P.cellsOf e := fun k => by simp
        obtain ⟨xs, h3, h4, h4b⟩ := fields (List.replicate m (e, P.cellsOf e)) ys cs 0 (fun q hq => by
            have : q = (e, P.cellsOf e) := (List.mem_replicate.1 hq).2
            subst this
            exact ⟨by simpa using hmem, rfl⟩) (by rw [List.length_replicate]; exact hyl) (by rw [hl, hsz, hsum]; omega) (fun i q hq => by
            have hi : i < m := by have := (List.getElem?_eq_some_iff.1 hq).1; simpa using this
            have : q = (e, P.cellsOf e) := (List.mem_replicate.1 (List.mem_of_getElem? hq)).2
            subst this
            have h5 := hf i hi
            rw [← h5, List.take_replicate, hsum, Nat.min_eq_left (by omega), Nat.zero_add])
        refine ⟨xs, ?_, by simpa using h4, by simp only [uptoBulk]; omega⟩
        simpa using h3
theorem arg_oneU {S : List TypeId} (hS : okS P S = true) {W : World} {t : TypeId} {v : Value} {d : DataW H} {p : List MemPlace} (ht : t ∈ S) (hone : ∀ c, v ≠ .agg c) (h : DataW.Trod enc P W base spare held t v d p) :
    ∃ n x, AT P n t [x] ∧ VR (wd0 W) 0 x v ∧ avz x ≤ uptoBulk d := by
  obtain ⟨fuel, hf⟩ := h
  obtain ⟨xs, h1, h2, h3⟩ := openedU (K := wd0 W) hS (Old.wd0 W) fuel t _ _ ht hf
  have hc : v.cells.toList = [v] := by cases v <;> first | rfl | exact absurd rfl (hone _)
  rw [hc] at h2
  have hl := h2.len
  match xs, hl with
  | [x], _ => exact ⟨fuel, x, h1, h2.at_ 0 x v rfl rfl, by simpa [avzL] using h3⟩
end
end Go.Ab
namespace Go.Proofs.YtdmjloieldhlnaaGreatDoor
open Go Go.Ab Go.Proofs
set_option maxRecDepth 100000
def XA8 : ACode :=
  (.seq (.region [⟨(some 4), none, .op (.box (.tmp 0))⟩,
      ⟨(some 8), none, .op (.alloc [.nilS, (.int .u8 0), (.int .u64 0), .nilS])⟩,
      ⟨(some 9), none, .op (.move (.const (.int .i64 0)))⟩])
    (.seq (.seq (.region [⟨(some 11), none, .op (.load 1 true (.tmp 4))⟩,
      ⟨(some 12), none, .call (.func 19) [(.tmp 11)]⟩,
      ⟨(some 10), none, .op (.move (.tmp 12))⟩])
    (.seq (.region [⟨(some 13), none, .op (.move (.tmp 10))⟩,
      ⟨(some 14), none, .op (.bin .neq (.tmp 13) (.const (.int .i64 0)))⟩])
    (.cond (.tmp 14) (.seq (.region [⟨(some 15), none, .op (.build [.nilS, (.int .u8 0), (.int .u64 0), .nilS] [])⟩,
      ⟨(some 16), none, .op (.move (.tmp 10))⟩,
      ⟨none, none, .op (.store 4 (.tmp 8) (.tmp 15))⟩,
      ⟨(some 9), none, .op (.move (.tmp 16))⟩])
    .ret) .skip)))
    (.seq (.region [⟨(some 17), none, .op (.load 1 true (.tmp 4))⟩,
      ⟨(some 18), none, .op (.move (.tmp 1))⟩,
      ⟨(some 19), none, .op (.move (.tmp 2))⟩,
      ⟨(some 20), none, .op (.move (.tmp 3))⟩,
      ⟨(some 21), none, .call (.func 26) [(.tmp 17), (.const (.int .i64 0)), (.tmp 18), (.tmp 19), (.tmp 20)]⟩,
      ⟨(some 22), none, .op (.ext (.tmp 21) 0)⟩,
      ⟨(some 23), none, .op (.ext (.tmp 21) 1)⟩,
      ⟨none, none, .op (.store 4 (.tmp 8) (.tmp 22))⟩,
      ⟨(some 9), none, .op (.move (.tmp 23))⟩])
    .ret)))
def XR8 : List RV := [.cell 8 4 true, .tmp 9]
theorem Xis8 : Is Tryz.prog (fun _ _ => false) 8 24 XA8 XR8 := ⟨Tryz.f8, Tryz.func8, rfl, by kernel_rfl, by kernel_rfl, Tryz.call8⟩
def fi8 : FI := .code 24 XA8 XR8
theorem ok8 : FI.ok Tryz.prog 8 fi8 := ⟨_, Xis8⟩
def XA9 : ACode :=
  (.seq (.region [⟨(some 0), none, .op (.alloc [.nilS])⟩])
    (.seq (.region [⟨(some 2), none, .call (.func 27) [(.const (.int .i64 8)), (.const (.int .u64 7))]⟩,
      ⟨(some 3), none, .op (.buildF [(.int .u8 0), (.int .i64 0), (.int .u64 0), (.str []), (.int .i64 0), .nilS] 1 [(0, (.tmp 2))])⟩,
      ⟨(some 4), none, .op (.build [(.int .u8 0), (.str []), (.str []), .nilS] [(0, 1, (.const (.int .u8 4))), (3, 1, (.tmp 3))])⟩,
      ⟨(some 5), none, .call (.func 27) [(.const (.int .i64 8)), (.const (.int .u64 3))]⟩,
      ⟨(some 6), none, .call (.func 27) [(.const (.int .i64 32)), (.const (.int .u64 5))]⟩,
      ⟨(some 7), none, .op (.buildF [(.int .u8 0), (.int .i64 0), (.int .u64 0), (.str []), (.int .i64 0), .nilS] 2 [(0, (.tmp 5)), (1, (.tmp 6))])⟩,
      ⟨(some 8), none, .op (.build [(.int .u8 0), (.str []), (.str []), .nilS] [(0, 1, (.const (.int .u8 2))), (3, 1, (.tmp 7))])⟩,
      ⟨(some 9), none, .op (.buildF [(.int .u8 0), (.str []), (.str []), .nilS] 2 [(0, (.tmp 4)), (1, (.tmp 8))])⟩,
      ⟨(some 10), none, .call (.func 27) [(.const (.int .i64 8)), (.const (.int .u64 1))]⟩,
      ⟨(some 11), none, .op (.buildF [(.int .u8 0), (.int .i64 0), (.int .u64 0), (.str []), (.int .i64 0), .nilS] 1 [(0, (.tmp 10))])⟩,
      ⟨(some 12), none, .op (.build [(.int .u8 0), (.str []), .nilS, .nilS] [(0, 1, (.const (.int .u8 7))), (2, 1, (.tmp 11))])⟩,
      ⟨(some 13), none, .op (.build [.nilS, (.int .u8 0), (.str []), .nilS, .nilS] [(0, 1, (.tmp 9)), (1, 4, (.tmp 12))])⟩,
      ⟨(some 1), none, .op (.alloc [.nilS, (.int .u8 0), (.str []), .nilS, .nilS])⟩,
      ⟨none, none, .op (.store 5 (.tmp 1) (.tmp 13))⟩])
    (.seq (.region [⟨(some 14), none, .op (.load 5 true (.tmp 1))⟩,
      ⟨(some 15), none, .op (.buildF [.nilS, (.int .u8 0), (.str []), .nilS, .nilS] 1 [(0, (.tmp 14))])⟩,
      ⟨(some 16), none, .op (.build [(.str []), .nilS, (.int .i64 0), .nilS, .nilS] [(0, 1, (.const (.string ⟨#[109, 97, 105, 110]⟩))), (2, 1, (.const (.int .i64 8))), (4, 1, (.tmp 15))])⟩,
      ⟨(some 17), none, .op (.buildF [(.str []), .nilS, (.int .i64 0), .nilS, .nilS] 1 [(0, (.tmp 16))])⟩,
      ⟨(some 18), none, .op (.build [.nilS] [(0, 1, (.tmp 17))])⟩,
      ⟨none, none, .op (.store 1 (.tmp 0) (.tmp 18))⟩])
    .ret)))
def XR9 : List RV := [.cell 0 1 true]
theorem Xis9 : Is Tryz.prog (fun _ _ => false) 9 19 XA9 XR9 := ⟨Tryz.f9, Tryz.func9, rfl, by kernel_rfl, by kernel_rfl, Tryz.call9⟩
def fi9 : FI := .code 19 XA9 XR9
theorem ok9 : FI.ok Tryz.prog 9 fi9 := ⟨_, Xis9⟩
def XA10 : ACode :=
  (.seq (.region [⟨(some 5), none, .op (.box (.tmp 0))⟩,
      ⟨(some 10), none, .op (.alloc [.nilS, (.int .u8 0), (.int .u64 0), .nilS])⟩,
      ⟨(some 11), none, .op (.move (.const (.int .i64 0)))⟩])
    (.seq (.seq (.region [⟨(some 15), none, .op (.load 1 true (.tmp 5))⟩,
      ⟨(some 16), none, .call (.func 19) [(.tmp 15)]⟩,
      ⟨(some 12), none, .op (.move (.tmp 16))⟩])
    (.seq (.region [⟨(some 17), none, .op (.move (.tmp 12))⟩,
      ⟨(some 18), none, .op (.bin .neq (.tmp 17) (.const (.int .i64 0)))⟩])
    (.cond (.tmp 18) (.seq (.region [⟨(some 19), none, .op (.build [.nilS, (.int .u8 0), (.int .u64 0), .nilS] [])⟩,
      ⟨(some 20), none, .op (.move (.tmp 12))⟩,
      ⟨none, none, .op (.store 4 (.tmp 10) (.tmp 19))⟩,
      ⟨(some 11), none, .op (.move (.tmp 20))⟩])
    .ret) .skip)))
    (.seq (.region [⟨(some 22), none, .op (.load 1 true (.tmp 5))⟩,
      ⟨(some 23), none, .op (.move (.tmp 1))⟩,
      ⟨(some 24), none, .call (.func 20) [(.tmp 22), (.tmp 23)]⟩,
      ⟨(some 21), none, .op (.move (.tmp 24))⟩,
      ⟨(some 25), none, .op (.ext (.tmp 21) 0)⟩,
      ⟨(some 26), none, .op (.ext (.tmp 21) 1)⟩,
      ⟨(some 13), none, .op (.move (.tmp 25))⟩,
      ⟨(some 14), none, .op (.move (.tmp 26))⟩])
    (.seq (.seq (.region [⟨(some 27), none, .op (.move (.tmp 14))⟩,
      ⟨(some 28), none, .op (.bin .neq (.tmp 27) (.const (.int .i64 0)))⟩])
    (.cond (.tmp 28) (.seq (.region [⟨(some 29), none, .op (.build [.nilS, (.int .u8 0), (.int .u64 0), .nilS] [])⟩,
      ⟨(some 30), none, .op (.move (.tmp 14))⟩,
      ⟨none, none, .op (.store 4 (.tmp 10) (.tmp 29))⟩,
      ⟨(some 11), none, .op (.move (.tmp 30))⟩])
    .ret) .skip))
    (.seq (.region [⟨(some 31), none, .op (.load 1 true (.tmp 5))⟩,
      ⟨(some 32), none, .op (.move (.tmp 13))⟩,
      ⟨(some 33), none, .op (.move (.tmp 2))⟩,
      ⟨(some 34), none, .op (.move (.tmp 3))⟩,
      ⟨(some 35), none, .op (.move (.tmp 4))⟩,
      ⟨(some 36), none, .call (.func 26) [(.tmp 31), (.tmp 32), (.tmp 33), (.tmp 34), (.tmp 35)]⟩,
      ⟨(some 37), none, .op (.ext (.tmp 36) 0)⟩,
      ⟨(some 38), none, .op (.ext (.tmp 36) 1)⟩,
      ⟨none, none, .op (.store 4 (.tmp 10) (.tmp 37))⟩,
      ⟨(some 11), none, .op (.move (.tmp 38))⟩])
    .ret)))))
def XR10 : List RV := [.cell 10 4 true, .tmp 11]
theorem Xis10 : Is Tryz.prog (fun _ _ => false) 10 39 XA10 XR10 := ⟨Tryz.f10, Tryz.func10, rfl, by kernel_rfl, by kernel_rfl, Tryz.call10⟩
def fi10 : FI := .code 39 XA10 XR10
theorem ok10 : FI.ok Tryz.prog 10 fi10 := ⟨_, Xis10⟩
def XA11l0 : ACode :=
  (.seq (.seq (.region [⟨(some 38), none, .op (.move (.tmp 11))⟩,
      ⟨(some 39), none, .op (.move (.tmp 2))⟩,
      ⟨(some 40), none, .op (.bin .lss (.tmp 38) (.tmp 39))⟩])
    (.cond (.tmp 40) .skip (.exit 0)))
    (.seq (.block 1 (.seq (.region [⟨(some 43), none, .op (.move (.tmp 1))⟩,
      ⟨(some 44), none, .op (.move (.tmp 11))⟩,
      ⟨(some 45), none, .op (.bin .quo (.tmp 44) (.const (.int .i64 8)))⟩,
      ⟨(some 46), none, .op (.conv .u64 (.tmp 45))⟩,
      ⟨(some 47), none, .op (.bin .add (.tmp 43) (.tmp 46))⟩,
      ⟨(some 48), none, .op (.bin .and (.tmp 47) (.const (.int .u64 4294967295)))⟩,
      ⟨(some 12), none, .op (.move (.tmp 48))⟩])
    (.seq (.region [⟨(some 49), none, .op (.move (.tmp 3))⟩,
      ⟨(some 50), none, .op (.move (.tmp 11))⟩,
      ⟨(some 51), none, .op (.bin .shr (.tmp 49) (.tmp 50))⟩,
      ⟨(some 52), none, .op (.conv .u8 (.tmp 51))⟩,
      ⟨(some 13), none, .op (.move (.tmp 52))⟩])
    (.seq (.region [⟨(some 54), none, .op (.move (.tmp 10))⟩,
      ⟨(some 55), none, .op (.move (.tmp 12))⟩,
      ⟨(some 56), none, .call (.func 32) [(.tmp 54), (.tmp 55), (.func 33)]⟩,
      ⟨(some 53), none, .op (.move (.tmp 56))⟩,
      ⟨(some 57), none, .op (.ext (.tmp 53) 0)⟩,
      ⟨(some 58), none, .op (.ext (.tmp 53) 1)⟩,
      ⟨(some 14), none, .op (.move (.tmp 57))⟩,
      ⟨(some 15), none, .op (.move (.tmp 58))⟩])
    (.block 2 (.seq (.region [⟨(some 60), none, .op (.move (.tmp 15))⟩,
      ⟨(some 61), none, .op (.move (.tmp 60))⟩,
      ⟨(some 62), (some (61, true)), .op (.move (.tmp 13))⟩,
      ⟨(some 63), (some (61, true)), .op (.bin .eql (.tmp 62) (.const (.int .u8 0)))⟩,
      ⟨(some 64), none, .op (.pick (.tmp 61) (.tmp 63) (.const (.bool false)))⟩,
      ⟨(some 59), none, .op (.move (.tmp 64))⟩])
    (.cond (.tmp 59) (.region [⟨(some 65), none, .op (.move (.tmp 10))⟩,
      ⟨(some 66), none, .op (.move (.tmp 14))⟩,
      ⟨(some 67), none, .op (.move (.tmp 14))⟩,
      ⟨(some 68), none, .op (.bin .add (.tmp 67) (.const (.int .i64 1)))⟩,
      ⟨(some 69), none, .call (.func 34) [(.tmp 65), (.tmp 66), (.tmp 68)]⟩,
      ⟨(some 10), none, .op (.move (.tmp 69))⟩]) (.seq (.region [⟨(some 71), none, .op (.move (.tmp 15))⟩,
      ⟨(some 70), none, .op (.move (.tmp 71))⟩])
    (.cond (.tmp 70) (.region [⟨(some 72), none, .op (.move (.tmp 10))⟩,
      ⟨(some 73), none, .op (.move (.tmp 14))⟩,
      ⟨(some 74), none, .op (.move (.tmp 13))⟩,
      ⟨(some 75), none, .op (.idxA 2 (.tmp 72) (.tmp 73))⟩,
      ⟨(some 76), none, .op (.fieldA 1 (.tmp 75))⟩,
      ⟨none, none, .op (.store 1 (.tmp 76) (.tmp 74))⟩]) (.seq (.region [⟨(some 78), none, .op (.move (.tmp 13))⟩,
      ⟨(some 79), none, .op (.bin .neq (.tmp 78) (.const (.int .u8 0)))⟩,
      ⟨(some 77), none, .op (.move (.tmp 79))⟩])
    (.cond (.tmp 77) (.region [⟨(some 80), none, .op (.move (.tmp 10))⟩,
      ⟨(some 81), none, .op (.move (.tmp 14))⟩,
      ⟨(some 82), none, .op (.move (.tmp 12))⟩,
      ⟨(some 83), none, .op (.move (.tmp 13))⟩,
      ⟨(some 84), none, .op (.build [(.int .u64 0), (.int .u8 0)] [(0, 1, (.tmp 82)), (1, 1, (.tmp 83))])⟩,
      ⟨(some 85), none, .op (.buildF [(.int .u64 0), (.int .u8 0)] 1 [(0, (.tmp 84))])⟩,
      ⟨(some 86), none, .call (.func 35) [(.tmp 80), (.tmp 81), (.tmp 85)]⟩,
      ⟨(some 10), none, .op (.move (.tmp 86))⟩]) .skip)))))))))))
    (.region [⟨(some 41), none, .op (.move (.tmp 11))⟩,
      ⟨(some 42), none, .op (.bin .add (.tmp 41) (.const (.int .i64 8)))⟩,
      ⟨(some 11), none, .op (.move (.tmp 42))⟩])))
def XA11 : ACode :=
  (.seq (.region [⟨(some 8), none, .op (.move (.const (.slice none 0 0)))⟩,
      ⟨(some 9), none, .op (.move (.const (.int .i64 0)))⟩])
    (.seq (.seq (.region [⟨(some 16), none, .op (.move (.tmp 0))⟩,
      ⟨(some 17), none, .call (.func 28) [(.tmp 16)]⟩,
      ⟨(some 18), none, .op (.un .not (.tmp 17))⟩,
      ⟨(some 19), none, .op (.move (.tmp 18))⟩,
      ⟨(some 20), (some (19, false)), .op (.move (.tmp 1))⟩,
      ⟨(some 21), (some (19, false)), .call (.func 29) [(.tmp 20), (.const (.int .i64 32))]⟩,
      ⟨(some 22), (some (19, false)), .op (.un .not (.tmp 21))⟩,
      ⟨(some 23), none, .op (.pick (.tmp 19) (.const (.bool true)) (.tmp 22))⟩,
      ⟨(some 24), none, .op (.move (.tmp 23))⟩,
      ⟨(some 25), (some (24, false)), .op (.buildF [(.int .i64 0)] 4 [(0, (.const (.int .i64 8))), (1, (.const (.int .i64 16))), (2, (.const (.int .i64 32))), (3, (.const (.int .i64 64)))])⟩,
      ⟨(some 26), (some (24, false)), .op (.move (.tmp 2))⟩,
      ⟨(some 27), (some (24, false)), .call (.func 30) [(.tmp 25), (.tmp 26)]⟩,
      ⟨(some 28), (some (24, false)), .op (.un .not (.tmp 27))⟩,
      ⟨(some 29), none, .op (.pick (.tmp 24) (.const (.bool true)) (.tmp 28))⟩,
      ⟨(some 30), none, .op (.move (.tmp 29))⟩,
      ⟨(some 31), (some (30, false)), .op (.move (.tmp 3))⟩,
      ⟨(some 32), (some (30, false)), .op (.move (.tmp 2))⟩,
      ⟨(some 33), (some (30, false)), .call (.func 29) [(.tmp 31), (.tmp 32)]⟩,
      ⟨(some 34), (some (30, false)), .op (.un .not (.tmp 33))⟩,
      ⟨(some 35), none, .op (.pick (.tmp 30) (.const (.bool true)) (.tmp 34))⟩])
    (.cond (.tmp 35) (.seq (.region [⟨(some 8), none, .op (.move (.const (.slice none 0 0)))⟩,
      ⟨(some 9), none, .op (.move (.const (.int .i64 2)))⟩])
    .ret) .skip))
    (.seq (.region [⟨(some 36), none, .op (.move (.tmp 0))⟩,
      ⟨(some 37), none, .call (.func 31) [(.tmp 36)]⟩,
      ⟨(some 10), none, .op (.move (.tmp 37))⟩])
    (.seq (.seq (.region [⟨(some 11), none, .op (.move (.const (.int .i64 0)))⟩])
    (.block 0 (.loop XA11l0)))
    (.seq (.seq (.region [⟨(some 87), none, .op (.move (.tmp 10))⟩,
      ⟨(some 88), none, .op (.len (.tmp 87))⟩,
      ⟨(some 89), none, .op (.bin .gtr (.tmp 88) (.const (.int .i64 4096)))⟩])
    (.cond (.tmp 89) (.seq (.region [⟨(some 8), none, .op (.move (.const (.slice none 0 0)))⟩,
      ⟨(some 9), none, .op (.move (.const (.int .i64 20)))⟩])
    .ret) .skip))
    (.seq (.region [⟨(some 90), none, .op (.move (.tmp 10))⟩,
      ⟨(some 8), none, .op (.move (.tmp 90))⟩,
      ⟨(some 9), none, .op (.move (.const (.int .i64 0)))⟩])
    .ret))))))
def XR11 : List RV := [.tmp 8, .tmp 9]
theorem Xis11 : Is Tryz.prog (fun _ _ => false) 11 91 XA11 XR11 := ⟨Tryz.f11, Tryz.func11, rfl, by kernel_rfl, by kernel_rfl, Tryz.call11⟩
def fi11 : FI := .code 91 XA11 XR11
theorem ok11 : FI.ok Tryz.prog 11 fi11 := ⟨_, Xis11⟩
def XA13 : ACode :=
  (.seq (.region [⟨(some 0), none, .op (.move (.const (.bool false)))⟩])
    (.seq (.region [⟨(some 7), none, .call (.func 9) []⟩,
      ⟨(some 8), none, .call (.func 8) [(.tmp 7), (.const (.slice none 0 0)), (.const (.slice none 0 0)), (.const (.int .i64 3))]⟩,
      ⟨(some 6), none, .op (.move (.tmp 8))⟩,
      ⟨(some 9), none, .op (.ext (.tmp 6) 0)⟩,
      ⟨(some 10), none, .op (.ext (.tmp 6) 1)⟩,
      ⟨(some 1), none, .op (.alloc [.nilS, (.int .u8 0), (.int .u64 0), .nilS])⟩,
      ⟨none, none, .op (.store 4 (.tmp 1) (.tmp 9))⟩,
      ⟨(some 2), none, .op (.move (.tmp 10))⟩])
    (.seq (.region [⟨(some 12), none, .call (.func 9) []⟩,
      ⟨(some 13), none, .call (.func 10) [(.tmp 12), (.const (.string ⟨#[109, 97, 105, 110]⟩)), (.const (.slice none 0 0)), (.const (.slice none 0 0)), (.const (.int .i64 2))]⟩,
      ⟨(some 11), none, .op (.move (.tmp 13))⟩,
      ⟨(some 14), none, .op (.ext (.tmp 11) 0)⟩,
      ⟨(some 15), none, .op (.ext (.tmp 11) 1)⟩,
      ⟨(some 3), none, .op (.alloc [.nilS, (.int .u8 0), (.int .u64 0), .nilS])⟩,
      ⟨none, none, .op (.store 4 (.tmp 3) (.tmp 14))⟩,
      ⟨(some 4), none, .op (.move (.tmp 15))⟩])
    (.seq (.region [⟨(some 16), none, .op (.fieldA 0 (.tmp 1))⟩,
      ⟨(some 17), none, .op (.load 1 false (.tmp 16))⟩,
      ⟨(some 18), none, .op (.len (.tmp 17))⟩,
      ⟨(some 19), none, .op (.bin .eql (.tmp 18) (.const (.int .i64 1)))⟩,
      ⟨(some 20), none, .op (.move (.tmp 19))⟩,
      ⟨(some 21), (some (20, true)), .op (.fieldA 0 (.tmp 1))⟩,
      ⟨(some 22), (some (20, true)), .op (.load 1 false (.tmp 21))⟩,
      ⟨(some 23), (some (20, true)), .op (.idxA 1 (.tmp 22) (.const (.int .i64 0)))⟩,
      ⟨(some 24), (some (20, true)), .op (.load 1 false (.tmp 23))⟩,
      ⟨(some 25), (some (20, true)), .op (.bin .eql (.tmp 24) (.const (.int .u64 7)))⟩,
      ⟨(some 26), none, .op (.pick (.tmp 20) (.tmp 25) (.const (.bool false)))⟩,
      ⟨(some 27), none, .op (.move (.tmp 26))⟩,
      ⟨(some 28), (some (27, true)), .op (.fieldA 3 (.tmp 1))⟩,
      ⟨(some 29), (some (27, true)), .op (.load 1 false (.tmp 28))⟩,
      ⟨(some 30), (some (27, true)), .op (.len (.tmp 29))⟩,
      ⟨(some 31), (some (27, true)), .op (.bin .eql (.tmp 30) (.const (.int .i64 1)))⟩,
      ⟨(some 32), none, .op (.pick (.tmp 27) (.tmp 31) (.const (.bool false)))⟩,
      ⟨(some 33), none, .op (.move (.tmp 32))⟩,
      ⟨(some 34), (some (33, true)), .op (.fieldA 3 (.tmp 1))⟩,
      ⟨(some 35), (some (33, true)), .op (.load 1 false (.tmp 34))⟩,
      ⟨(some 36), (some (33, true)), .op (.idxA 2 (.tmp 35) (.const (.int .i64 0)))⟩,
      ⟨(some 37), (some (33, true)), .op (.load 2 true (.tmp 36))⟩,
      ⟨(some 38), (some (33, true)), .op (.build [(.int .u64 0), (.int .u8 0)] [(0, 1, (.const (.int .u64 5))), (1, 1, (.const (.int .u8 3)))])⟩,
      ⟨(some 39), (some (33, true)), .op (.eqS false [.int, .int] (.tmp 37) (.tmp 38))⟩,
      ⟨(some 40), none, .op (.pick (.tmp 33) (.tmp 39) (.const (.bool false)))⟩,
      ⟨(some 41), none, .op (.move (.tmp 40))⟩,
      ⟨(some 42), (some (41, true)), .op (.fieldA 0 (.tmp 1))⟩,
      ⟨(some 43), (some (41, true)), .op (.load 1 false (.tmp 42))⟩,
      ⟨(some 44), (some (41, true)), .op (.fieldA 0 (.tmp 3))⟩,
      ⟨(some 45), (some (41, true)), .op (.load 1 false (.tmp 44))⟩,
      ⟨(some 46), (some (41, true)), .call (.func 37) [(.tmp 43), (.tmp 45)]⟩,
      ⟨(some 47), none, .op (.pick (.tmp 41) (.tmp 46) (.const (.bool false)))⟩,
      ⟨(some 48), none, .op (.move (.tmp 47))⟩,
      ⟨(some 49), (some (48, true)), .op (.fieldA 3 (.tmp 1))⟩,
      ⟨(some 50), (some (48, true)), .op (.load 1 false (.tmp 49))⟩,
      ⟨(some 51), (some (48, true)), .op (.fieldA 3 (.tmp 3))⟩,
      ⟨(some 52), (some (48, true)), .op (.load 1 false (.tmp 51))⟩,
      ⟨(some 53), (some (48, true)), .call (.func 18) [(.tmp 50), (.tmp 52)]⟩,
      ⟨(some 54), none, .op (.pick (.tmp 48) (.tmp 53) (.const (.bool false)))⟩,
      ⟨(some 5), none, .op (.move (.tmp 54))⟩])
    (.seq (.region [⟨(some 55), none, .op (.move (.tmp 2))⟩,
      ⟨(some 56), none, .op (.bin .eql (.tmp 55) (.const (.int .i64 0)))⟩,
      ⟨(some 57), none, .op (.move (.tmp 56))⟩,
      ⟨(some 58), (some (57, true)), .op (.move (.tmp 4))⟩,
      ⟨(some 59), (some (57, true)), .op (.bin .eql (.tmp 58) (.const (.int .i64 0)))⟩,
      ⟨(some 60), none, .op (.pick (.tmp 57) (.tmp 59) (.const (.bool false)))⟩,
      ⟨(some 61), none, .op (.move (.tmp 60))⟩,
      ⟨(some 62), (some (61, true)), .op (.move (.tmp 5))⟩,
      ⟨(some 63), none, .op (.pick (.tmp 61) (.tmp 62) (.const (.bool false)))⟩,
      ⟨(some 64), none, .op (.move (.tmp 63))⟩,
      ⟨(some 65), (some (64, true)), .op (.fieldA 1 (.tmp 1))⟩,
      ⟨(some 66), (some (64, true)), .op (.load 1 false (.tmp 65))⟩,
      ⟨(some 67), (some (64, true)), .op (.bin .eql (.tmp 66) (.const (.int .u8 1)))⟩,
      ⟨(some 68), none, .op (.pick (.tmp 64) (.tmp 67) (.const (.bool false)))⟩,
      ⟨(some 69), none, .op (.move (.tmp 68))⟩,
      ⟨(some 70), (some (69, true)), .op (.fieldA 2 (.tmp 1))⟩,
      ⟨(some 71), (some (69, true)), .op (.load 1 false (.tmp 70))⟩,
      ⟨(some 72), (some (69, true)), .op (.bin .eql (.tmp 71) (.const (.int .u64 1)))⟩,
      ⟨(some 73), none, .op (.pick (.tmp 69) (.tmp 72) (.const (.bool false)))⟩,
      ⟨(some 74), none, .op (.move (.tmp 73))⟩,
      ⟨(some 75), (some (74, true)), .op (.fieldA 1 (.tmp 3))⟩,
      ⟨(some 76), (some (74, true)), .op (.load 1 false (.tmp 75))⟩,
      ⟨(some 77), (some (74, true)), .op (.bin .eql (.tmp 76) (.const (.int .u8 3)))⟩,
      ⟨(some 78), none, .op (.pick (.tmp 74) (.tmp 77) (.const (.bool false)))⟩,
      ⟨(some 79), none, .op (.move (.tmp 78))⟩,
      ⟨(some 80), (some (79, true)), .op (.fieldA 2 (.tmp 3))⟩,
      ⟨(some 81), (some (79, true)), .op (.load 1 false (.tmp 80))⟩,
      ⟨(some 82), (some (79, true)), .op (.bin .eql (.tmp 81) (.const (.int .u64 0)))⟩,
      ⟨(some 83), none, .op (.pick (.tmp 79) (.tmp 82) (.const (.bool false)))⟩,
      ⟨(some 0), none, .op (.move (.tmp 83))⟩])
    .ret)))))
def XR13 : List RV := [.tmp 0]
theorem Xis13 : Is Tryz.prog (fun _ _ => false) 13 84 XA13 XR13 := ⟨Tryz.f13, Tryz.func13, rfl, by kernel_rfl, by kernel_rfl, Tryz.call13⟩
def fi13 : FI := .code 84 XA13 XR13
theorem ok13 : FI.ok Tryz.prog 13 fi13 := ⟨_, Xis13⟩
def XA18l0 : ACode :=
  (.seq (.seq (.region [⟨(some 11), none, .op (.move (.tmp 5))⟩,
      ⟨(some 12), none, .op (.move (.tmp 0))⟩,
      ⟨(some 13), none, .op (.len (.tmp 12))⟩,
      ⟨(some 14), none, .op (.bin .lss (.tmp 11) (.tmp 13))⟩])
    (.cond (.tmp 14) .skip (.exit 0)))
    (.seq (.block 1 (.seq (.dregion [⟨0, ⟨(some 17), none, .op (.move (.tmp 0))⟩, []⟩,
      ⟨1, ⟨(some 18), none, .op (.move (.tmp 5))⟩, []⟩,
      ⟨2, ⟨(some 19), none, .op (.idxA 2 (.tmp 17) (.tmp 18))⟩, []⟩,
      ⟨3, ⟨(some 20), none, .op (.load 2 true (.tmp 19))⟩, []⟩,
      ⟨4, ⟨(some 21), none, .op (.move (.tmp 1))⟩, []⟩,
      ⟨5, ⟨(some 22), none, .op (.move (.tmp 5))⟩, []⟩,
      ⟨6, ⟨(some 23), none, .op (.idxA 2 (.tmp 21) (.tmp 22))⟩, []⟩,
      ⟨7, ⟨(some 24), none, .op (.load 2 true (.tmp 23))⟩, []⟩,
      ⟨8, ⟨(some 25), none, .op (.eqS true [.int, .int] (.tmp 20) (.tmp 24))⟩, []⟩])
    (.cond (.tmp 25) (.seq (.region [⟨(some 4), none, .op (.move (.const (.bool false)))⟩])
    .ret) .skip)))
    (.region [⟨(some 15), none, .op (.move (.tmp 5))⟩,
      ⟨(some 16), none, .op (.bin .add (.tmp 15) (.const (.int .i64 1)))⟩,
      ⟨(some 5), none, .op (.move (.tmp 16))⟩])))
def XA18 : ACode :=
  (.seq (.region [⟨(some 4), none, .op (.move (.const (.bool false)))⟩])
    (.seq (.seq (.region [⟨(some 6), none, .op (.move (.tmp 0))⟩,
      ⟨(some 7), none, .op (.len (.tmp 6))⟩,
      ⟨(some 8), none, .op (.move (.tmp 1))⟩,
      ⟨(some 9), none, .op (.len (.tmp 8))⟩,
      ⟨(some 10), none, .op (.bin .neq (.tmp 7) (.tmp 9))⟩])
    (.cond (.tmp 10) (.seq (.region [⟨(some 4), none, .op (.move (.const (.bool false)))⟩])
    .ret) .skip))
    (.seq (.seq (.region [⟨(some 5), none, .op (.move (.const (.int .i64 0)))⟩])
    (.block 0 (.loop XA18l0)))
    (.seq (.region [⟨(some 4), none, .op (.move (.const (.bool true)))⟩])
    .ret))))
def XR18 : List RV := [.tmp 4]
theorem Xis18 : Is Tryz.prog (fun _ _ => false) 18 26 XA18 XR18 := ⟨Tryz.f18, Tryz.func18, rfl, by kernel_rfl, by kernel_rfl, Tryz.call18⟩
def fi18 : FI := .code 26 XA18 XR18
theorem ok18 : FI.ok Tryz.prog 18 fi18 := ⟨_, Xis18⟩
def XA19l0 : ACode :=
  (.seq (.region [⟨(some 17), none, .op (.bin .lss (.tmp 16) (.tmp 15))⟩])
    (.seq (.cond (.tmp 17) .skip (.exit 0))
    (.seq (.block 1 (.seq (.region [⟨(some 18), none, .op (.move (.tmp 16))⟩,
      ⟨(some 19), none, .op (.idxA 5 (.tmp 14) (.tmp 16))⟩,
      ⟨(some 20), none, .op (.load 5 true (.tmp 19))⟩,
      ⟨(some 5), none, .op (.alloc [(.str []), .nilS, (.int .i64 0), .nilS, .nilS])⟩,
      ⟨(some 4), none, .op (.move (.tmp 18))⟩,
      ⟨none, none, .op (.store 5 (.tmp 5) (.tmp 20))⟩])
    (.seq (.seq (.region [⟨(some 21), none, .op (.move (.tmp 3))⟩,
      ⟨(some 22), none, .op (.fieldA 0 (.tmp 5))⟩,
      ⟨(some 23), none, .op (.load 1 false (.tmp 22))⟩,
      ⟨(some 24), none, .op (.m (.look .str (.int .i64 0) false (.tmp 21) (.tmp 23)))⟩,
      ⟨(some 25), none, .op (.bin .neq (.tmp 24) (.const (.int .i64 0)))⟩])
    (.cond (.tmp 25) (.seq (.region [⟨(some 2), none, .op (.move (.const (.int .i64 8)))⟩])
    .ret) .skip))
    (.region [⟨(some 26), none, .op (.move (.tmp 3))⟩,
      ⟨(some 27), none, .op (.fieldA 0 (.tmp 5))⟩,
      ⟨(some 28), none, .op (.load 1 false (.tmp 27))⟩,
      ⟨(some 29), none, .op (.move (.tmp 4))⟩,
      ⟨(some 30), none, .op (.bin .add (.tmp 29) (.const (.int .i64 1)))⟩,
      ⟨none, none, .op (.m (.set .str (.tmp 26) (.tmp 28) (.tmp 30)))⟩]))))
    (.region [⟨(some 31), none, .op (.bin .add (.tmp 16) (.const (.int .i64 1)))⟩,
      ⟨(some 16), none, .op (.move (.tmp 31))⟩]))))
def XA19l1 : ACode :=
  (.seq (.region [⟨(some 36), none, .op (.bin .lss (.tmp 35) (.tmp 34))⟩])
    (.seq (.cond (.tmp 36) .skip (.exit 2))
    (.seq (.block 3 (.seq (.region [⟨(some 37), none, .op (.idxA 5 (.tmp 33) (.tmp 35))⟩,
      ⟨(some 38), none, .op (.load 5 true (.tmp 37))⟩,
      ⟨(some 7), none, .op (.alloc [(.str []), .nilS, (.int .i64 0), .nilS, .nilS])⟩,
      ⟨none, none, .op (.store 5 (.tmp 7) (.tmp 38))⟩])
    (.seq (.region [⟨(some 40), none, .op (.load 5 true (.tmp 7))⟩,
      ⟨(some 41), none, .call (.func 40) [(.tmp 40)]⟩,
      ⟨(some 39), none, .op (.move (.tmp 41))⟩,
      ⟨(some 42), none, .op (.ext (.tmp 39) 0)⟩,
      ⟨(some 43), none, .op (.ext (.tmp 39) 1)⟩,
      ⟨(some 8), none, .op (.move (.tmp 42))⟩,
      ⟨(some 9), none, .op (.move (.tmp 43))⟩])
    (.seq (.region [⟨(some 44), none, .op (.move (.tmp 9))⟩,
      ⟨(some 45), none, .op (.un .not (.tmp 44))⟩,
      ⟨(some 46), none, .op (.move (.tmp 45))⟩,
      ⟨(some 47), (some (46, false)), .op (.load 1 true (.tmp 1))⟩,
      ⟨(some 48), (some (46, false)), .op (.load 5 true (.tmp 7))⟩,
      ⟨(some 49), (some (46, false)), .op (.move (.tmp 8))⟩,
      ⟨(some 50), (some (46, false)), .op (.move (.tmp 3))⟩,
      ⟨(some 51), (some (46, false)), .op (.build [.nilS, (.str []), .nilS, (.int .i64 0), .nilS, .nilS, .nilM, .nilM] [(0, 1, (.tmp 47)), (1, 5, (.tmp 48)), (6, 1, (.tmp 49)), (7, 1, (.tmp 50))])⟩,
      ⟨(some 52), (some (46, false)), .call (.func 41) [(.tmp 51)]⟩,
      ⟨(some 53), (some (46, false)), .op (.un .not (.tmp 52))⟩,
      ⟨(some 54), none, .op (.pick (.tmp 46) (.const (.bool true)) (.tmp 53))⟩])
    (.cond (.tmp 54) (.seq (.region [⟨(some 2), none, .op (.move (.const (.int .i64 8)))⟩])
    .ret) .skip)))))
    (.region [⟨(some 55), none, .op (.bin .add (.tmp 35) (.const (.int .i64 1)))⟩,
      ⟨(some 35), none, .op (.move (.tmp 55))⟩]))))
def XA19 : ACode :=
  (.seq (.region [⟨(some 1), none, .op (.box (.tmp 0))⟩,
      ⟨(some 2), none, .op (.move (.const (.int .i64 0)))⟩])
    (.seq (.seq (.region [⟨(some 10), none, .op (.load 1 true (.tmp 1))⟩,
      ⟨(some 11), none, .call (.func 39) [(.tmp 10)]⟩])
    (.cond (.tmp 11) (.seq (.region [⟨(some 2), none, .op (.move (.const (.int .i64 4)))⟩])
    .ret) .skip))
    (.seq (.region [⟨(some 12), none, .op (.m .mk)⟩,
      ⟨(some 3), none, .op (.move (.tmp 12))⟩])
    (.seq (.seq (.region [⟨(some 13), none, .op (.fieldA 0 (.tmp 1))⟩,
      ⟨(some 14), none, .op (.load 1 false (.tmp 13))⟩,
      ⟨(some 15), none, .op (.len (.tmp 14))⟩,
      ⟨(some 16), none, .op (.move (.const (.int .i64 0)))⟩])
    (.block 0 (.loop XA19l0)))
    (.seq (.seq (.region [⟨(some 32), none, .op (.fieldA 0 (.tmp 1))⟩,
      ⟨(some 33), none, .op (.load 1 false (.tmp 32))⟩,
      ⟨(some 34), none, .op (.len (.tmp 33))⟩,
      ⟨(some 35), none, .op (.move (.const (.int .i64 0)))⟩])
    (.block 2 (.loop XA19l1)))
    (.seq (.seq (.region [⟨(some 56), none, .op (.fieldA 0 (.tmp 1))⟩,
      ⟨(some 57), none, .op (.load 1 false (.tmp 56))⟩,
      ⟨(some 58), none, .op (.len (.tmp 57))⟩,
      ⟨(some 59), none, .op (.bin .eql (.tmp 58) (.const (.int .i64 0)))⟩])
    (.cond (.tmp 59) (.seq (.region [⟨(some 2), none, .op (.move (.const (.int .i64 8)))⟩])
    .ret) .skip))
    (.seq (.region [⟨(some 2), none, .op (.move (.const (.int .i64 0)))⟩])
    .ret)))))))
def XR19 : List RV := [.tmp 2]
theorem Xis19 : Is Tryz.prog (fun _ _ => false) 19 60 XA19 XR19 := ⟨Tryz.f19, Tryz.func19, rfl, by kernel_rfl, by kernel_rfl, Tryz.call19⟩
def fi19 : FI := .code 60 XA19 XR19
theorem ok19 : FI.ok Tryz.prog 19 fi19 := ⟨_, Xis19⟩
def XA20 : ACode :=
  (.seq (.region [⟨(some 2), none, .op (.box (.tmp 0))⟩,
      ⟨(some 3), none, .op (.box (.tmp 1))⟩,
      ⟨(some 4), none, .op (.move (.const (.int .i64 0)))⟩,
      ⟨(some 5), none, .op (.move (.const (.int .i64 0)))⟩])
    (.seq (.region [⟨(some 7), none, .op (.fieldA 0 (.tmp 2))⟩,
      ⟨(some 8), none, .op (.load 1 false (.tmp 7))⟩,
      ⟨(some 9), none, .op (.mkfn (.func 43) [(.tmp 3)])⟩,
      ⟨(some 10), none, .call (.func 42) [(.tmp 8), (.tmp 9)]⟩,
      ⟨(some 6), none, .op (.move (.tmp 10))⟩])
    (.seq (.seq (.region [⟨(some 11), none, .op (.move (.tmp 6))⟩,
      ⟨(some 12), none, .op (.bin .lss (.tmp 11) (.const (.int .i64 0)))⟩])
    (.cond (.tmp 12) (.seq (.region [⟨(some 4), none, .op (.move (.const (.int .i64 0)))⟩,
      ⟨(some 5), none, .op (.move (.const (.int .i64 6)))⟩])
    .ret) .skip))
    (.seq (.region [⟨(some 13), none, .op (.move (.tmp 6))⟩,
      ⟨(some 4), none, .op (.move (.tmp 13))⟩,
      ⟨(some 5), none, .op (.move (.const (.int .i64 0)))⟩])
    .ret))))
def XR20 : List RV := [.tmp 4, .tmp 5]
theorem Xis20 : Is Tryz.prog (fun _ _ => false) 20 14 XA20 XR20 := ⟨Tryz.f20, Tryz.func20, rfl, by kernel_rfl, by kernel_rfl, Tryz.call20⟩
def fi20 : FI := .code 14 XA20 XR20
theorem ok20 : FI.ok Tryz.prog 20 fi20 := ⟨_, Xis20⟩
def XA26l0 : ACode :=
  (.seq (.region [⟨(some 45), none, .op (.bin .lss (.tmp 44) (.tmp 43))⟩])
    (.seq (.cond (.tmp 45) .skip (.exit 0))
    (.seq (.block 1 (.seq (.region [⟨(some 46), none, .op (.move (.tmp 44))⟩,
      ⟨(some 47), none, .op (.idxA 2 (.tmp 42) (.tmp 44))⟩,
      ⟨(some 48), none, .op (.load 2 true (.tmp 47))⟩,
      ⟨(some 14), none, .op (.alloc [(.str []), (.int .i64 0)])⟩,
      ⟨(some 13), none, .op (.move (.tmp 46))⟩,
      ⟨none, none, .op (.store 2 (.tmp 14) (.tmp 48))⟩])
    (.seq (.dregion [⟨0, ⟨(some 49), none, .op (.move (.tmp 2))⟩, []⟩,
      ⟨1, ⟨(some 50), none, .op (.move (.tmp 13))⟩, []⟩,
      ⟨2, ⟨(some 51), none, .op (.idxA 1 (.tmp 49) (.tmp 50))⟩, []⟩,
      ⟨3, ⟨(some 52), none, .op (.load 1 false (.tmp 51))⟩, []⟩,
      ⟨4, ⟨(some 53), none, .op (.fieldA 1 (.tmp 14))⟩, []⟩,
      ⟨5, ⟨(some 54), none, .op (.load 1 false (.tmp 53))⟩, []⟩,
      ⟨6, ⟨(some 55), none, .call (.func 29) [(.tmp 52), (.tmp 54)]⟩, []⟩,
      ⟨7, ⟨(some 56), none, .op (.un .not (.tmp 55))⟩, []⟩])
    (.cond (.tmp 56) (.seq (.region [⟨(some 57), none, .op (.build [.nilS, (.int .u8 0), (.int .u64 0), .nilS] [])⟩,
      ⟨none, none, .op (.store 4 (.tmp 10) (.tmp 57))⟩,
      ⟨(some 11), none, .op (.move (.const (.int .i64 2)))⟩])
    .ret) .skip))))
    (.region [⟨(some 58), none, .op (.bin .add (.tmp 44) (.const (.int .i64 1)))⟩,
      ⟨(some 44), none, .op (.move (.tmp 58))⟩]))))
def XA26 : ACode :=
  (.seq (.region [⟨(some 5), none, .op (.box (.tmp 0))⟩,
      ⟨(some 10), none, .op (.alloc [.nilS, (.int .u8 0), (.int .u64 0), .nilS])⟩,
      ⟨(some 11), none, .op (.move (.const (.int .i64 0)))⟩])
    (.seq (.region [⟨(some 17), none, .op (.fieldA 0 (.tmp 5))⟩,
      ⟨(some 18), none, .op (.load 1 false (.tmp 17))⟩,
      ⟨(some 19), none, .op (.move (.tmp 1))⟩,
      ⟨(some 20), none, .op (.idxA 5 (.tmp 18) (.tmp 19))⟩,
      ⟨(some 21), none, .op (.fieldA 1 (.tmp 20))⟩,
      ⟨(some 22), none, .op (.load 1 false (.tmp 21))⟩,
      ⟨(some 12), none, .op (.move (.tmp 22))⟩])
    (.seq (.seq (.region [⟨(some 23), none, .op (.move (.tmp 2))⟩,
      ⟨(some 24), none, .op (.len (.tmp 23))⟩,
      ⟨(some 25), none, .op (.move (.tmp 12))⟩,
      ⟨(some 26), none, .op (.len (.tmp 25))⟩,
      ⟨(some 27), none, .op (.bin .neq (.tmp 24) (.tmp 26))⟩,
      ⟨(some 28), none, .op (.move (.tmp 27))⟩,
      ⟨(some 29), (some (28, false)), .op (.move (.tmp 3))⟩,
      ⟨(some 30), (some (28, false)), .call (.func 28) [(.tmp 29)]⟩,
      ⟨(some 31), (some (28, false)), .op (.un .not (.tmp 30))⟩,
      ⟨(some 32), none, .op (.pick (.tmp 28) (.const (.bool true)) (.tmp 31))⟩,
      ⟨(some 33), none, .op (.move (.tmp 32))⟩,
      ⟨(some 34), (some (33, false)), .op (.move (.tmp 4))⟩,
      ⟨(some 35), (some (33, false)), .op (.bin .lss (.tmp 34) (.const (.int .i64 0)))⟩,
      ⟨(some 36), none, .op (.pick (.tmp 33) (.const (.bool true)) (.tmp 35))⟩,
      ⟨(some 37), none, .op (.move (.tmp 36))⟩,
      ⟨(some 38), (some (37, false)), .op (.move (.tmp 4))⟩,
      ⟨(some 39), (some (37, false)), .op (.bin .gtr (.tmp 38) (.const (.int .i64 100000)))⟩,
      ⟨(some 40), none, .op (.pick (.tmp 37) (.const (.bool true)) (.tmp 39))⟩])
    (.cond (.tmp 40) (.seq (.region [⟨(some 41), none, .op (.build [.nilS, (.int .u8 0), (.int .u64 0), .nilS] [])⟩,
      ⟨none, none, .op (.store 4 (.tmp 10) (.tmp 41))⟩,
      ⟨(some 11), none, .op (.move (.const (.int .i64 2)))⟩])
    .ret) .skip))
    (.seq (.seq (.region [⟨(some 42), none, .op (.move (.tmp 12))⟩,
      ⟨(some 43), none, .op (.len (.tmp 42))⟩,
      ⟨(some 44), none, .op (.move (.const (.int .i64 0)))⟩])
    (.block 0 (.loop XA26l0)))
    (.seq (.dregion [⟨0, ⟨(some 59), none, .op (.load 1 true (.tmp 5))⟩, []⟩,
      ⟨1, ⟨(some 60), none, .op (.move (.tmp 4))⟩, []⟩,
      ⟨2, ⟨(some 61), none, .op (.move (.tmp 3))⟩, []⟩,
      ⟨3, ⟨(some 62), none, .call (.func 31) [(.tmp 61)]⟩, [0, 1]⟩,
      ⟨4, ⟨(some 63), none, .op (.build [.nilS, .nilS, (.int .i64 0), .nilS, .nilS, (.int .u64 0)] [(0, 1, (.tmp 59)), (2, 1, (.tmp 60)), (4, 1, (.tmp 62))])⟩, []⟩,
      ⟨5, ⟨(some 64), none, .op (.box (.tmp 63))⟩, []⟩,
      ⟨6, ⟨(some 15), none, .op (.move (.tmp 64))⟩, []⟩])
    (.seq (.region [⟨(some 65), none, .op (.move (.tmp 15))⟩,
      ⟨(some 66), none, .op (.move (.tmp 15))⟩,
      ⟨(some 67), none, .op (.move (.tmp 1))⟩,
      ⟨(some 68), none, .op (.move (.tmp 2))⟩,
      ⟨(some 69), none, .call (.func 53) [(.tmp 66), (.tmp 67), (.tmp 68), (.const (.string ⟨#[]⟩))]⟩,
      ⟨(some 70), none, .op (.buildO 119 [(.int .i64 0), (.int .i64 0), (.int .i64 0), .nilS, (.str [])] 1 [(0, (.tmp 69))])⟩,
      ⟨(some 71), none, .op (.nilck (.tmp 65))⟩,
      ⟨(some 72), none, .op (.fieldA 1 (.tmp 71))⟩,
      ⟨none, none, .op (.store 1 (.tmp 72) (.tmp 70))⟩])
    (.seq (.region [⟨(some 73), none, .op (.move (.tmp 15))⟩,
      ⟨(some 74), none, .call (.func 54) [(.tmp 73)]⟩,
      ⟨(some 16), none, .op (.move (.tmp 74))⟩])
    (.seq (.dregion [⟨0, ⟨(some 75), none, .op (.move (.tmp 15))⟩, []⟩,
      ⟨1, ⟨(some 76), none, .op (.nilck (.tmp 75))⟩, []⟩,
      ⟨2, ⟨(some 77), none, .op (.fieldA 3 (.tmp 76))⟩, []⟩,
      ⟨3, ⟨(some 78), none, .op (.load 1 false (.tmp 77))⟩, []⟩,
      ⟨4, ⟨(some 79), none, .op (.move (.tmp 16))⟩, []⟩,
      ⟨5, ⟨(some 80), none, .op (.move (.tmp 15))⟩, []⟩,
      ⟨6, ⟨(some 81), none, .op (.nilck (.tmp 80))⟩, []⟩,
      ⟨7, ⟨(some 82), none, .op (.fieldA 5 (.tmp 81))⟩, []⟩,
      ⟨8, ⟨(some 83), none, .op (.load 1 false (.tmp 82))⟩, []⟩,
      ⟨9, ⟨(some 84), none, .op (.move (.tmp 15))⟩, []⟩,
      ⟨10, ⟨(some 85), none, .op (.nilck (.tmp 84))⟩, []⟩,
      ⟨11, ⟨(some 86), none, .op (.fieldA 4 (.tmp 85))⟩, []⟩,
      ⟨12, ⟨(some 87), none, .op (.load 1 false (.tmp 86))⟩, []⟩,
      ⟨13, ⟨(some 88), none, .op (.build [.nilS, (.int .u8 0), (.int .u64 0), .nilS] [(0, 1, (.tmp 78)), (1, 1, (.tmp 79)), (2, 1, (.tmp 83)), (3, 1, (.tmp 87))])⟩, []⟩,
      ⟨14, ⟨none, none, .op (.store 4 (.tmp 10) (.tmp 88))⟩, []⟩,
      ⟨15, ⟨(some 11), none, .op (.move (.const (.int .i64 0)))⟩, []⟩])
    .ret))))))))
def XR26 : List RV := [.cell 10 4 true, .tmp 11]
theorem Xis26 : Is Tryz.prog (fun r i => [(11, 5)].contains (r, i)) 26 89 XA26 XR26 := ⟨Tryz.f26, Tryz.func26, rfl, by kernel_rfl, by kernel_rfl, Tryz.call26⟩
def fi26 : FI := .code 89 XA26 XR26
theorem ok26 : FI.ok Tryz.prog 26 fi26 := ⟨_, Xis26⟩
def XA27 : ACode :=
  (.seq (.region [⟨(some 4), none, .op (.alloc [(.int .u8 0), (.int .i64 0), (.int .u64 0), (.str []), (.int .i64 0), .nilS])⟩])
    (.seq (.region [⟨(some 5), none, .op (.move (.tmp 0))⟩,
      ⟨(some 6), none, .op (.move (.tmp 1))⟩,
      ⟨(some 7), none, .op (.build [(.int .u8 0), (.int .i64 0), (.int .u64 0), (.str []), (.int .i64 0), .nilS] [(0, 1, (.const (.int .u8 1))), (1, 1, (.tmp 5)), (2, 1, (.tmp 6))])⟩,
      ⟨none, none, .op (.store 6 (.tmp 4) (.tmp 7))⟩])
    .ret))
def XR27 : List RV := [.cell 4 6 true]
theorem Xis27 : Is Tryz.prog (fun _ _ => false) 27 8 XA27 XR27 := ⟨Tryz.f27, Tryz.func27, rfl, by kernel_rfl, by kernel_rfl, Tryz.call27⟩
def fi27 : FI := .code 8 XA27 XR27
theorem ok27 : FI.ok Tryz.prog 27 fi27 := ⟨_, Xis27⟩
def XA28 : ACode :=
  (.seq (.region [⟨(some 2), none, .op (.move (.const (.bool false)))⟩])
    (.seq (.region [⟨(some 3), none, .op (.move (.tmp 0))⟩,
      ⟨(some 4), none, .op (.len (.tmp 3))⟩,
      ⟨(some 5), none, .op (.bin .leq (.tmp 4) (.const (.int .i64 4096)))⟩,
      ⟨(some 6), none, .op (.move (.tmp 5))⟩,
      ⟨(some 7), (some (6, true)), .op (.move (.tmp 0))⟩,
      ⟨(some 8), (some (6, true)), .call (.func 55) [(.tmp 7)]⟩,
      ⟨(some 9), (some (6, true)), .op (.bin .eql (.tmp 8) (.const (.int .i64 0)))⟩,
      ⟨(some 10), none, .op (.pick (.tmp 6) (.tmp 9) (.const (.bool false)))⟩,
      ⟨(some 11), none, .op (.move (.tmp 10))⟩,
      ⟨(some 12), (some (11, true)), .op (.move (.tmp 0))⟩,
      ⟨(some 13), (some (11, true)), .op (.len (.tmp 12))⟩,
      ⟨(some 14), (some (11, true)), .op (.bin .eql (.tmp 13) (.const (.int .i64 0)))⟩,
      ⟨(some 15), (some (11, true)), .op (.move (.tmp 14))⟩,
      ⟨(some 16), (some (15, false)), .op (.move (.tmp 0))⟩,
      ⟨(some 17), (some (15, false)), .op (.move (.tmp 0))⟩,
      ⟨(some 18), (some (15, false)), .op (.len (.tmp 17))⟩,
      ⟨(some 19), (some (15, false)), .op (.bin .sub (.tmp 18) (.const (.int .i64 1)))⟩,
      ⟨(some 20), (some (15, false)), .op (.idxA 2 (.tmp 16) (.tmp 19))⟩,
      ⟨(some 21), (some (15, false)), .op (.fieldA 0 (.tmp 20))⟩,
      ⟨(some 22), (some (15, false)), .op (.load 1 false (.tmp 21))⟩,
      ⟨(some 23), (some (15, false)), .op (.bin .shr (.tmp 22) (.const (.int .u64 32)))⟩,
      ⟨(some 24), (some (15, false)), .op (.bin .eql (.tmp 23) (.const (.int .u64 0)))⟩,
      ⟨(some 25), (some (11, true)), .op (.pick (.tmp 15) (.const (.bool true)) (.tmp 24))⟩,
      ⟨(some 26), none, .op (.pick (.tmp 11) (.tmp 25) (.const (.bool false)))⟩,
      ⟨(some 2), none, .op (.move (.tmp 26))⟩])
    .ret))
def XR28 : List RV := [.tmp 2]
theorem Xis28 : Is Tryz.prog (fun _ _ => false) 28 27 XA28 XR28 := ⟨Tryz.f28, Tryz.func28, rfl, by kernel_rfl, by kernel_rfl, Tryz.call28⟩
def fi28 : FI := .code 27 XA28 XR28
theorem ok28 : FI.ok Tryz.prog 28 fi28 := ⟨_, Xis28⟩
def XA29 : ACode :=
  (.seq (.region [⟨(some 4), none, .op (.move (.const (.bool false)))⟩])
    (.seq (.region [⟨(some 5), none, .op (.move (.tmp 0))⟩,
      ⟨(some 6), none, .op (.bin .shr (.tmp 5) (.const (.int .u64 1)))⟩,
      ⟨(some 7), none, .op (.move (.tmp 1))⟩,
      ⟨(some 8), none, .op (.bin .sub (.tmp 7) (.const (.int .i64 1)))⟩,
      ⟨(some 9), none, .op (.bin .shr (.tmp 6) (.tmp 8))⟩,
      ⟨(some 10), none, .op (.bin .eql (.tmp 9) (.const (.int .u64 0)))⟩,
      ⟨(some 4), none, .op (.move (.tmp 10))⟩])
    .ret))
def XR29 : List RV := [.tmp 4]
theorem Xis29 : Is Tryz.prog (fun _ _ => false) 29 11 XA29 XR29 := ⟨Tryz.f29, Tryz.func29, rfl, by kernel_rfl, by kernel_rfl, Tryz.call29⟩
def fi29 : FI := .code 11 XA29 XR29
theorem ok29 : FI.ok Tryz.prog 29 fi29 := ⟨_, Xis29⟩
def XA30 : ACode :=
  (.seq (.region [⟨(some 4), none, .op (.move (.const (.bool false)))⟩])
    (.seq (.region [⟨(some 5), none, .op (.move (.tmp 0))⟩,
      ⟨(some 6), none, .op (.move (.tmp 1))⟩,
      ⟨(some 7), none, .call (.func 56) [(.tmp 5), (.tmp 6)]⟩,
      ⟨(some 8), none, .op (.bin .geq (.tmp 7) (.const (.int .i64 0)))⟩,
      ⟨(some 4), none, .op (.move (.tmp 8))⟩])
    .ret))
def XR30 : List RV := [.tmp 4]
theorem Xis30 : Is Tryz.prog (fun _ _ => false) 30 9 XA30 XR30 := ⟨Tryz.f30, Tryz.func30, rfl, by kernel_rfl, by kernel_rfl, Tryz.call30⟩
def fi30 : FI := .code 9 XA30 XR30
theorem ok30 : FI.ok Tryz.prog 30 fi30 := ⟨_, Xis30⟩
def XA31 : ACode :=
  (.seq (.region [⟨(some 2), none, .op (.move (.const (.slice none 0 0)))⟩])
    (.seq (.seq (.region [⟨(some 3), none, .op (.move (.tmp 0))⟩,
      ⟨(some 4), none, .op (.eqN false .sl (.tmp 3))⟩])
    (.cond (.tmp 4) (.seq (.region [⟨(some 2), none, .op (.move (.const (.slice none 0 0)))⟩])
    .ret) .skip))
    (.seq (.region [⟨(some 5), none, .op (.buildO 35 [(.int .u64 0), (.int .u8 0)] 0 [])⟩,
      ⟨(some 6), none, .op (.move (.tmp 0))⟩,
      ⟨(some 7), none, .op (.app 35 2 16 (.tmp 5) (.tmp 6))⟩,
      ⟨(some 2), none, .op (.move (.tmp 7))⟩])
    .ret)))
def XR31 : List RV := [.tmp 2]
theorem Xis31 : Is Tryz.prog (fun r i => [(3, 0)].contains (r, i)) 31 8 XA31 XR31 := ⟨Tryz.f31, Tryz.func31, rfl, by kernel_rfl, by kernel_rfl, Tryz.call31⟩
def fi31 : FI := .code 8 XA31 XR31
theorem ok31 : FI.ok Tryz.prog 31 fi31 := ⟨_, Xis31⟩
def XA32l0 : ACode :=
  (.seq (.seq (.region [⟨(some 15), none, .op (.move (.tmp 9))⟩,
      ⟨(some 16), none, .op (.move (.tmp 10))⟩,
      ⟨(some 17), none, .op (.bin .lss (.tmp 15) (.tmp 16))⟩])
    (.cond (.tmp 17) .skip (.exit 0)))
    (.block 1 (.seq (.region [⟨(some 18), none, .op (.move (.tmp 9))⟩,
      ⟨(some 19), none, .op (.move (.tmp 10))⟩,
      ⟨(some 20), none, .op (.bin .add (.tmp 18) (.tmp 19))⟩,
      ⟨(some 21), none, .op (.conv .u64 (.tmp 20))⟩,
      ⟨(some 22), none, .op (.bin .shr (.tmp 21) (.const (.int .u64 1)))⟩,
      ⟨(some 23), none, .op (.conv .i64 (.tmp 22))⟩,
      ⟨(some 11), none, .op (.move (.tmp 23))⟩])
    (.seq (.region [⟨(some 24), none, .op (.move (.tmp 2))⟩,
      ⟨(some 25), none, .op (.move (.tmp 0))⟩,
      ⟨(some 26), none, .op (.move (.tmp 11))⟩,
      ⟨(some 27), none, .op (.idxA 2 (.tmp 25) (.tmp 26))⟩,
      ⟨(some 28), none, .op (.load 2 true (.tmp 27))⟩,
      ⟨(some 29), none, .op (.move (.tmp 1))⟩,
      ⟨(some 30), none, .call (.tmp 24) [(.tmp 28), (.tmp 29)]⟩,
      ⟨(some 31), none, .op (.bin .lss (.tmp 30) (.const (.int .i64 0)))⟩])
    (.cond (.tmp 31) (.region [⟨(some 32), none, .op (.move (.tmp 11))⟩,
      ⟨(some 33), none, .op (.bin .add (.tmp 32) (.const (.int .i64 1)))⟩,
      ⟨(some 9), none, .op (.move (.tmp 33))⟩]) (.region [⟨(some 34), none, .op (.move (.tmp 11))⟩,
      ⟨(some 10), none, .op (.move (.tmp 34))⟩]))))))
def XA32 : ACode :=
  (.seq (.region [⟨(some 6), none, .op (.move (.const (.int .i64 0)))⟩,
      ⟨(some 7), none, .op (.move (.const (.bool false)))⟩])
    (.seq (.region [⟨(some 12), none, .op (.move (.tmp 0))⟩,
      ⟨(some 13), none, .op (.len (.tmp 12))⟩,
      ⟨(some 8), none, .op (.move (.tmp 13))⟩])
    (.seq (.region [⟨(some 14), none, .op (.move (.tmp 8))⟩,
      ⟨(some 9), none, .op (.move (.const (.int .i64 0)))⟩,
      ⟨(some 10), none, .op (.move (.tmp 14))⟩])
    (.seq (.block 0 (.loop XA32l0))
    (.seq (.region [⟨(some 35), none, .op (.move (.tmp 9))⟩,
      ⟨(some 36), none, .op (.move (.tmp 9))⟩,
      ⟨(some 37), none, .op (.move (.tmp 8))⟩,
      ⟨(some 38), none, .op (.bin .lss (.tmp 36) (.tmp 37))⟩,
      ⟨(some 39), none, .op (.move (.tmp 38))⟩,
      ⟨(some 40), (some (39, true)), .op (.move (.tmp 2))⟩,
      ⟨(some 41), (some (39, true)), .op (.move (.tmp 0))⟩,
      ⟨(some 42), (some (39, true)), .op (.move (.tmp 9))⟩,
      ⟨(some 43), (some (39, true)), .op (.idxA 2 (.tmp 41) (.tmp 42))⟩,
      ⟨(some 44), (some (39, true)), .op (.load 2 true (.tmp 43))⟩,
      ⟨(some 45), (some (39, true)), .op (.move (.tmp 1))⟩,
      ⟨(some 46), (some (39, true)), .call (.tmp 40) [(.tmp 44), (.tmp 45)]⟩,
      ⟨(some 47), (some (39, true)), .op (.bin .eql (.tmp 46) (.const (.int .i64 0)))⟩,
      ⟨(some 48), none, .op (.pick (.tmp 39) (.tmp 47) (.const (.bool false)))⟩,
      ⟨(some 6), none, .op (.move (.tmp 35))⟩,
      ⟨(some 7), none, .op (.move (.tmp 48))⟩])
    .ret)))))
def XR32 : List RV := [.tmp 6, .tmp 7]
theorem Xis32 : Is Tryz.prog (fun _ _ => false) 32 49 XA32 XR32 := ⟨Tryz.f32, Tryz.func32, rfl, by kernel_rfl, by kernel_rfl, Tryz.call32⟩
def fi32 : FI := .code 49 XA32 XR32
theorem ok32 : FI.ok Tryz.prog 32 fi32 := ⟨_, Xis32⟩
def XA35 : ACode :=
  (.seq (.region [⟨(some 6), none, .op (.move (.const (.slice none 0 0)))⟩])
    (.seq (.region [⟨(some 10), none, .op (.move (.tmp 0))⟩,
      ⟨(some 11), none, .op (.move (.tmp 1))⟩,
      ⟨(some 12), none, .op (.slc 2 (.tmp 10) (some (.tmp 11)) none none)⟩])
    (.seq (.region [⟨(some 13), none, .op (.move (.tmp 2))⟩,
      ⟨(some 14), none, .op (.len (.tmp 13))⟩,
      ⟨(some 7), none, .op (.move (.tmp 14))⟩])
    (.seq (.seq (.region [⟨(some 15), none, .op (.move (.tmp 7))⟩,
      ⟨(some 16), none, .op (.bin .eql (.tmp 15) (.const (.int .i64 0)))⟩])
    (.cond (.tmp 16) (.seq (.region [⟨(some 17), none, .op (.move (.tmp 0))⟩,
      ⟨(some 6), none, .op (.move (.tmp 17))⟩])
    .ret) .skip))
    (.seq (.region [⟨(some 18), none, .op (.move (.tmp 0))⟩,
      ⟨(some 19), none, .op (.len (.tmp 18))⟩,
      ⟨(some 8), none, .op (.move (.tmp 19))⟩])
    (.seq (.seq (.region [⟨(some 20), none, .op (.move (.tmp 1))⟩,
      ⟨(some 21), none, .op (.move (.tmp 8))⟩,
      ⟨(some 22), none, .op (.bin .eql (.tmp 20) (.tmp 21))⟩])
    (.cond (.tmp 22) (.seq (.region [⟨(some 23), none, .op (.move (.tmp 0))⟩,
      ⟨(some 24), none, .op (.move (.tmp 2))⟩,
      ⟨(some 25), none, .op (.app 35 2 16 (.tmp 23) (.tmp 24))⟩,
      ⟨(some 6), none, .op (.move (.tmp 25))⟩])
    .ret) .skip))
    (.seq (.seq (.region [⟨(some 26), none, .op (.move (.tmp 8))⟩,
      ⟨(some 27), none, .op (.move (.tmp 7))⟩,
      ⟨(some 28), none, .op (.bin .add (.tmp 26) (.tmp 27))⟩,
      ⟨(some 29), none, .op (.move (.tmp 0))⟩,
      ⟨(some 30), none, .op (.cap (.tmp 29))⟩,
      ⟨(some 31), none, .op (.bin .gtr (.tmp 28) (.tmp 30))⟩])
    (.cond (.tmp 31) (.seq (.region [⟨(some 32), none, .op (.move (.tmp 0))⟩,
      ⟨(some 33), none, .op (.move (.tmp 1))⟩,
      ⟨(some 34), none, .op (.slc 2 (.tmp 32) none (some (.tmp 33)) none)⟩,
      ⟨(some 35), none, .op (.move (.tmp 8))⟩,
      ⟨(some 36), none, .op (.move (.tmp 7))⟩,
      ⟨(some 37), none, .op (.bin .add (.tmp 35) (.tmp 36))⟩,
      ⟨(some 38), none, .op (.move (.tmp 1))⟩,
      ⟨(some 39), none, .op (.bin .sub (.tmp 37) (.tmp 38))⟩,
      ⟨(some 40), none, .op (.appZ 35 [(.int .u64 0), (.int .u8 0)] 16 (.tmp 34) (.tmp 39))⟩,
      ⟨(some 9), none, .op (.move (.tmp 40))⟩])
    (.seq (.region [⟨(some 41), none, .op (.move (.tmp 9))⟩,
      ⟨(some 42), none, .op (.move (.tmp 1))⟩,
      ⟨(some 43), none, .op (.slc 2 (.tmp 41) (some (.tmp 42)) none none)⟩,
      ⟨(some 44), none, .op (.move (.tmp 2))⟩,
      ⟨(some 45), none, .op (.copy 2 (.tmp 43) (.tmp 44))⟩])
    (.seq (.dregion [⟨0, ⟨(some 46), none, .op (.move (.tmp 9))⟩, []⟩,
      ⟨1, ⟨(some 47), none, .op (.move (.tmp 1))⟩, []⟩,
      ⟨2, ⟨(some 48), none, .op (.move (.tmp 7))⟩, []⟩,
      ⟨3, ⟨(some 49), none, .op (.bin .add (.tmp 47) (.tmp 48))⟩, []⟩,
      ⟨4, ⟨(some 50), none, .op (.slc 2 (.tmp 46) (some (.tmp 49)) none none)⟩, []⟩,
      ⟨5, ⟨(some 51), none, .op (.move (.tmp 0))⟩, []⟩,
      ⟨6, ⟨(some 52), none, .op (.move (.tmp 1))⟩, []⟩,
      ⟨7, ⟨(some 53), none, .op (.slc 2 (.tmp 51) (some (.tmp 52)) none none)⟩, []⟩,
      ⟨8, ⟨(some 54), none, .op (.copy 2 (.tmp 50) (.tmp 53))⟩, []⟩])
    (.seq (.region [⟨(some 55), none, .op (.move (.tmp 9))⟩,
      ⟨(some 6), none, .op (.move (.tmp 55))⟩])
    .ret)))) .skip))
    (.seq (.region [⟨(some 56), none, .op (.move (.tmp 0))⟩,
      ⟨(some 57), none, .op (.move (.tmp 8))⟩,
      ⟨(some 58), none, .op (.move (.tmp 7))⟩,
      ⟨(some 59), none, .op (.bin .add (.tmp 57) (.tmp 58))⟩,
      ⟨(some 60), none, .op (.slc 2 (.tmp 56) none (some (.tmp 59)) none)⟩,
      ⟨(some 0), none, .op (.move (.tmp 60))⟩])
    (.seq (.seq (.region [⟨(some 61), none, .op (.move (.tmp 2))⟩,
      ⟨(some 62), none, .op (.move (.tmp 0))⟩,
      ⟨(some 63), none, .op (.move (.tmp 1))⟩,
      ⟨(some 64), none, .op (.move (.tmp 7))⟩,
      ⟨(some 65), none, .op (.bin .add (.tmp 63) (.tmp 64))⟩,
      ⟨(some 66), none, .op (.slc 2 (.tmp 62) (some (.tmp 65)) none none)⟩,
      ⟨(some 67), none, .op (.ovl (.tmp 61) (.tmp 66))⟩,
      ⟨(some 68), none, .op (.un .not (.tmp 67))⟩])
    (.cond (.tmp 68) (.seq (.dregion [⟨0, ⟨(some 69), none, .op (.move (.tmp 0))⟩, []⟩,
      ⟨1, ⟨(some 70), none, .op (.move (.tmp 1))⟩, []⟩,
      ⟨2, ⟨(some 71), none, .op (.move (.tmp 7))⟩, []⟩,
      ⟨3, ⟨(some 72), none, .op (.bin .add (.tmp 70) (.tmp 71))⟩, []⟩,
      ⟨4, ⟨(some 73), none, .op (.slc 2 (.tmp 69) (some (.tmp 72)) none none)⟩, []⟩,
      ⟨5, ⟨(some 74), none, .op (.move (.tmp 0))⟩, []⟩,
      ⟨6, ⟨(some 75), none, .op (.move (.tmp 1))⟩, []⟩,
      ⟨7, ⟨(some 76), none, .op (.slc 2 (.tmp 74) (some (.tmp 75)) none none)⟩, []⟩,
      ⟨8, ⟨(some 77), none, .op (.copy 2 (.tmp 73) (.tmp 76))⟩, []⟩])
    (.seq (.region [⟨(some 78), none, .op (.move (.tmp 0))⟩,
      ⟨(some 79), none, .op (.move (.tmp 1))⟩,
      ⟨(some 80), none, .op (.slc 2 (.tmp 78) (some (.tmp 79)) none none)⟩,
      ⟨(some 81), none, .op (.move (.tmp 2))⟩,
      ⟨(some 82), none, .op (.copy 2 (.tmp 80) (.tmp 81))⟩])
    (.seq (.region [⟨(some 83), none, .op (.move (.tmp 0))⟩,
      ⟨(some 6), none, .op (.move (.tmp 83))⟩])
    .ret))) .skip))
    (.seq (.region [⟨(some 84), none, .op (.move (.tmp 0))⟩,
      ⟨(some 85), none, .op (.move (.tmp 8))⟩,
      ⟨(some 86), none, .op (.slc 2 (.tmp 84) (some (.tmp 85)) none none)⟩,
      ⟨(some 87), none, .op (.move (.tmp 2))⟩,
      ⟨(some 88), none, .op (.copy 2 (.tmp 86) (.tmp 87))⟩])
    (.seq (.region [⟨(some 89), none, .op (.move (.tmp 0))⟩,
      ⟨(some 90), none, .op (.move (.tmp 1))⟩,
      ⟨(some 91), none, .op (.slc 2 (.tmp 89) (some (.tmp 90)) none none)⟩,
      ⟨(some 92), none, .op (.move (.tmp 7))⟩,
      ⟨(some 93), none, .call (.func 58) [(.tmp 91), (.tmp 92)]⟩])
    (.seq (.region [⟨(some 94), none, .op (.move (.tmp 0))⟩,
      ⟨(some 6), none, .op (.move (.tmp 94))⟩])
    .ret))))))))))))
def XR35 : List RV := [.tmp 6]
theorem Xis35 : Is Tryz.prog (fun _ _ => false) 35 95 XA35 XR35 := ⟨Tryz.f35, Tryz.func35, rfl, by kernel_rfl, by kernel_rfl, Tryz.call35⟩
def fi35 : FI := .code 95 XA35 XR35
theorem ok35 : FI.ok Tryz.prog 35 fi35 := ⟨_, Xis35⟩
def XA37l0 : ACode :=
  (.seq (.seq (.region [⟨(some 11), none, .op (.move (.tmp 5))⟩,
      ⟨(some 12), none, .op (.move (.tmp 0))⟩,
      ⟨(some 13), none, .op (.len (.tmp 12))⟩,
      ⟨(some 14), none, .op (.bin .lss (.tmp 11) (.tmp 13))⟩])
    (.cond (.tmp 14) .skip (.exit 0)))
    (.seq (.block 1 (.seq (.dregion [⟨0, ⟨(some 17), none, .op (.move (.tmp 0))⟩, []⟩,
      ⟨1, ⟨(some 18), none, .op (.move (.tmp 5))⟩, []⟩,
      ⟨2, ⟨(some 19), none, .op (.idxA 1 (.tmp 17) (.tmp 18))⟩, []⟩,
      ⟨3, ⟨(some 20), none, .op (.load 1 false (.tmp 19))⟩, []⟩,
      ⟨4, ⟨(some 21), none, .op (.move (.tmp 1))⟩, []⟩,
      ⟨5, ⟨(some 22), none, .op (.move (.tmp 5))⟩, []⟩,
      ⟨6, ⟨(some 23), none, .op (.idxA 1 (.tmp 21) (.tmp 22))⟩, []⟩,
      ⟨7, ⟨(some 24), none, .op (.load 1 false (.tmp 23))⟩, []⟩,
      ⟨8, ⟨(some 25), none, .op (.bin .neq (.tmp 20) (.tmp 24))⟩, []⟩])
    (.cond (.tmp 25) (.seq (.region [⟨(some 4), none, .op (.move (.const (.bool false)))⟩])
    .ret) .skip)))
    (.region [⟨(some 15), none, .op (.move (.tmp 5))⟩,
      ⟨(some 16), none, .op (.bin .add (.tmp 15) (.const (.int .i64 1)))⟩,
      ⟨(some 5), none, .op (.move (.tmp 16))⟩])))
def XA37 : ACode :=
  (.seq (.region [⟨(some 4), none, .op (.move (.const (.bool false)))⟩])
    (.seq (.seq (.region [⟨(some 6), none, .op (.move (.tmp 0))⟩,
      ⟨(some 7), none, .op (.len (.tmp 6))⟩,
      ⟨(some 8), none, .op (.move (.tmp 1))⟩,
      ⟨(some 9), none, .op (.len (.tmp 8))⟩,
      ⟨(some 10), none, .op (.bin .neq (.tmp 7) (.tmp 9))⟩])
    (.cond (.tmp 10) (.seq (.region [⟨(some 4), none, .op (.move (.const (.bool false)))⟩])
    .ret) .skip))
    (.seq (.seq (.region [⟨(some 5), none, .op (.move (.const (.int .i64 0)))⟩])
    (.block 0 (.loop XA37l0)))
    (.seq (.region [⟨(some 4), none, .op (.move (.const (.bool true)))⟩])
    .ret))))
def XR37 : List RV := [.tmp 4]
theorem Xis37 : Is Tryz.prog (fun _ _ => false) 37 26 XA37 XR37 := ⟨Tryz.f37, Tryz.func37, rfl, by kernel_rfl, by kernel_rfl, Tryz.call37⟩
def fi37 : FI := .code 26 XA37 XR37
theorem ok37 : FI.ok Tryz.prog 37 fi37 := ⟨_, Xis37⟩
def XA39l0 : ACode :=
  (.seq (.region [⟨(some 48), none, .op (.bin .lss (.tmp 47) (.tmp 46))⟩])
    (.seq (.cond (.tmp 48) .skip (.exit 2))
    (.seq (.block 3 (.seq (.region [⟨(some 49), none, .op (.idxA 5 (.tmp 45) (.tmp 47))⟩,
      ⟨(some 50), none, .op (.load 5 true (.tmp 49))⟩,
      ⟨(some 6), none, .op (.alloc [.nilS, (.int .u8 0), (.str []), .nilS, .nilS])⟩,
      ⟨none, none, .op (.store 5 (.tmp 6) (.tmp 50))⟩])
    (.seq (.region [⟨(some 51), none, .op (.fieldA 0 (.tmp 6))⟩,
      ⟨(some 52), none, .op (.load 1 false (.tmp 51))⟩,
      ⟨(some 53), none, .op (.len (.tmp 52))⟩,
      ⟨(some 54), none, .op (.bin .gtr (.tmp 53) (.const (.int .i64 60)))⟩])
    (.cond (.tmp 54) (.seq (.region [⟨(some 2), none, .op (.move (.const (.bool true)))⟩])
    .ret) .skip))))
    (.region [⟨(some 55), none, .op (.bin .add (.tmp 47) (.const (.int .i64 1)))⟩,
      ⟨(some 47), none, .op (.move (.tmp 55))⟩]))))
def XA39l1 : ACode :=
  (.seq (.region [⟨(some 15), none, .op (.bin .lss (.tmp 14) (.tmp 13))⟩])
    (.seq (.cond (.tmp 15) .skip (.exit 0))
    (.seq (.block 1 (.seq (.region [⟨(some 16), none, .op (.idxA 5 (.tmp 12) (.tmp 14))⟩,
      ⟨(some 17), none, .op (.load 5 true (.tmp 16))⟩,
      ⟨(some 4), none, .op (.alloc [(.str []), .nilS, (.int .i64 0), .nilS, .nilS])⟩,
      ⟨none, none, .op (.store 5 (.tmp 4) (.tmp 17))⟩])
    (.seq (.seq (.region [⟨(some 18), none, .op (.fieldA 1 (.tmp 4))⟩,
      ⟨(some 19), none, .op (.load 1 false (.tmp 18))⟩,
      ⟨(some 20), none, .op (.len (.tmp 19))⟩,
      ⟨(some 21), none, .op (.bin .gtr (.tmp 20) (.const (.int .i64 8)))⟩,
      ⟨(some 22), none, .op (.move (.tmp 21))⟩,
      ⟨(some 23), (some (22, false)), .op (.fieldA 3 (.tmp 4))⟩,
      ⟨(some 24), (some (22, false)), .op (.load 1 false (.tmp 23))⟩,
      ⟨(some 25), (some (22, false)), .op (.len (.tmp 24))⟩,
      ⟨(some 26), (some (22, false)), .op (.bin .gtr (.tmp 25) (.const (.int .i64 40)))⟩,
      ⟨(some 27), none, .op (.pick (.tmp 22) (.const (.bool true)) (.tmp 26))⟩,
      ⟨(some 28), none, .op (.move (.tmp 27))⟩,
      ⟨(some 29), (some (28, false)), .op (.fieldA 1 (.tmp 4))⟩,
      ⟨(some 30), (some (28, false)), .op (.load 1 false (.tmp 29))⟩,
      ⟨(some 31), (some (28, false)), .op (.len (.tmp 30))⟩,
      ⟨(some 32), (some (28, false)), .op (.fieldA 3 (.tmp 4))⟩,
      ⟨(some 33), (some (28, false)), .op (.load 1 false (.tmp 32))⟩,
      ⟨(some 34), (some (28, false)), .op (.len (.tmp 33))⟩,
      ⟨(some 35), (some (28, false)), .op (.bin .add (.tmp 31) (.tmp 34))⟩,
      ⟨(some 36), (some (28, false)), .op (.bin .gtr (.tmp 35) (.const (.int .i64 40)))⟩,
      ⟨(some 37), none, .op (.pick (.tmp 28) (.const (.bool true)) (.tmp 36))⟩,
      ⟨(some 38), none, .op (.move (.tmp 37))⟩,
      ⟨(some 39), (some (38, false)), .op (.fieldA 4 (.tmp 4))⟩,
      ⟨(some 40), (some (38, false)), .op (.load 1 false (.tmp 39))⟩,
      ⟨(some 41), (some (38, false)), .op (.len (.tmp 40))⟩,
      ⟨(some 42), (some (38, false)), .op (.bin .gtr (.tmp 41) (.const (.int .i64 60)))⟩,
      ⟨(some 43), none, .op (.pick (.tmp 38) (.const (.bool true)) (.tmp 42))⟩])
    (.cond (.tmp 43) (.seq (.region [⟨(some 2), none, .op (.move (.const (.bool true)))⟩])
    .ret) .skip))
    (.seq (.region [⟨(some 44), none, .op (.fieldA 4 (.tmp 4))⟩,
      ⟨(some 45), none, .op (.load 1 false (.tmp 44))⟩,
      ⟨(some 46), none, .op (.len (.tmp 45))⟩,
      ⟨(some 47), none, .op (.move (.const (.int .i64 0)))⟩])
    (.block 2 (.loop XA39l0))))))
    (.region [⟨(some 56), none, .op (.bin .add (.tmp 14) (.const (.int .i64 1)))⟩,
      ⟨(some 14), none, .op (.move (.tmp 56))⟩]))))
def XA39 : ACode :=
  (.seq (.region [⟨(some 1), none, .op (.box (.tmp 0))⟩,
      ⟨(some 2), none, .op (.move (.const (.bool false)))⟩])
    (.seq (.seq (.region [⟨(some 7), none, .op (.fieldA 0 (.tmp 1))⟩,
      ⟨(some 8), none, .op (.load 1 false (.tmp 7))⟩,
      ⟨(some 9), none, .op (.len (.tmp 8))⟩,
      ⟨(some 10), none, .op (.bin .gtr (.tmp 9) (.const (.int .i64 16)))⟩])
    (.cond (.tmp 10) (.seq (.region [⟨(some 2), none, .op (.move (.const (.bool true)))⟩])
    .ret) .skip))
    (.seq (.seq (.region [⟨(some 11), none, .op (.fieldA 0 (.tmp 1))⟩,
      ⟨(some 12), none, .op (.load 1 false (.tmp 11))⟩,
      ⟨(some 13), none, .op (.len (.tmp 12))⟩,
      ⟨(some 14), none, .op (.move (.const (.int .i64 0)))⟩])
    (.block 0 (.loop XA39l1)))
    (.seq (.region [⟨(some 2), none, .op (.move (.const (.bool false)))⟩])
    .ret))))
def XR39 : List RV := [.tmp 2]
theorem Xis39 : Is Tryz.prog (fun _ _ => false) 39 57 XA39 XR39 := ⟨Tryz.f39, Tryz.func39, rfl, by kernel_rfl, by kernel_rfl, Tryz.call39⟩
def fi39 : FI := .code 57 XA39 XR39
theorem ok39 : FI.ok Tryz.prog 39 fi39 := ⟨_, Xis39⟩
def XA40l0 : ACode :=
  (.seq (.region [⟨(some 16), none, .op (.bin .lss (.tmp 15) (.tmp 14))⟩])
    (.seq (.cond (.tmp 16) .skip (.exit 0))
    (.seq (.block 1 (.seq (.region [⟨(some 17), none, .op (.idxA 2 (.tmp 13) (.tmp 15))⟩,
      ⟨(some 18), none, .op (.load 2 true (.tmp 17))⟩,
      ⟨(some 6), none, .op (.alloc [(.str []), (.int .i64 0)])⟩,
      ⟨none, none, .op (.store 2 (.tmp 6) (.tmp 18))⟩])
    (.seq (.seq (.region [⟨(some 19), none, .op (.fieldA 0 (.tmp 6))⟩,
      ⟨(some 20), none, .op (.load 1 false (.tmp 19))⟩,
      ⟨(some 21), none, .call (.func 47) [(.tmp 20)]⟩,
      ⟨(some 22), none, .op (.un .not (.tmp 21))⟩,
      ⟨(some 23), none, .op (.move (.tmp 22))⟩,
      ⟨(some 24), (some (23, false)), .op (.fieldA 1 (.tmp 6))⟩,
      ⟨(some 25), (some (23, false)), .op (.load 1 false (.tmp 24))⟩,
      ⟨(some 26), (some (23, false)), .op (.bin .lss (.tmp 25) (.const (.int .i64 1)))⟩,
      ⟨(some 27), none, .op (.pick (.tmp 23) (.const (.bool true)) (.tmp 26))⟩,
      ⟨(some 28), none, .op (.move (.tmp 27))⟩,
      ⟨(some 29), (some (28, false)), .op (.fieldA 1 (.tmp 6))⟩,
      ⟨(some 30), (some (28, false)), .op (.load 1 false (.tmp 29))⟩,
      ⟨(some 31), (some (28, false)), .op (.bin .gtr (.tmp 30) (.const (.int .i64 64)))⟩,
      ⟨(some 32), none, .op (.pick (.tmp 28) (.const (.bool true)) (.tmp 31))⟩,
      ⟨(some 33), none, .op (.move (.tmp 32))⟩,
      ⟨(some 34), (some (33, false)), .op (.move (.tmp 4))⟩,
      ⟨(some 35), (some (33, false)), .op (.fieldA 0 (.tmp 6))⟩,
      ⟨(some 36), (some (33, false)), .op (.load 1 false (.tmp 35))⟩,
      ⟨(some 37), (some (33, false)), .op (.m (.look .str (.int .i64 0) false (.tmp 34) (.tmp 36)))⟩,
      ⟨(some 38), (some (33, false)), .op (.bin .neq (.tmp 37) (.const (.int .i64 0)))⟩,
      ⟨(some 39), none, .op (.pick (.tmp 33) (.const (.bool true)) (.tmp 38))⟩])
    (.cond (.tmp 39) (.seq (.region [⟨(some 2), none, .op (.move (.const (.map none)))⟩,
      ⟨(some 3), none, .op (.move (.const (.bool false)))⟩])
    .ret) .skip))
    (.region [⟨(some 40), none, .op (.move (.tmp 4))⟩,
      ⟨(some 41), none, .op (.fieldA 0 (.tmp 6))⟩,
      ⟨(some 42), none, .op (.load 1 false (.tmp 41))⟩,
      ⟨(some 43), none, .op (.fieldA 1 (.tmp 6))⟩,
      ⟨(some 44), none, .op (.load 1 false (.tmp 43))⟩,
      ⟨none, none, .op (.m (.set .str (.tmp 40) (.tmp 42) (.tmp 44)))⟩]))))
    (.region [⟨(some 45), none, .op (.bin .add (.tmp 15) (.const (.int .i64 1)))⟩,
      ⟨(some 15), none, .op (.move (.tmp 45))⟩]))))
def XA40 : ACode :=
  (.seq (.region [⟨(some 1), none, .op (.box (.tmp 0))⟩,
      ⟨(some 2), none, .op (.move (.const (.map none)))⟩,
      ⟨(some 3), none, .op (.move (.const (.bool false)))⟩])
    (.seq (.region [⟨(some 7), none, .op (.m .mk)⟩,
      ⟨(some 4), none, .op (.move (.tmp 7))⟩])
    (.seq (.seq (.dregion [⟨0, ⟨(some 8), none, .op (.fieldA 1 (.tmp 1))⟩, []⟩,
      ⟨1, ⟨(some 9), none, .op (.load 1 false (.tmp 8))⟩, []⟩,
      ⟨3, ⟨(some 11), none, .op (.fieldA 3 (.tmp 1))⟩, []⟩,
      ⟨4, ⟨(some 12), none, .op (.load 1 false (.tmp 11))⟩, []⟩,
      ⟨7, ⟨(some 15), none, .op (.move (.const (.int .i64 0)))⟩, []⟩,
      ⟨2, ⟨(some 10), none, .call (.func 61) [(.tmp 9)]⟩, [3, 4, 7]⟩,
      ⟨5, ⟨(some 13), none, .op (.app 98 2 24 (.tmp 10) (.tmp 12))⟩, [7]⟩,
      ⟨6, ⟨(some 14), none, .op (.len (.tmp 13))⟩, []⟩])
    (.block 0 (.loop XA40l0)))
    (.seq (.region [⟨(some 46), none, .op (.move (.tmp 4))⟩,
      ⟨(some 2), none, .op (.move (.tmp 46))⟩,
      ⟨(some 3), none, .op (.move (.const (.bool true)))⟩])
    .ret))))
def XR40 : List RV := [.tmp 2, .tmp 3]
theorem Xis40 : Is Tryz.prog (fun _ _ => false) 40 47 XA40 XR40 := ⟨Tryz.f40, Tryz.func40, rfl, by kernel_rfl, by kernel_rfl, Tryz.call40⟩
def fi40 : FI := .code 47 XA40 XR40
theorem ok40 : FI.ok Tryz.prog 40 fi40 := ⟨_, Xis40⟩
def XA41l0 : ACode :=
  (.seq (.region [⟨(some 43), none, .op (.bin .lss (.tmp 42) (.tmp 41))⟩])
    (.seq (.cond (.tmp 43) .skip (.exit 2))
    (.seq (.block 3 (.seq (.region [⟨(some 44), none, .op (.idxA 4 (.tmp 40) (.tmp 42))⟩,
      ⟨(some 45), none, .op (.load 4 true (.tmp 44))⟩,
      ⟨(some 6), none, .op (.alloc [(.int .u8 0), (.str []), (.str []), .nilS])⟩,
      ⟨none, none, .op (.store 4 (.tmp 6) (.tmp 45))⟩])
    (.seq (.region [⟨(some 46), none, .op (.load 8 true (.tmp 1))⟩,
      ⟨(some 47), none, .op (.load 4 true (.tmp 6))⟩,
      ⟨(some 48), none, .call (.func 62) [(.tmp 46), (.tmp 47)]⟩,
      ⟨(some 49), none, .op (.un .not (.tmp 48))⟩])
    (.cond (.tmp 49) (.seq (.region [⟨(some 2), none, .op (.move (.const (.bool false)))⟩])
    .ret) .skip))))
    (.region [⟨(some 50), none, .op (.bin .add (.tmp 42) (.const (.int .i64 1)))⟩,
      ⟨(some 42), none, .op (.move (.tmp 50))⟩]))))
def XA41l1 : ACode :=
  (.seq (.region [⟨(some 36), none, .op (.bin .lss (.tmp 35) (.tmp 34))⟩])
    (.seq (.cond (.tmp 36) .skip (.exit 0))
    (.seq (.block 1 (.seq (.region [⟨(some 37), none, .op (.idxA 5 (.tmp 33) (.tmp 35))⟩,
      ⟨(some 38), none, .op (.load 5 true (.tmp 37))⟩,
      ⟨(some 4), none, .op (.alloc [.nilS, (.int .u8 0), (.str []), .nilS, .nilS])⟩,
      ⟨none, none, .op (.store 5 (.tmp 4) (.tmp 38))⟩])
    (.seq (.seq (.region [⟨(some 39), none, .op (.fieldA 0 (.tmp 4))⟩,
      ⟨(some 40), none, .op (.load 1 false (.tmp 39))⟩,
      ⟨(some 41), none, .op (.len (.tmp 40))⟩,
      ⟨(some 42), none, .op (.move (.const (.int .i64 0)))⟩])
    (.block 2 (.loop XA41l0)))
    (.seq (.region [⟨(some 51), none, .op (.load 8 true (.tmp 1))⟩,
      ⟨(some 52), none, .op (.fieldA 1 (.tmp 4))⟩,
      ⟨(some 53), none, .op (.load 4 true (.tmp 52))⟩,
      ⟨(some 54), none, .call (.func 63) [(.tmp 51), (.tmp 53)]⟩,
      ⟨(some 55), none, .op (.un .not (.tmp 54))⟩])
    (.cond (.tmp 55) (.seq (.region [⟨(some 2), none, .op (.move (.const (.bool false)))⟩])
    .ret) .skip)))))
    (.region [⟨(some 56), none, .op (.bin .add (.tmp 35) (.const (.int .i64 1)))⟩,
      ⟨(some 35), none, .op (.move (.tmp 56))⟩]))))
def XA41 : ACode :=
  (.seq (.region [⟨(some 1), none, .op (.box (.tmp 0))⟩,
      ⟨(some 2), none, .op (.move (.const (.bool false)))⟩])
    (.seq (.seq (.region [⟨(some 7), none, .op (.fieldA 1 (.tmp 1))⟩,
      ⟨(some 8), none, .op (.fieldA 0 (.tmp 7))⟩,
      ⟨(some 9), none, .op (.load 1 false (.tmp 8))⟩,
      ⟨(some 10), none, .call (.func 47) [(.tmp 9)]⟩,
      ⟨(some 11), none, .op (.un .not (.tmp 10))⟩,
      ⟨(some 12), none, .op (.move (.tmp 11))⟩,
      ⟨(some 13), (some (12, false)), .op (.fieldA 1 (.tmp 1))⟩,
      ⟨(some 14), (some (12, false)), .op (.fieldA 2 (.tmp 13))⟩,
      ⟨(some 15), (some (12, false)), .op (.load 1 false (.tmp 14))⟩,
      ⟨(some 16), (some (12, false)), .op (.bin .lss (.tmp 15) (.const (.int .i64 0)))⟩,
      ⟨(some 17), none, .op (.pick (.tmp 12) (.const (.bool true)) (.tmp 16))⟩,
      ⟨(some 18), none, .op (.move (.tmp 17))⟩,
      ⟨(some 19), (some (18, false)), .op (.fieldA 1 (.tmp 1))⟩,
      ⟨(some 20), (some (18, false)), .op (.fieldA 2 (.tmp 19))⟩,
      ⟨(some 21), (some (18, false)), .op (.load 1 false (.tmp 20))⟩,
      ⟨(some 22), (some (18, false)), .op (.bin .gtr (.tmp 21) (.const (.int .i64 64)))⟩,
      ⟨(some 23), none, .op (.pick (.tmp 18) (.const (.bool true)) (.tmp 22))⟩,
      ⟨(some 24), none, .op (.move (.tmp 23))⟩,
      ⟨(some 25), (some (24, false)), .op (.fieldA 1 (.tmp 1))⟩,
      ⟨(some 26), (some (24, false)), .op (.fieldA 4 (.tmp 25))⟩,
      ⟨(some 27), (some (24, false)), .op (.load 1 false (.tmp 26))⟩,
      ⟨(some 28), (some (24, false)), .op (.len (.tmp 27))⟩,
      ⟨(some 29), (some (24, false)), .op (.bin .eql (.tmp 28) (.const (.int .i64 0)))⟩,
      ⟨(some 30), none, .op (.pick (.tmp 24) (.const (.bool true)) (.tmp 29))⟩])
    (.cond (.tmp 30) (.seq (.region [⟨(some 2), none, .op (.move (.const (.bool false)))⟩])
    .ret) .skip))
    (.seq (.seq (.region [⟨(some 31), none, .op (.fieldA 1 (.tmp 1))⟩,
      ⟨(some 32), none, .op (.fieldA 4 (.tmp 31))⟩,
      ⟨(some 33), none, .op (.load 1 false (.tmp 32))⟩,
      ⟨(some 34), none, .op (.len (.tmp 33))⟩,
      ⟨(some 35), none, .op (.move (.const (.int .i64 0)))⟩])
    (.block 0 (.loop XA41l1)))
    (.seq (.region [⟨(some 2), none, .op (.move (.const (.bool true)))⟩])
    .ret))))
def XR41 : List RV := [.tmp 2]
theorem Xis41 : Is Tryz.prog (fun _ _ => false) 41 57 XA41 XR41 := ⟨Tryz.f41, Tryz.func41, rfl, by kernel_rfl, by kernel_rfl, Tryz.call41⟩
def fi41 : FI := .code 57 XA41 XR41
theorem ok41 : FI.ok Tryz.prog 41 fi41 := ⟨_, Xis41⟩
def XA42l0 : ACode :=
  (.seq (.region [⟨(some 9), none, .op (.bin .lss (.tmp 8) (.tmp 7))⟩])
    (.seq (.cond (.tmp 9) .skip (.exit 0))
    (.seq (.block 1 (.seq (.region [⟨(some 10), none, .op (.move (.tmp 8))⟩,
      ⟨(some 5), none, .op (.move (.tmp 10))⟩])
    (.seq (.region [⟨(some 11), none, .op (.move (.tmp 1))⟩,
      ⟨(some 12), none, .op (.move (.tmp 0))⟩,
      ⟨(some 13), none, .op (.move (.tmp 5))⟩,
      ⟨(some 14), none, .op (.idxA 5 (.tmp 12) (.tmp 13))⟩,
      ⟨(some 15), none, .op (.load 5 true (.tmp 14))⟩,
      ⟨(some 16), none, .call (.tmp 11) [(.tmp 15)]⟩])
    (.cond (.tmp 16) (.seq (.region [⟨(some 17), none, .op (.move (.tmp 5))⟩,
      ⟨(some 4), none, .op (.move (.tmp 17))⟩])
    .ret) .skip))))
    (.region [⟨(some 18), none, .op (.bin .add (.tmp 8) (.const (.int .i64 1)))⟩,
      ⟨(some 8), none, .op (.move (.tmp 18))⟩]))))
def XA42 : ACode :=
  (.seq (.region [⟨(some 4), none, .op (.move (.const (.int .i64 0)))⟩])
    (.seq (.seq (.region [⟨(some 6), none, .op (.move (.tmp 0))⟩,
      ⟨(some 7), none, .op (.len (.tmp 6))⟩,
      ⟨(some 8), none, .op (.move (.const (.int .i64 0)))⟩])
    (.block 0 (.loop XA42l0)))
    (.seq (.region [⟨(some 4), none, .op (.move (.const (.int .i64 (-1))))⟩])
    .ret)))
def XR42 : List RV := [.tmp 4]
theorem Xis42 : Is Tryz.prog (fun _ _ => false) 42 19 XA42 XR42 := ⟨Tryz.f42, Tryz.func42, rfl, by kernel_rfl, by kernel_rfl, Tryz.call42⟩
def fi42 : FI := .code 19 XA42 XR42
theorem ok42 : FI.ok Tryz.prog 42 fi42 := ⟨_, Xis42⟩
def XA43 : ACode :=
  (.seq (.region [⟨(some 2), none, .op (.box (.tmp 0))⟩,
      ⟨(some 3), none, .op (.move (.const (.bool false)))⟩])
    (.seq (.region [⟨(some 4), none, .op (.fieldA 0 (.tmp 2))⟩,
      ⟨(some 5), none, .op (.load 1 false (.tmp 4))⟩,
      ⟨(some 6), none, .op (.load 1 false (.tmp 1))⟩,
      ⟨(some 7), none, .op (.bin .eql (.tmp 5) (.tmp 6))⟩,
      ⟨(some 3), none, .op (.move (.tmp 7))⟩])
    .ret))
def XR43 : List RV := [.tmp 3]
theorem Xis43 : Is Tryz.prog (fun _ _ => false) 43 8 XA43 XR43 := ⟨Tryz.f43, Tryz.func43, rfl, by kernel_rfl, by kernel_rfl, Tryz.call43⟩
def fi43 : FI := .code 8 XA43 XR43
theorem ok43 : FI.ok Tryz.prog 43 fi43 := ⟨_, Xis43⟩
def XA47l0 : ACode :=
  (.seq (.region [⟨(some 17), none, .op (.bin .lss (.tmp 16) (.tmp 15))⟩])
    (.seq (.cond (.tmp 17) .skip (.exit 0))
    (.seq (.block 1 (.seq (.region [⟨(some 18), none, .op (.move (.tmp 16))⟩,
      ⟨(some 3), none, .op (.move (.tmp 18))⟩])
    (.seq (.region [⟨(some 19), none, .op (.move (.tmp 0))⟩,
      ⟨(some 20), none, .op (.move (.tmp 3))⟩,
      ⟨(some 21), none, .op (.idxs (.tmp 19) (.tmp 20))⟩,
      ⟨(some 4), none, .op (.move (.tmp 21))⟩])
    (.seq (.region [⟨(some 22), none, .op (.move (.tmp 4))⟩,
      ⟨(some 23), none, .op (.bin .geq (.tmp 22) (.const (.int .u8 97)))⟩,
      ⟨(some 24), none, .op (.move (.tmp 23))⟩,
      ⟨(some 25), (some (24, true)), .op (.move (.tmp 4))⟩,
      ⟨(some 26), (some (24, true)), .op (.bin .leq (.tmp 25) (.const (.int .u8 122)))⟩,
      ⟨(some 27), none, .op (.pick (.tmp 24) (.tmp 26) (.const (.bool false)))⟩,
      ⟨(some 28), none, .op (.move (.tmp 27))⟩,
      ⟨(some 29), (some (28, false)), .op (.move (.tmp 4))⟩,
      ⟨(some 30), (some (28, false)), .op (.bin .geq (.tmp 29) (.const (.int .u8 65)))⟩,
      ⟨(some 31), (some (28, false)), .op (.move (.tmp 30))⟩,
      ⟨(some 32), (some (31, true)), .op (.move (.tmp 4))⟩,
      ⟨(some 33), (some (31, true)), .op (.bin .leq (.tmp 32) (.const (.int .u8 90)))⟩,
      ⟨(some 34), (some (28, false)), .op (.pick (.tmp 31) (.tmp 33) (.const (.bool false)))⟩,
      ⟨(some 35), none, .op (.pick (.tmp 28) (.const (.bool true)) (.tmp 34))⟩,
      ⟨(some 5), none, .op (.move (.tmp 35))⟩])
    (.seq (.region [⟨(some 36), none, .op (.move (.tmp 5))⟩,
      ⟨(some 37), none, .op (.un .not (.tmp 36))⟩,
      ⟨(some 38), none, .op (.move (.tmp 37))⟩,
      ⟨(some 39), (some (38, true)), .op (.move (.tmp 3))⟩,
      ⟨(some 40), (some (38, true)), .op (.bin .eql (.tmp 39) (.const (.int .i64 0)))⟩,
      ⟨(some 41), (some (38, true)), .op (.move (.tmp 40))⟩,
      ⟨(some 42), (some (41, false)), .op (.move (.tmp 4))⟩,
      ⟨(some 43), (some (41, false)), .op (.bin .neq (.tmp 42) (.const (.int .u8 95)))⟩,
      ⟨(some 44), (some (41, false)), .op (.move (.tmp 43))⟩,
      ⟨(some 45), (some (44, true)), .op (.move (.tmp 4))⟩,
      ⟨(some 46), (some (44, true)), .op (.bin .lss (.tmp 45) (.const (.int .u8 48)))⟩,
      ⟨(some 47), (some (44, true)), .op (.move (.tmp 46))⟩,
      ⟨(some 48), (some (47, false)), .op (.move (.tmp 4))⟩,
      ⟨(some 49), (some (47, false)), .op (.bin .gtr (.tmp 48) (.const (.int .u8 57)))⟩,
      ⟨(some 50), (some (44, true)), .op (.pick (.tmp 47) (.const (.bool true)) (.tmp 49))⟩,
      ⟨(some 51), (some (41, false)), .op (.pick (.tmp 44) (.tmp 50) (.const (.bool false)))⟩,
      ⟨(some 52), (some (38, true)), .op (.pick (.tmp 41) (.const (.bool true)) (.tmp 51))⟩,
      ⟨(some 53), none, .op (.pick (.tmp 38) (.tmp 52) (.const (.bool false)))⟩])
    (.cond (.tmp 53) (.seq (.region [⟨(some 2), none, .op (.move (.const (.bool false)))⟩])
    .ret) .skip))))))
    (.region [⟨(some 54), none, .op (.bin .add (.tmp 16) (.const (.int .i64 1)))⟩,
      ⟨(some 16), none, .op (.move (.tmp 54))⟩]))))
def XA47 : ACode :=
  (.seq (.region [⟨(some 2), none, .op (.move (.const (.bool false)))⟩])
    (.seq (.seq (.region [⟨(some 6), none, .op (.move (.tmp 0))⟩,
      ⟨(some 7), none, .op (.lens (.tmp 6))⟩,
      ⟨(some 8), none, .op (.bin .lss (.tmp 7) (.const (.int .i64 1)))⟩,
      ⟨(some 9), none, .op (.move (.tmp 8))⟩,
      ⟨(some 10), (some (9, false)), .op (.move (.tmp 0))⟩,
      ⟨(some 11), (some (9, false)), .op (.lens (.tmp 10))⟩,
      ⟨(some 12), (some (9, false)), .op (.bin .gtr (.tmp 11) (.const (.int .i64 24)))⟩,
      ⟨(some 13), none, .op (.pick (.tmp 9) (.const (.bool true)) (.tmp 12))⟩])
    (.cond (.tmp 13) (.seq (.region [⟨(some 2), none, .op (.move (.const (.bool false)))⟩])
    .ret) .skip))
    (.seq (.seq (.region [⟨(some 14), none, .op (.move (.tmp 0))⟩,
      ⟨(some 15), none, .op (.lens (.tmp 14))⟩,
      ⟨(some 16), none, .op (.move (.const (.int .i64 0)))⟩])
    (.block 0 (.loop XA47l0)))
    (.seq (.region [⟨(some 2), none, .op (.move (.const (.bool true)))⟩])
    .ret))))
def XR47 : List RV := [.tmp 2]
theorem Xis47 : Is Tryz.prog (fun _ _ => false) 47 55 XA47 XR47 := ⟨Tryz.f47, Tryz.func47, rfl, by kernel_rfl, by kernel_rfl, Tryz.call47⟩
def fi47 : FI := .code 55 XA47 XR47
theorem ok47 : FI.ok Tryz.prog 47 fi47 := ⟨_, Xis47⟩
def XA53l0 : ACode :=
  (.seq (.region [⟨(some 31), none, .op (.bin .lss (.tmp 30) (.tmp 29))⟩])
    (.seq (.cond (.tmp 31) .skip (.exit 0))
    (.seq (.block 1 (.seq (.region [⟨(some 32), none, .op (.move (.tmp 30))⟩,
      ⟨(some 33), none, .op (.idxA 2 (.tmp 28) (.tmp 30))⟩,
      ⟨(some 34), none, .op (.load 2 true (.tmp 33))⟩,
      ⟨(some 12), none, .op (.alloc [(.str []), (.int .i64 0)])⟩,
      ⟨(some 11), none, .op (.move (.tmp 32))⟩,
      ⟨none, none, .op (.store 2 (.tmp 12) (.tmp 34))⟩])
    (.dregion [⟨0, ⟨(some 35), none, .op (.fieldA 3 (.tmp 9))⟩, []⟩,
      ⟨1, ⟨(some 36), none, .op (.load 1 false (.tmp 35))⟩, []⟩,
      ⟨2, ⟨(some 37), none, .op (.fieldA 0 (.tmp 12))⟩, []⟩,
      ⟨3, ⟨(some 38), none, .op (.load 1 false (.tmp 37))⟩, []⟩,
      ⟨4, ⟨(some 39), none, .op (.fieldA 1 (.tmp 12))⟩, []⟩,
      ⟨5, ⟨(some 40), none, .op (.load 1 false (.tmp 39))⟩, []⟩,
      ⟨6, ⟨(some 41), none, .op (.move (.tmp 2))⟩, []⟩,
      ⟨7, ⟨(some 42), none, .op (.move (.tmp 11))⟩, []⟩,
      ⟨8, ⟨(some 43), none, .op (.idxA 1 (.tmp 41) (.tmp 42))⟩, []⟩,
      ⟨9, ⟨(some 44), none, .op (.load 1 false (.tmp 43))⟩, []⟩,
      ⟨10, ⟨(some 45), none, .op (.build [(.str []), (.int .i64 0), (.int .u64 0)] [(0, 1, (.tmp 38)), (1, 1, (.tmp 40)), (2, 1, (.tmp 44))])⟩, []⟩,
      ⟨11, ⟨(some 46), none, .op (.buildF [(.str []), (.int .i64 0), (.int .u64 0)] 1 [(0, (.tmp 45))])⟩, []⟩,
      ⟨12, ⟨(some 47), none, .op (.app 135 3 32 (.tmp 36) (.tmp 46))⟩, []⟩,
      ⟨13, ⟨(some 48), none, .op (.fieldA 3 (.tmp 9))⟩, []⟩,
      ⟨14, ⟨none, none, .op (.store 1 (.tmp 48) (.tmp 47))⟩, []⟩])))
    (.region [⟨(some 49), none, .op (.bin .add (.tmp 30) (.const (.int .i64 1)))⟩,
      ⟨(some 30), none, .op (.move (.tmp 49))⟩]))))
def XA53l1 : ACode :=
  (.seq (.region [⟨(some 54), none, .op (.bin .lss (.tmp 53) (.tmp 52))⟩])
    (.seq (.cond (.tmp 54) .skip (.exit 2))
    (.seq (.block 3 (.seq (.region [⟨(some 55), none, .op (.idxA 2 (.tmp 51) (.tmp 53))⟩,
      ⟨(some 56), none, .op (.load 2 true (.tmp 55))⟩,
      ⟨(some 14), none, .op (.alloc [(.str []), (.int .i64 0)])⟩,
      ⟨none, none, .op (.store 2 (.tmp 14) (.tmp 56))⟩])
    (.region [⟨(some 57), none, .op (.fieldA 3 (.tmp 9))⟩,
      ⟨(some 58), none, .op (.load 1 false (.tmp 57))⟩,
      ⟨(some 59), none, .op (.fieldA 0 (.tmp 14))⟩,
      ⟨(some 60), none, .op (.load 1 false (.tmp 59))⟩,
      ⟨(some 61), none, .op (.fieldA 1 (.tmp 14))⟩,
      ⟨(some 62), none, .op (.load 1 false (.tmp 61))⟩,
      ⟨(some 63), none, .op (.build [(.str []), (.int .i64 0), (.int .u64 0)] [(0, 1, (.tmp 60)), (1, 1, (.tmp 62))])⟩,
      ⟨(some 64), none, .op (.buildF [(.str []), (.int .i64 0), (.int .u64 0)] 1 [(0, (.tmp 63))])⟩,
      ⟨(some 65), none, .op (.app 135 3 32 (.tmp 58) (.tmp 64))⟩,
      ⟨(some 66), none, .op (.fieldA 3 (.tmp 9))⟩,
      ⟨none, none, .op (.store 1 (.tmp 66) (.tmp 65))⟩])))
    (.region [⟨(some 67), none, .op (.bin .add (.tmp 53) (.const (.int .i64 1)))⟩,
      ⟨(some 53), none, .op (.move (.tmp 67))⟩]))))
def XA53 : ACode :=
  (.seq (.region [⟨(some 8), none, .op (.alloc [(.int .i64 0), (.int .i64 0), (.int .i64 0), .nilS, (.str [])])⟩])
    (.seq (.region [⟨(some 15), none, .op (.move (.tmp 1))⟩,
      ⟨(some 16), none, .op (.build [(.int .i64 0), (.int .i64 0), (.int .i64 0)] [(0, 1, (.tmp 15))])⟩,
      ⟨(some 17), none, .op (.move (.tmp 3))⟩,
      ⟨(some 18), none, .op (.build [(.int .i64 0), (.int .i64 0), (.int .i64 0), .nilS, (.str [])] [(0, 3, (.tmp 16)), (4, 1, (.tmp 17))])⟩,
      ⟨(some 9), none, .op (.alloc [(.int .i64 0), (.int .i64 0), (.int .i64 0), .nilS, (.str [])])⟩,
      ⟨none, none, .op (.store 5 (.tmp 9) (.tmp 18))⟩])
    (.seq (.region [⟨(some 19), none, .op (.move (.tmp 0))⟩,
      ⟨(some 20), none, .op (.nilck (.tmp 19))⟩,
      ⟨(some 21), none, .op (.fieldA 0 (.tmp 20))⟩,
      ⟨(some 22), none, .op (.fieldA 0 (.tmp 21))⟩,
      ⟨(some 23), none, .op (.load 1 false (.tmp 22))⟩,
      ⟨(some 24), none, .op (.move (.tmp 1))⟩,
      ⟨(some 25), none, .op (.idxA 5 (.tmp 23) (.tmp 24))⟩,
      ⟨(some 26), none, .op (.load 5 true (.tmp 25))⟩,
      ⟨(some 10), none, .op (.alloc [(.str []), .nilS, (.int .i64 0), .nilS, .nilS])⟩,
      ⟨none, none, .op (.store 5 (.tmp 10) (.tmp 26))⟩])
    (.seq (.seq (.region [⟨(some 27), none, .op (.fieldA 1 (.tmp 10))⟩,
      ⟨(some 28), none, .op (.load 1 false (.tmp 27))⟩,
      ⟨(some 29), none, .op (.len (.tmp 28))⟩,
      ⟨(some 30), none, .op (.move (.const (.int .i64 0)))⟩])
    (.block 0 (.loop XA53l0)))
    (.seq (.seq (.region [⟨(some 50), none, .op (.fieldA 3 (.tmp 10))⟩,
      ⟨(some 51), none, .op (.load 1 false (.tmp 50))⟩,
      ⟨(some 52), none, .op (.len (.tmp 51))⟩,
      ⟨(some 53), none, .op (.move (.const (.int .i64 0)))⟩])
    (.block 2 (.loop XA53l1)))
    (.seq (.region [⟨(some 68), none, .op (.fieldA 3 (.tmp 9))⟩,
      ⟨(some 69), none, .op (.load 1 false (.tmp 68))⟩,
      ⟨(some 70), none, .call (.func 68) [(.tmp 69), (.func 69)]⟩])
    (.seq (.region [⟨(some 71), none, .op (.load 5 true (.tmp 9))⟩,
      ⟨none, none, .op (.store 5 (.tmp 8) (.tmp 71))⟩])
    .ret)))))))
def XR53 : List RV := [.cell 8 5 true]
theorem Xis53 : Is Tryz.prog (fun _ _ => false) 53 72 XA53 XR53 := ⟨Tryz.f53, Tryz.func53, rfl, by kernel_rfl, by kernel_rfl, Tryz.call53⟩
def fi53 : FI := .code 72 XA53 XR53
theorem ok53 : FI.ok Tryz.prog 53 fi53 := ⟨_, Xis53⟩
def XA54p0 : ACode :=
  (.region [⟨(some 2), none, .op (.alloc [(.int .u8 0)])⟩])
def XA54l0 : ACode :=
  (.seq (.seq (.region [⟨(some 6), none, .op (.move (.tmp 0))⟩,
      ⟨(some 7), none, .op (.nilck (.tmp 6))⟩,
      ⟨(some 8), none, .op (.fieldA 2 (.tmp 7))⟩,
      ⟨(some 9), none, .op (.load 1 false (.tmp 8))⟩,
      ⟨(some 10), none, .op (.bin .gtr (.tmp 9) (.const (.int .i64 0)))⟩])
    (.cond (.tmp 10) .skip (.exit 0)))
    (.seq (.block 1 (.seq (.region [⟨(some 18), none, .op (.move (.tmp 0))⟩,
      ⟨(some 19), none, .call (.func 72) [(.tmp 18)]⟩,
      ⟨(some 3), none, .op (.move (.tmp 19))⟩])
    (.seq (.dregion [⟨0, ⟨(some 20), none, .op (.move (.tmp 0))⟩, []⟩,
      ⟨1, ⟨(some 21), none, .op (.nilck (.tmp 20))⟩, []⟩,
      ⟨2, ⟨(some 22), none, .op (.fieldA 0 (.tmp 21))⟩, []⟩,
      ⟨3, ⟨(some 23), none, .op (.fieldA 0 (.tmp 22))⟩, []⟩,
      ⟨4, ⟨(some 24), none, .op (.load 1 false (.tmp 23))⟩, []⟩,
      ⟨5, ⟨(some 25), none, .op (.move (.tmp 3))⟩, []⟩,
      ⟨6, ⟨(some 26), none, .op (.nilck (.tmp 25))⟩, []⟩,
      ⟨7, ⟨(some 27), none, .op (.fieldA 0 (.tmp 26))⟩, []⟩,
      ⟨8, ⟨(some 28), none, .op (.fieldA 0 (.tmp 27))⟩, []⟩,
      ⟨9, ⟨(some 29), none, .op (.load 1 false (.tmp 28))⟩, []⟩,
      ⟨10, ⟨(some 30), none, .op (.idxA 5 (.tmp 24) (.tmp 29))⟩, []⟩,
      ⟨11, ⟨(some 31), none, .op (.fieldA 4 (.tmp 30))⟩, []⟩,
      ⟨12, ⟨(some 32), none, .op (.load 1 false (.tmp 31))⟩, []⟩,
      ⟨13, ⟨(some 33), none, .op (.move (.tmp 3))⟩, []⟩,
      ⟨14, ⟨(some 34), none, .op (.nilck (.tmp 33))⟩, []⟩,
      ⟨15, ⟨(some 35), none, .op (.fieldA 0 (.tmp 34))⟩, []⟩,
      ⟨16, ⟨(some 36), none, .op (.fieldA 1 (.tmp 35))⟩, []⟩,
      ⟨17, ⟨(some 37), none, .op (.load 1 false (.tmp 36))⟩, []⟩,
      ⟨18, ⟨(some 38), none, .op (.idxA 5 (.tmp 32) (.tmp 37))⟩, []⟩,
      ⟨19, ⟨(some 39), none, .op (.load 5 true (.tmp 38))⟩, []⟩,
      ⟨20, ⟨(some 4), none, .op (.alloc [.nilS, (.int .u8 0), (.str []), .nilS, .nilS])⟩, [0, 1, 2, 3, 4, 5, 6, 7, 8, 9, 10, 11, 12, 13, 14, 15, 16, 17, 18, 19]⟩,
      ⟨21, ⟨none, none, .op (.store 5 (.tmp 4) (.tmp 39))⟩, []⟩])
    (.seq (.dregion [⟨0, ⟨(some 40), none, .op (.move (.tmp 3))⟩, []⟩,
      ⟨1, ⟨(some 41), none, .op (.nilck (.tmp 40))⟩, []⟩,
      ⟨2, ⟨(some 42), none, .op (.fieldA 0 (.tmp 41))⟩, []⟩,
      ⟨3, ⟨(some 43), none, .op (.fieldA 2 (.tmp 42))⟩, []⟩,
      ⟨4, ⟨(some 44), none, .op (.load 1 false (.tmp 43))⟩, []⟩,
      ⟨5, ⟨(some 45), none, .op (.fieldA 0 (.tmp 4))⟩, []⟩,
      ⟨6, ⟨(some 46), none, .op (.load 1 false (.tmp 45))⟩, []⟩,
      ⟨7, ⟨(some 47), none, .op (.len (.tmp 46))⟩, []⟩,
      ⟨8, ⟨(some 48), none, .op (.bin .lss (.tmp 44) (.tmp 47))⟩, []⟩])
    (.cond (.tmp 48) (.dregion [⟨0, ⟨(some 49), none, .op (.move (.tmp 0))⟩, []⟩,
      ⟨1, ⟨(some 50), none, .op (.fieldA 0 (.tmp 4))⟩, []⟩,
      ⟨2, ⟨(some 51), none, .op (.load 1 false (.tmp 50))⟩, []⟩,
      ⟨3, ⟨(some 52), none, .op (.move (.tmp 3))⟩, []⟩,
      ⟨4, ⟨(some 53), none, .op (.nilck (.tmp 52))⟩, []⟩,
      ⟨5, ⟨(some 54), none, .op (.fieldA 0 (.tmp 53))⟩, []⟩,
      ⟨6, ⟨(some 55), none, .op (.fieldA 2 (.tmp 54))⟩, []⟩,
      ⟨7, ⟨(some 56), none, .op (.load 1 false (.tmp 55))⟩, []⟩,
      ⟨8, ⟨(some 57), none, .op (.idxA 4 (.tmp 51) (.tmp 56))⟩, []⟩,
      ⟨9, ⟨(some 58), none, .op (.load 4 true (.tmp 57))⟩, []⟩,
      ⟨10, ⟨(some 59), none, .call (.func 73) [(.tmp 49), (.tmp 58)]⟩, []⟩]) (.region [⟨(some 60), none, .op (.move (.tmp 0))⟩,
      ⟨(some 61), none, .op (.fieldA 1 (.tmp 4))⟩,
      ⟨(some 62), none, .op (.load 4 true (.tmp 61))⟩,
      ⟨(some 63), none, .call (.func 74) [(.tmp 60), (.tmp 62)]⟩]))))))
    (.region [⟨(some 11), none, .op (.move (.tmp 0))⟩,
      ⟨(some 12), none, .op (.nilck (.tmp 11))⟩,
      ⟨(some 13), none, .op (.fieldA 2 (.tmp 12))⟩,
      ⟨(some 14), none, .op (.load 1 false (.tmp 13))⟩,
      ⟨(some 15), none, .op (.bin .sub (.tmp 14) (.const (.int .i64 1)))⟩,
      ⟨(some 16), none, .op (.nilck (.tmp 11))⟩,
      ⟨(some 17), none, .op (.fieldA 2 (.tmp 16))⟩,
      ⟨none, none, .op (.store 1 (.tmp 17) (.tmp 15))⟩])))
def XA54 : DfI :=
  ⟨[XA54p0], 5, 71, [(.tmp 2)],
    (.seq (.block 0 (.loop XA54l0))
    (.seq (.region [⟨none, none, .op (.store 1 (.tmp 2) (.const (.int .u8 3)))⟩])
    .ret))⟩
def XR54 : List RV := [.cell 2 1 false]
def fi54 : FI := .dfr 64 XA54 XR54
theorem ok54 : FI.ok Tryz.prog 54 fi54 := ⟨(fun _ _ => false), Tryz.f54, Tryz.func54, rfl, by kernel_rfl, by kernel_rfl, Tryz.call54⟩
def XA55l0 : ACode :=
  (.seq (.region [⟨(some 11), none, .op (.bin .lss (.tmp 10) (.tmp 9))⟩])
    (.seq (.cond (.tmp 11) .skip (.exit 0))
    (.seq (.block 1 (.seq (.region [⟨(some 12), none, .op (.move (.tmp 10))⟩,
      ⟨(some 13), none, .op (.idxA 2 (.tmp 8) (.tmp 10))⟩,
      ⟨(some 14), none, .op (.load 2 true (.tmp 13))⟩,
      ⟨(some 4), none, .op (.alloc [(.int .u64 0), (.int .u8 0)])⟩,
      ⟨(some 3), none, .op (.move (.tmp 12))⟩,
      ⟨none, none, .op (.store 2 (.tmp 4) (.tmp 14))⟩])
    (.seq (.dregion [⟨0, ⟨(some 15), none, .op (.fieldA 1 (.tmp 4))⟩, []⟩,
      ⟨1, ⟨(some 16), none, .op (.load 1 false (.tmp 15))⟩, []⟩,
      ⟨2, ⟨(some 17), none, .op (.bin .eql (.tmp 16) (.const (.int .u8 0)))⟩, []⟩,
      ⟨3, ⟨(some 18), none, .op (.move (.tmp 17))⟩, []⟩,
      ⟨4, ⟨(some 19), (some (18, false)), .op (.move (.tmp 3))⟩, []⟩,
      ⟨5, ⟨(some 20), (some (18, false)), .op (.bin .gtr (.tmp 19) (.const (.int .i64 0)))⟩, []⟩,
      ⟨6, ⟨(some 21), (some (18, false)), .op (.move (.tmp 20))⟩, []⟩,
      ⟨7, ⟨(some 22), (some (21, true)), .op (.move (.tmp 0))⟩, []⟩,
      ⟨8, ⟨(some 23), (some (21, true)), .op (.move (.tmp 3))⟩, []⟩,
      ⟨9, ⟨(some 24), (some (21, true)), .op (.bin .sub (.tmp 23) (.const (.int .i64 1)))⟩, []⟩,
      ⟨10, ⟨(some 25), (some (21, true)), .op (.idxA 2 (.tmp 22) (.tmp 24))⟩, []⟩,
      ⟨11, ⟨(some 26), (some (21, true)), .op (.fieldA 0 (.tmp 25))⟩, []⟩,
      ⟨12, ⟨(some 27), (some (21, true)), .op (.load 1 false (.tmp 26))⟩, []⟩,
      ⟨13, ⟨(some 28), (some (21, true)), .op (.fieldA 0 (.tmp 4))⟩, []⟩,
      ⟨14, ⟨(some 29), (some (21, true)), .op (.load 1 false (.tmp 28))⟩, []⟩,
      ⟨15, ⟨(some 30), (some (21, true)), .op (.bin .geq (.tmp 27) (.tmp 29))⟩, []⟩,
      ⟨16, ⟨(some 31), (some (18, false)), .op (.pick (.tmp 21) (.tmp 30) (.const (.bool false)))⟩, []⟩,
      ⟨17, ⟨(some 32), none, .op (.pick (.tmp 18) (.const (.bool true)) (.tmp 31))⟩, []⟩])
    (.cond (.tmp 32) (.seq (.region [⟨(some 2), none, .op (.move (.const (.int .i64 8)))⟩])
    .ret) .skip))))
    (.region [⟨(some 33), none, .op (.bin .add (.tmp 10) (.const (.int .i64 1)))⟩,
      ⟨(some 10), none, .op (.move (.tmp 33))⟩]))))
def XA55 : ACode :=
  (.seq (.region [⟨(some 2), none, .op (.move (.const (.int .i64 0)))⟩])
    (.seq (.seq (.region [⟨(some 5), none, .op (.move (.tmp 0))⟩,
      ⟨(some 6), none, .op (.len (.tmp 5))⟩,
      ⟨(some 7), none, .op (.bin .gtr (.tmp 6) (.const (.int .i64 4096)))⟩])
    (.cond (.tmp 7) (.seq (.region [⟨(some 2), none, .op (.move (.const (.int .i64 8)))⟩])
    .ret) .skip))
    (.seq (.seq (.region [⟨(some 8), none, .op (.move (.tmp 0))⟩,
      ⟨(some 9), none, .op (.len (.tmp 8))⟩,
      ⟨(some 10), none, .op (.move (.const (.int .i64 0)))⟩])
    (.block 0 (.loop XA55l0)))
    (.seq (.region [⟨(some 2), none, .op (.move (.const (.int .i64 0)))⟩])
    .ret))))
def XR55 : List RV := [.tmp 2]
theorem Xis55 : Is Tryz.prog (fun _ _ => false) 55 34 XA55 XR55 := ⟨Tryz.f55, Tryz.func55, rfl, by kernel_rfl, by kernel_rfl, Tryz.call55⟩
def fi55 : FI := .code 34 XA55 XR55
theorem ok55 : FI.ok Tryz.prog 55 fi55 := ⟨_, Xis55⟩
def XA56l0 : ACode :=
  (.seq (.region [⟨(some 9), none, .op (.bin .lss (.tmp 8) (.tmp 7))⟩])
    (.seq (.cond (.tmp 9) .skip (.exit 0))
    (.seq (.block 1 (.seq (.region [⟨(some 10), none, .op (.move (.tmp 8))⟩,
      ⟨(some 5), none, .op (.move (.tmp 10))⟩])
    (.seq (.region [⟨(some 11), none, .op (.move (.tmp 1))⟩,
      ⟨(some 12), none, .op (.move (.tmp 0))⟩,
      ⟨(some 13), none, .op (.move (.tmp 5))⟩,
      ⟨(some 14), none, .op (.idxA 1 (.tmp 12) (.tmp 13))⟩,
      ⟨(some 15), none, .op (.load 1 false (.tmp 14))⟩,
      ⟨(some 16), none, .op (.bin .eql (.tmp 11) (.tmp 15))⟩])
    (.cond (.tmp 16) (.seq (.region [⟨(some 17), none, .op (.move (.tmp 5))⟩,
      ⟨(some 4), none, .op (.move (.tmp 17))⟩])
    .ret) .skip))))
    (.region [⟨(some 18), none, .op (.bin .add (.tmp 8) (.const (.int .i64 1)))⟩,
      ⟨(some 8), none, .op (.move (.tmp 18))⟩]))))
def XA56 : ACode :=
  (.seq (.region [⟨(some 4), none, .op (.move (.const (.int .i64 0)))⟩])
    (.seq (.seq (.region [⟨(some 6), none, .op (.move (.tmp 0))⟩,
      ⟨(some 7), none, .op (.len (.tmp 6))⟩,
      ⟨(some 8), none, .op (.move (.const (.int .i64 0)))⟩])
    (.block 0 (.loop XA56l0)))
    (.seq (.region [⟨(some 4), none, .op (.move (.const (.int .i64 (-1))))⟩])
    .ret)))
def XR56 : List RV := [.tmp 4]
theorem Xis56 : Is Tryz.prog (fun _ _ => false) 56 19 XA56 XR56 := ⟨Tryz.f56, Tryz.func56, rfl, by kernel_rfl, by kernel_rfl, Tryz.call56⟩
def fi56 : FI := .code 19 XA56 XR56
theorem ok56 : FI.ok Tryz.prog 56 fi56 := ⟨_, Xis56⟩
def XA61 : ACode :=
  (.seq (.region [⟨(some 2), none, .op (.move (.const (.slice none 0 0)))⟩])
    (.seq (.seq (.region [⟨(some 3), none, .op (.move (.tmp 0))⟩,
      ⟨(some 4), none, .op (.eqN false .sl (.tmp 3))⟩])
    (.cond (.tmp 4) (.seq (.region [⟨(some 2), none, .op (.move (.const (.slice none 0 0)))⟩])
    .ret) .skip))
    (.seq (.region [⟨(some 5), none, .op (.buildO 98 [(.str []), (.int .i64 0)] 0 [])⟩,
      ⟨(some 6), none, .op (.move (.tmp 0))⟩,
      ⟨(some 7), none, .op (.app 98 2 24 (.tmp 5) (.tmp 6))⟩,
      ⟨(some 2), none, .op (.move (.tmp 7))⟩])
    .ret)))
def XR61 : List RV := [.tmp 2]
theorem Xis61 : Is Tryz.prog (fun r i => [(3, 0)].contains (r, i)) 61 8 XA61 XR61 := ⟨Tryz.f61, Tryz.func61, rfl, by kernel_rfl, by kernel_rfl, Tryz.call61⟩
def fi61 : FI := .code 8 XA61 XR61
theorem ok61 : FI.ok Tryz.prog 61 fi61 := ⟨_, Xis61⟩
def XA62 : ACode :=
  (.seq (.region [⟨(some 2), none, .op (.box (.tmp 0))⟩,
      ⟨(some 3), none, .op (.box (.tmp 1))⟩,
      ⟨(some 4), none, .op (.move (.const (.bool false)))⟩])
    (.seq (.region [⟨(some 8), none, .op (.fieldA 3 (.tmp 3))⟩,
      ⟨(some 9), none, .op (.load 1 false (.tmp 8))⟩,
      ⟨(some 10), none, .op (.len (.tmp 9))⟩,
      ⟨(some 5), none, .op (.move (.tmp 10))⟩])
    (.seq (.seq (.region [⟨(some 11), none, .op (.fieldA 0 (.tmp 3))⟩,
      ⟨(some 12), none, .op (.load 1 false (.tmp 11))⟩])
    (.block 0 (.seq (.region [⟨(some 14), none, .op (.bin .eql (.tmp 12) (.const (.int .u8 1)))⟩,
      ⟨(some 13), none, .op (.move (.tmp 14))⟩])
    (.cond (.tmp 13) (.seq (.dregion [⟨0, ⟨(some 15), none, .op (.fieldA 6 (.tmp 2))⟩, []⟩,
      ⟨1, ⟨(some 16), none, .op (.load 1 false (.tmp 15))⟩, []⟩,
      ⟨2, ⟨(some 17), none, .op (.fieldA 1 (.tmp 3))⟩, []⟩,
      ⟨3, ⟨(some 18), none, .op (.load 1 false (.tmp 17))⟩, []⟩,
      ⟨4, ⟨(some 19), none, .op (.m (.look .str (.int .i64 0) false (.tmp 16) (.tmp 18)))⟩, []⟩,
      ⟨5, ⟨(some 20), none, .op (.bin .neq (.tmp 19) (.const (.int .i64 0)))⟩, []⟩,
      ⟨6, ⟨(some 21), none, .op (.move (.tmp 20))⟩, []⟩,
      ⟨7, ⟨(some 22), (some (21, true)), .op (.fieldA 2 (.tmp 3))⟩, []⟩,
      ⟨8, ⟨(some 23), (some (21, true)), .op (.load 1 false (.tmp 22))⟩, []⟩,
      ⟨9, ⟨(some 24), (some (21, true)), .op (.bin .eql (.tmp 23) (.const (.string ⟨#[]⟩)))⟩, []⟩,
      ⟨10, ⟨(some 25), none, .op (.pick (.tmp 21) (.tmp 24) (.const (.bool false)))⟩, []⟩,
      ⟨11, ⟨(some 26), none, .op (.move (.tmp 25))⟩, []⟩,
      ⟨12, ⟨(some 27), (some (26, true)), .op (.move (.tmp 5))⟩, []⟩,
      ⟨13, ⟨(some 28), (some (26, true)), .op (.bin .eql (.tmp 27) (.const (.int .i64 1)))⟩, []⟩,
      ⟨14, ⟨(some 29), none, .op (.pick (.tmp 26) (.tmp 28) (.const (.bool false)))⟩, []⟩,
      ⟨15, ⟨(some 30), none, .op (.move (.tmp 29))⟩, []⟩,
      ⟨16, ⟨(some 31), (some (30, true)), .op (.load 8 true (.tmp 2))⟩, []⟩,
      ⟨17, ⟨(some 32), (some (30, true)), .op (.fieldA 3 (.tmp 3))⟩, []⟩,
      ⟨18, ⟨(some 33), (some (30, true)), .op (.load 1 false (.tmp 32))⟩, []⟩,
      ⟨19, ⟨(some 34), (some (30, true)), .op (.idxA 6 (.tmp 33) (.const (.int .i64 0)))⟩, []⟩,
      ⟨20, ⟨(some 35), (some (30, true)), .op (.load 6 true (.tmp 34))⟩, []⟩,
      ⟨21, ⟨(some 36), (some (30, true)), .op (.fieldA 6 (.tmp 2))⟩, []⟩,
      ⟨22, ⟨(some 37), (some (30, true)), .op (.load 1 false (.tmp 36))⟩, []⟩,
      ⟨23, ⟨(some 38), (some (30, true)), .op (.fieldA 1 (.tmp 3))⟩, []⟩,
      ⟨24, ⟨(some 39), (some (30, true)), .op (.load 1 false (.tmp 38))⟩, []⟩,
      ⟨25, ⟨(some 40), (some (30, true)), .op (.m (.look .str (.int .i64 0) false (.tmp 37) (.tmp 39)))⟩, [16, 17, 18, 19, 20]⟩,
      ⟨26, ⟨(some 41), (some (30, true)), .call (.func 77) [(.tmp 31), (.tmp 35), (.tmp 40)]⟩, []⟩,
      ⟨27, ⟨(some 42), none, .op (.pick (.tmp 30) (.tmp 41) (.const (.bool false)))⟩, []⟩,
      ⟨28, ⟨(some 4), none, .op (.move (.tmp 42))⟩, []⟩])
    .ret) (.seq (.region [⟨(some 44), none, .op (.bin .eql (.tmp 12) (.const (.int .u8 2)))⟩,
      ⟨(some 43), none, .op (.move (.tmp 44))⟩])
    (.cond (.tmp 43) (.seq (.dregion [⟨0, ⟨(some 45), none, .op (.fieldA 1 (.tmp 3))⟩, []⟩,
      ⟨1, ⟨(some 46), none, .op (.load 1 false (.tmp 45))⟩, []⟩,
      ⟨2, ⟨(some 47), none, .op (.bin .eql (.tmp 46) (.const (.string ⟨#[]⟩)))⟩, []⟩,
      ⟨3, ⟨(some 48), none, .op (.move (.tmp 47))⟩, []⟩,
      ⟨4, ⟨(some 49), (some (48, true)), .op (.fieldA 2 (.tmp 3))⟩, []⟩,
      ⟨5, ⟨(some 50), (some (48, true)), .op (.load 1 false (.tmp 49))⟩, []⟩,
      ⟨6, ⟨(some 51), (some (48, true)), .op (.bin .eql (.tmp 50) (.const (.string ⟨#[]⟩)))⟩, []⟩,
      ⟨7, ⟨(some 52), none, .op (.pick (.tmp 48) (.tmp 51) (.const (.bool false)))⟩, []⟩,
      ⟨8, ⟨(some 53), none, .op (.move (.tmp 52))⟩, []⟩,
      ⟨9, ⟨(some 54), (some (53, true)), .op (.move (.tmp 5))⟩, []⟩,
      ⟨10, ⟨(some 55), (some (53, true)), .op (.bin .eql (.tmp 54) (.const (.int .i64 2)))⟩, []⟩,
      ⟨11, ⟨(some 56), none, .op (.pick (.tmp 53) (.tmp 55) (.const (.bool false)))⟩, []⟩,
      ⟨12, ⟨(some 57), none, .op (.move (.tmp 56))⟩, []⟩,
      ⟨13, ⟨(some 58), (some (57, true)), .op (.buildF [(.int .i64 0)] 4 [(0, (.const (.int .i64 8))), (1, (.const (.int .i64 16))), (2, (.const (.int .i64 32))), (3, (.const (.int .i64 64)))])⟩, []⟩,
      ⟨14, ⟨(some 59), (some (57, true)), .op (.fieldA 3 (.tmp 3))⟩, []⟩,
      ⟨15, ⟨(some 60), (some (57, true)), .op (.load 1 false (.tmp 59))⟩, []⟩,
      ⟨16, ⟨(some 61), (some (57, true)), .op (.idxA 6 (.tmp 60) (.const (.int .i64 0)))⟩, []⟩,
      ⟨17, ⟨(some 62), (some (57, true)), .op (.fieldA 1 (.tmp 61))⟩, []⟩,
      ⟨18, ⟨(some 63), (some (57, true)), .op (.load 1 false (.tmp 62))⟩, []⟩,
      ⟨19, ⟨(some 64), (some (57, true)), .call (.func 30) [(.tmp 58), (.tmp 63)]⟩, []⟩,
      ⟨20, ⟨(some 65), none, .op (.pick (.tmp 57) (.tmp 64) (.const (.bool false)))⟩, []⟩,
      ⟨21, ⟨(some 66), none, .op (.move (.tmp 65))⟩, []⟩,
      ⟨22, ⟨(some 67), (some (66, true)), .op (.load 8 true (.tmp 2))⟩, []⟩,
      ⟨23, ⟨(some 68), (some (66, true)), .op (.fieldA 3 (.tmp 3))⟩, []⟩,
      ⟨24, ⟨(some 69), (some (66, true)), .op (.load 1 false (.tmp 68))⟩, []⟩,
      ⟨25, ⟨(some 70), (some (66, true)), .op (.idxA 6 (.tmp 69) (.const (.int .i64 0)))⟩, []⟩,
      ⟨26, ⟨(some 71), (some (66, true)), .op (.load 6 true (.tmp 70))⟩, []⟩,
      ⟨27, ⟨(some 72), (some (66, true)), .call (.func 77) [(.tmp 67), (.tmp 71), (.const (.int .i64 0))]⟩, []⟩,
      ⟨28, ⟨(some 73), none, .op (.pick (.tmp 66) (.tmp 72) (.const (.bool false)))⟩, []⟩,
      ⟨29, ⟨(some 74), none, .op (.move (.tmp 73))⟩, []⟩,
      ⟨30, ⟨(some 75), (some (74, true)), .op (.load 8 true (.tmp 2))⟩, []⟩,
      ⟨31, ⟨(some 76), (some (74, true)), .op (.fieldA 3 (.tmp 3))⟩, []⟩,
      ⟨32, ⟨(some 77), (some (74, true)), .op (.load 1 false (.tmp 76))⟩, []⟩,
      ⟨33, ⟨(some 78), (some (74, true)), .op (.idxA 6 (.tmp 77) (.const (.int .i64 1)))⟩, []⟩,
      ⟨34, ⟨(some 79), (some (74, true)), .op (.load 6 true (.tmp 78))⟩, []⟩,
      ⟨35, ⟨(some 80), (some (74, true)), .call (.func 77) [(.tmp 75), (.tmp 79), (.const (.int .i64 32))]⟩, []⟩,
      ⟨36, ⟨(some 81), none, .op (.pick (.tmp 74) (.tmp 80) (.const (.bool false)))⟩, []⟩,
      ⟨37, ⟨(some 4), none, .op (.move (.tmp 81))⟩, []⟩])
    .ret) (.seq (.region [⟨(some 83), none, .op (.bin .eql (.tmp 12) (.const (.int .u8 3)))⟩,
      ⟨(some 82), none, .op (.move (.tmp 83))⟩])
    (.cond (.tmp 82) (.seq (.region [⟨(some 85), none, .op (.load 8 true (.tmp 2))⟩,
      ⟨(some 86), none, .op (.fieldA 2 (.tmp 3))⟩,
      ⟨(some 87), none, .op (.load 1 false (.tmp 86))⟩,
      ⟨(some 88), none, .op (.fieldA 3 (.tmp 3))⟩,
      ⟨(some 89), none, .op (.load 1 false (.tmp 88))⟩,
      ⟨(some 90), none, .call (.func 78) [(.tmp 85), (.tmp 87), (.tmp 89)]⟩,
      ⟨(some 84), none, .op (.move (.tmp 90))⟩,
      ⟨(some 91), none, .op (.ext (.tmp 84) 0)⟩,
      ⟨(some 92), none, .op (.ext (.tmp 84) 1)⟩,
      ⟨(some 6), none, .op (.alloc [(.str []), .nilS, (.int .i64 0), .nilS, .nilS])⟩,
      ⟨none, none, .op (.store 5 (.tmp 6) (.tmp 91))⟩,
      ⟨(some 7), none, .op (.move (.tmp 92))⟩])
    (.seq (.region [⟨(some 93), none, .op (.move (.tmp 7))⟩,
      ⟨(some 94), none, .op (.move (.tmp 93))⟩,
      ⟨(some 95), (some (94, true)), .op (.fieldA 1 (.tmp 3))⟩,
      ⟨(some 96), (some (94, true)), .op (.load 1 false (.tmp 95))⟩,
      ⟨(some 97), (some (94, true)), .op (.bin .eql (.tmp 96) (.const (.string ⟨#[]⟩)))⟩,
      ⟨(some 98), (some (94, true)), .op (.move (.tmp 97))⟩,
      ⟨(some 99), (some (98, false)), .op (.fieldA 2 (.tmp 6))⟩,
      ⟨(some 100), (some (98, false)), .op (.load 1 false (.tmp 99))⟩,
      ⟨(some 101), (some (98, false)), .op (.bin .neq (.tmp 100) (.const (.int .i64 0)))⟩,
      ⟨(some 102), (some (98, false)), .op (.move (.tmp 101))⟩,
      ⟨(some 103), (some (102, true)), .op (.fieldA 6 (.tmp 2))⟩,
      ⟨(some 104), (some (102, true)), .op (.load 1 false (.tmp 103))⟩,
      ⟨(some 105), (some (102, true)), .op (.fieldA 1 (.tmp 3))⟩,
      ⟨(some 106), (some (102, true)), .op (.load 1 false (.tmp 105))⟩,
      ⟨(some 107), (some (102, true)), .op (.m (.look .str (.int .i64 0) false (.tmp 104) (.tmp 106)))⟩,
      ⟨(some 108), (some (102, true)), .op (.fieldA 2 (.tmp 6))⟩,
      ⟨(some 109), (some (102, true)), .op (.load 1 false (.tmp 108))⟩,
      ⟨(some 110), (some (102, true)), .op (.bin .eql (.tmp 107) (.tmp 109))⟩,
      ⟨(some 111), (some (98, false)), .op (.pick (.tmp 102) (.tmp 110) (.const (.bool false)))⟩,
      ⟨(some 112), (some (94, true)), .op (.pick (.tmp 98) (.const (.bool true)) (.tmp 111))⟩,
      ⟨(some 113), none, .op (.pick (.tmp 94) (.tmp 112) (.const (.bool false)))⟩,
      ⟨(some 4), none, .op (.move (.tmp 113))⟩])
    .ret)) (.seq (.region [⟨(some 115), none, .op (.bin .eql (.tmp 12) (.const (.int .u8 4)))⟩,
      ⟨(some 114), none, .op (.move (.tmp 115))⟩])
    (.cond (.tmp 114) (.seq (.dregion [⟨0, ⟨(some 116), none, .op (.fieldA 1 (.tmp 3))⟩, []⟩,
      ⟨1, ⟨(some 117), none, .op (.load 1 false (.tmp 116))⟩, []⟩,
      ⟨2, ⟨(some 118), none, .op (.bin .eql (.tmp 117) (.const (.string ⟨#[]⟩)))⟩, []⟩,
      ⟨3, ⟨(some 119), none, .op (.move (.tmp 118))⟩, []⟩,
      ⟨4, ⟨(some 120), (some (119, true)), .op (.fieldA 2 (.tmp 3))⟩, []⟩,
      ⟨5, ⟨(some 121), (some (119, true)), .op (.load 1 false (.tmp 120))⟩, []⟩,
      ⟨6, ⟨(some 122), (some (119, true)), .op (.bin .eql (.tmp 121) (.const (.string ⟨#[]⟩)))⟩, []⟩,
      ⟨7, ⟨(some 123), none, .op (.pick (.tmp 119) (.tmp 122) (.const (.bool false)))⟩, []⟩,
      ⟨8, ⟨(some 124), none, .op (.move (.tmp 123))⟩, []⟩,
      ⟨9, ⟨(some 125), (some (124, true)), .op (.move (.tmp 5))⟩, []⟩,
      ⟨10, ⟨(some 126), (some (124, true)), .op (.bin .eql (.tmp 125) (.const (.int .i64 1)))⟩, []⟩,
      ⟨11, ⟨(some 127), none, .op (.pick (.tmp 124) (.tmp 126) (.const (.bool false)))⟩, []⟩,
      ⟨12, ⟨(some 128), none, .op (.move (.tmp 127))⟩, []⟩,
      ⟨13, ⟨(some 129), (some (128, true)), .op (.load 8 true (.tmp 2))⟩, []⟩,
      ⟨14, ⟨(some 130), (some (128, true)), .op (.fieldA 3 (.tmp 3))⟩, []⟩,
      ⟨15, ⟨(some 131), (some (128, true)), .op (.load 1 false (.tmp 130))⟩, []⟩,
      ⟨16, ⟨(some 132), (some (128, true)), .op (.idxA 6 (.tmp 131) (.const (.int .i64 0)))⟩, []⟩,
      ⟨17, ⟨(some 133), (some (128, true)), .op (.load 6 true (.tmp 132))⟩, []⟩,
      ⟨18, ⟨(some 134), (some (128, true)), .call (.func 77) [(.tmp 129), (.tmp 133), (.const (.int .i64 0))]⟩, []⟩,
      ⟨19, ⟨(some 135), none, .op (.pick (.tmp 128) (.tmp 134) (.const (.bool false)))⟩, []⟩,
      ⟨20, ⟨(some 4), none, .op (.move (.tmp 135))⟩, []⟩])
    .ret) .skip))))))))))
    (.seq (.region [⟨(some 4), none, .op (.move (.const (.bool false)))⟩])
    .ret))))
def XR62 : List RV := [.tmp 4]
theorem Xis62 : Is Tryz.prog (fun _ _ => false) 62 136 XA62 XR62 := ⟨Tryz.f62, Tryz.func62, rfl, by kernel_rfl, by kernel_rfl, Tryz.call62⟩
def fi62 : FI := .code 136 XA62 XR62
theorem ok62 : FI.ok Tryz.prog 62 fi62 := ⟨_, Xis62⟩
def XA63l0 : ACode :=
  (.seq (.region [⟨(some 15), none, .op (.bin .lss (.tmp 14) (.tmp 13))⟩])
    (.seq (.cond (.tmp 15) .skip (.exit 0))
    (.seq (.block 1 (.seq (.region [⟨(some 16), none, .op (.idxA 1 (.tmp 12) (.tmp 14))⟩,
      ⟨(some 17), none, .op (.load 1 false (.tmp 16))⟩,
      ⟨(some 6), none, .op (.move (.tmp 17))⟩])
    (.seq (.region [⟨(some 18), none, .op (.move (.tmp 6))⟩,
      ⟨(some 19), none, .op (.bin .lss (.tmp 18) (.const (.int .i64 0)))⟩,
      ⟨(some 20), none, .op (.move (.tmp 19))⟩,
      ⟨(some 21), (some (20, false)), .op (.move (.tmp 6))⟩,
      ⟨(some 22), (some (20, false)), .op (.fieldA 1 (.tmp 2))⟩,
      ⟨(some 23), (some (20, false)), .op (.fieldA 4 (.tmp 22))⟩,
      ⟨(some 24), (some (20, false)), .op (.load 1 false (.tmp 23))⟩,
      ⟨(some 25), (some (20, false)), .op (.len (.tmp 24))⟩,
      ⟨(some 26), (some (20, false)), .op (.bin .geq (.tmp 21) (.tmp 25))⟩,
      ⟨(some 27), none, .op (.pick (.tmp 20) (.const (.bool true)) (.tmp 26))⟩])
    (.cond (.tmp 27) (.seq (.region [⟨(some 4), none, .op (.move (.const (.bool false)))⟩])
    .ret) .skip))))
    (.region [⟨(some 28), none, .op (.bin .add (.tmp 14) (.const (.int .i64 1)))⟩,
      ⟨(some 14), none, .op (.move (.tmp 28))⟩]))))
def XA63 : ACode :=
  (.seq (.region [⟨(some 2), none, .op (.box (.tmp 0))⟩,
      ⟨(some 3), none, .op (.box (.tmp 1))⟩,
      ⟨(some 4), none, .op (.move (.const (.bool false)))⟩])
    (.seq (.seq (.region [⟨(some 11), none, .op (.fieldA 3 (.tmp 3))⟩,
      ⟨(some 12), none, .op (.load 1 false (.tmp 11))⟩,
      ⟨(some 13), none, .op (.len (.tmp 12))⟩,
      ⟨(some 14), none, .op (.move (.const (.int .i64 0)))⟩])
    (.block 0 (.loop XA63l0)))
    (.seq (.dregion [⟨0, ⟨(some 29), none, .op (.fieldA 2 (.tmp 3))⟩, []⟩,
      ⟨1, ⟨(some 30), none, .op (.load 1 false (.tmp 29))⟩, []⟩,
      ⟨2, ⟨(some 31), none, .op (.len (.tmp 30))⟩, []⟩,
      ⟨3, ⟨(some 32), none, .op (.fieldA 3 (.tmp 3))⟩, []⟩,
      ⟨4, ⟨(some 33), none, .op (.load 1 false (.tmp 32))⟩, []⟩,
      ⟨5, ⟨(some 34), none, .op (.len (.tmp 33))⟩, []⟩,
      ⟨6, ⟨(some 7), none, .op (.move (.tmp 31))⟩, []⟩,
      ⟨7, ⟨(some 8), none, .op (.move (.tmp 34))⟩, []⟩])
    (.seq (.seq (.region [⟨(some 35), none, .op (.fieldA 0 (.tmp 3))⟩,
      ⟨(some 36), none, .op (.load 1 false (.tmp 35))⟩])
    (.block 2 (.seq (.region [⟨(some 38), none, .op (.bin .eql (.tmp 36) (.const (.int .u8 5)))⟩,
      ⟨(some 37), none, .op (.move (.tmp 38))⟩])
    (.cond (.tmp 37) (.seq (.region [⟨(some 39), none, .op (.fieldA 1 (.tmp 3))⟩,
      ⟨(some 40), none, .op (.load 1 false (.tmp 39))⟩,
      ⟨(some 41), none, .op (.bin .eql (.tmp 40) (.const (.string ⟨#[]⟩)))⟩,
      ⟨(some 42), none, .op (.move (.tmp 41))⟩,
      ⟨(some 43), (some (42, true)), .op (.move (.tmp 7))⟩,
      ⟨(some 44), (some (42, true)), .op (.bin .eql (.tmp 43) (.const (.int .i64 0)))⟩,
      ⟨(some 45), none, .op (.pick (.tmp 42) (.tmp 44) (.const (.bool false)))⟩,
      ⟨(some 46), none, .op (.move (.tmp 45))⟩,
      ⟨(some 47), (some (46, true)), .op (.move (.tmp 8))⟩,
      ⟨(some 48), (some (46, true)), .op (.bin .eql (.tmp 47) (.const (.int .i64 1)))⟩,
      ⟨(some 49), none, .op (.pick (.tmp 46) (.tmp 48) (.const (.bool false)))⟩,
      ⟨(some 4), none, .op (.move (.tmp 49))⟩])
    .ret) (.seq (.region [⟨(some 51), none, .op (.bin .eql (.tmp 36) (.const (.int .u8 6)))⟩,
      ⟨(some 50), none, .op (.move (.tmp 51))⟩])
    (.cond (.tmp 50) (.seq (.dregion [⟨0, ⟨(some 52), none, .op (.fieldA 1 (.tmp 3))⟩, []⟩,
      ⟨1, ⟨(some 53), none, .op (.load 1 false (.tmp 52))⟩, []⟩,
      ⟨2, ⟨(some 54), none, .op (.bin .eql (.tmp 53) (.const (.string ⟨#[]⟩)))⟩, []⟩,
      ⟨3, ⟨(some 55), none, .op (.move (.tmp 54))⟩, []⟩,
      ⟨4, ⟨(some 56), (some (55, true)), .op (.move (.tmp 7))⟩, []⟩,
      ⟨5, ⟨(some 57), (some (55, true)), .op (.bin .eql (.tmp 56) (.const (.int .i64 1)))⟩, []⟩,
      ⟨6, ⟨(some 58), none, .op (.pick (.tmp 55) (.tmp 57) (.const (.bool false)))⟩, []⟩,
      ⟨7, ⟨(some 59), none, .op (.move (.tmp 58))⟩, []⟩,
      ⟨8, ⟨(some 60), (some (59, true)), .op (.move (.tmp 8))⟩, []⟩,
      ⟨9, ⟨(some 61), (some (59, true)), .op (.bin .eql (.tmp 60) (.const (.int .i64 2)))⟩, []⟩,
      ⟨10, ⟨(some 62), none, .op (.pick (.tmp 59) (.tmp 61) (.const (.bool false)))⟩, []⟩,
      ⟨11, ⟨(some 63), none, .op (.move (.tmp 62))⟩, []⟩,
      ⟨12, ⟨(some 64), (some (63, true)), .op (.load 8 true (.tmp 2))⟩, []⟩,
      ⟨13, ⟨(some 65), (some (63, true)), .op (.fieldA 2 (.tmp 3))⟩, []⟩,
      ⟨14, ⟨(some 66), (some (63, true)), .op (.load 1 false (.tmp 65))⟩, []⟩,
      ⟨15, ⟨(some 67), (some (63, true)), .op (.idxA 6 (.tmp 66) (.const (.int .i64 0)))⟩, []⟩,
      ⟨16, ⟨(some 68), (some (63, true)), .op (.load 6 true (.tmp 67))⟩, []⟩,
      ⟨17, ⟨(some 69), (some (63, true)), .call (.func 77) [(.tmp 64), (.tmp 68), (.const (.int .i64 1))]⟩, []⟩,
      ⟨18, ⟨(some 70), none, .op (.pick (.tmp 63) (.tmp 69) (.const (.bool false)))⟩, []⟩,
      ⟨19, ⟨(some 4), none, .op (.move (.tmp 70))⟩, []⟩])
    .ret) (.seq (.region [⟨(some 72), none, .op (.bin .eql (.tmp 36) (.const (.int .u8 7)))⟩,
      ⟨(some 71), none, .op (.move (.tmp 72))⟩])
    (.cond (.tmp 71) (.seq (.dregion [⟨0, ⟨(some 73), none, .op (.fieldA 1 (.tmp 3))⟩, []⟩,
      ⟨1, ⟨(some 74), none, .op (.load 1 false (.tmp 73))⟩, []⟩,
      ⟨2, ⟨(some 75), none, .op (.bin .eql (.tmp 74) (.const (.string ⟨#[]⟩)))⟩, []⟩,
      ⟨3, ⟨(some 76), none, .op (.move (.tmp 75))⟩, []⟩,
      ⟨4, ⟨(some 77), (some (76, true)), .op (.move (.tmp 8))⟩, []⟩,
      ⟨5, ⟨(some 78), (some (76, true)), .op (.bin .eql (.tmp 77) (.const (.int .i64 0)))⟩, []⟩,
      ⟨6, ⟨(some 79), none, .op (.pick (.tmp 76) (.tmp 78) (.const (.bool false)))⟩, []⟩,
      ⟨7, ⟨(some 80), none, .op (.move (.tmp 79))⟩, []⟩,
      ⟨8, ⟨(some 81), (some (80, true)), .op (.move (.tmp 7))⟩, []⟩,
      ⟨9, ⟨(some 82), (some (80, true)), .op (.fieldA 1 (.tmp 2))⟩, []⟩,
      ⟨10, ⟨(some 83), (some (80, true)), .op (.fieldA 2 (.tmp 82))⟩, []⟩,
      ⟨11, ⟨(some 84), (some (80, true)), .op (.load 1 false (.tmp 83))⟩, []⟩,
      ⟨12, ⟨(some 85), (some (80, true)), .op (.mn (.tmp 84) (.const (.int .i64 1)))⟩, []⟩,
      ⟨13, ⟨(some 86), (some (80, true)), .op (.bin .eql (.tmp 81) (.tmp 85))⟩, []⟩,
      ⟨14, ⟨(some 87), none, .op (.pick (.tmp 80) (.tmp 86) (.const (.bool false)))⟩, []⟩,
      ⟨15, ⟨(some 88), none, .op (.move (.tmp 87))⟩, []⟩,
      ⟨16, ⟨(some 89), (some (88, true)), .op (.move (.tmp 7))⟩, []⟩,
      ⟨17, ⟨(some 90), (some (88, true)), .op (.bin .eql (.tmp 89) (.const (.int .i64 0)))⟩, []⟩,
      ⟨18, ⟨(some 91), (some (88, true)), .op (.move (.tmp 90))⟩, []⟩,
      ⟨19, ⟨(some 92), (some (91, false)), .op (.load 8 true (.tmp 2))⟩, []⟩,
      ⟨20, ⟨(some 93), (some (91, false)), .op (.fieldA 2 (.tmp 3))⟩, []⟩,
      ⟨21, ⟨(some 94), (some (91, false)), .op (.load 1 false (.tmp 93))⟩, []⟩,
      ⟨22, ⟨(some 95), (some (91, false)), .op (.idxA 6 (.tmp 94) (.const (.int .i64 0)))⟩, []⟩,
      ⟨23, ⟨(some 96), (some (91, false)), .op (.load 6 true (.tmp 95))⟩, []⟩,
      ⟨24, ⟨(some 97), (some (91, false)), .op (.fieldA 1 (.tmp 2))⟩, []⟩,
      ⟨25, ⟨(some 98), (some (91, false)), .op (.fieldA 2 (.tmp 97))⟩, []⟩,
      ⟨26, ⟨(some 99), (some (91, false)), .op (.load 1 false (.tmp 98))⟩, []⟩,
      ⟨27, ⟨(some 100), (some (91, false)), .call (.func 77) [(.tmp 92), (.tmp 96), (.tmp 99)]⟩, []⟩,
      ⟨28, ⟨(some 101), (some (88, true)), .op (.pick (.tmp 91) (.const (.bool true)) (.tmp 100))⟩, []⟩,
      ⟨29, ⟨(some 102), none, .op (.pick (.tmp 88) (.tmp 101) (.const (.bool false)))⟩, []⟩,
      ⟨30, ⟨(some 4), none, .op (.move (.tmp 102))⟩, []⟩])
    .ret) (.seq (.region [⟨(some 104), none, .op (.bin .eql (.tmp 36) (.const (.int .u8 8)))⟩,
      ⟨(some 103), none, .op (.move (.tmp 104))⟩])
    (.cond (.tmp 103) (.seq (.region [⟨(some 106), none, .op (.load 8 true (.tmp 2))⟩,
      ⟨(some 107), none, .op (.fieldA 1 (.tmp 3))⟩,
      ⟨(some 108), none, .op (.load 1 false (.tmp 107))⟩,
      ⟨(some 109), none, .op (.fieldA 2 (.tmp 3))⟩,
      ⟨(some 110), none, .op (.load 1 false (.tmp 109))⟩,
      ⟨(some 111), none, .call (.func 78) [(.tmp 106), (.tmp 108), (.tmp 110)]⟩,
      ⟨(some 105), none, .op (.move (.tmp 111))⟩,
      ⟨(some 112), none, .op (.ext (.tmp 105) 0)⟩,
      ⟨(some 113), none, .op (.ext (.tmp 105) 1)⟩,
      ⟨(some 9), none, .op (.alloc [(.str []), .nilS, (.int .i64 0), .nilS, .nilS])⟩,
      ⟨none, none, .op (.store 5 (.tmp 9) (.tmp 112))⟩,
      ⟨(some 10), none, .op (.move (.tmp 113))⟩])
    (.seq (.region [⟨(some 114), none, .op (.move (.tmp 10))⟩,
      ⟨(some 115), none, .op (.move (.tmp 114))⟩,
      ⟨(some 116), (some (115, true)), .op (.move (.tmp 8))⟩,
      ⟨(some 117), (some (115, true)), .op (.bin .eql (.tmp 116) (.const (.int .i64 0)))⟩,
      ⟨(some 118), none, .op (.pick (.tmp 115) (.tmp 117) (.const (.bool false)))⟩,
      ⟨(some 119), none, .op (.move (.tmp 118))⟩,
      ⟨(some 120), (some (119, true)), .op (.fieldA 2 (.tmp 9))⟩,
      ⟨(some 121), (some (119, true)), .op (.load 1 false (.tmp 120))⟩,
      ⟨(some 122), (some (119, true)), .op (.fieldA 1 (.tmp 2))⟩,
      ⟨(some 123), (some (119, true)), .op (.fieldA 2 (.tmp 122))⟩,
      ⟨(some 124), (some (119, true)), .op (.load 1 false (.tmp 123))⟩,
      ⟨(some 125), (some (119, true)), .op (.bin .eql (.tmp 121) (.tmp 124))⟩,
      ⟨(some 126), none, .op (.pick (.tmp 119) (.tmp 125) (.const (.bool false)))⟩,
      ⟨(some 4), none, .op (.move (.tmp 126))⟩])
    .ret)) .skip))))))))))
    (.seq (.region [⟨(some 4), none, .op (.move (.const (.bool false)))⟩])
    .ret)))))
def XR63 : List RV := [.tmp 4]
theorem Xis63 : Is Tryz.prog (fun _ _ => false) 63 127 XA63 XR63 := ⟨Tryz.f63, Tryz.func63, rfl, by kernel_rfl, by kernel_rfl, Tryz.call63⟩
def fi63 : FI := .code 127 XA63 XR63
theorem ok63 : FI.ok Tryz.prog 63 fi63 := ⟨_, Xis63⟩
def XA68 : ACode :=
  (.seq (.region [⟨(some 5), none, .op (.move (.tmp 0))⟩,
      ⟨(some 6), none, .op (.len (.tmp 5))⟩,
      ⟨(some 4), none, .op (.move (.tmp 6))⟩])
    (.region [⟨(some 7), none, .op (.move (.tmp 0))⟩,
      ⟨(some 8), none, .op (.move (.tmp 4))⟩,
      ⟨(some 9), none, .op (.move (.tmp 4))⟩,
      ⟨(some 10), none, .op (.conv .u64 (.tmp 9))⟩,
      ⟨(some 11), none, .call (.func 84) [(.tmp 10)]⟩,
      ⟨(some 12), none, .op (.move (.tmp 1))⟩,
      ⟨(some 13), none, .call (.func 83) [(.tmp 7), (.const (.int .i64 0)), (.tmp 8), (.tmp 11), (.tmp 12)]⟩]))
def XR68 : List RV := []
theorem Xis68 : Is Tryz.prog (fun _ _ => false) 68 14 XA68 XR68 := ⟨Tryz.f68, Tryz.func68, rfl, by kernel_rfl, by kernel_rfl, Tryz.call68⟩
def fi68 : FI := .code 14 XA68 XR68
theorem ok68 : FI.ok Tryz.prog 68 fi68 := ⟨_, Xis68⟩
def XA71 : ClI :=
  ⟨4, [⟨(some 5), none, .op (.m (.tas 5 (.int .u8 0) (.tmp 4)))⟩,
      ⟨(some 3), none, .op (.move (.tmp 5))⟩,
      ⟨(some 6), none, .op (.ext (.tmp 3) 0)⟩,
      ⟨(some 7), none, .op (.ext (.tmp 3) 1)⟩,
      ⟨(some 1), none, .op (.move (.tmp 6))⟩,
      ⟨(some 2), none, .op (.move (.tmp 7))⟩],
    (.seq (.region [⟨(some 8), none, .op (.move (.tmp 2))⟩])
    (.cond (.tmp 8) (.region [⟨(some 9), none, .op (.move (.tmp 1))⟩,
      ⟨none, none, .op (.store 1 (.tmp 0) (.tmp 9))⟩]) .skip))⟩
def fi71 : FI := .clo 10 XA71
theorem ok71 : FI.ok Tryz.prog 71 fi71 := ⟨(fun _ _ => false), Tryz.f71, Tryz.func71, rfl, by kernel_rfl, by kernel_rfl, Tryz.call71⟩
def XA72 : ACode :=
  (.seq (.region [⟨(some 2), none, .op (.move (.const (.pointer none)))⟩])
    (.seq (.dregion [⟨0, ⟨(some 3), none, .op (.move (.tmp 0))⟩, []⟩,
      ⟨1, ⟨(some 4), none, .op (.nilck (.tmp 3))⟩, []⟩,
      ⟨2, ⟨(some 5), none, .op (.fieldA 1 (.tmp 4))⟩, []⟩,
      ⟨3, ⟨(some 6), none, .op (.load 1 false (.tmp 5))⟩, []⟩,
      ⟨4, ⟨(some 7), none, .op (.move (.tmp 0))⟩, []⟩,
      ⟨5, ⟨(some 8), none, .op (.nilck (.tmp 7))⟩, []⟩,
      ⟨6, ⟨(some 9), none, .op (.fieldA 1 (.tmp 8))⟩, []⟩,
      ⟨7, ⟨(some 10), none, .op (.load 1 false (.tmp 9))⟩, []⟩,
      ⟨8, ⟨(some 11), none, .op (.len (.tmp 10))⟩, []⟩,
      ⟨9, ⟨(some 12), none, .op (.bin .sub (.tmp 11) (.const (.int .i64 1)))⟩, []⟩,
      ⟨10, ⟨(some 13), none, .op (.idxA 5 (.tmp 6) (.tmp 12))⟩, []⟩,
      ⟨11, ⟨(some 2), none, .op (.move (.tmp 13))⟩, []⟩])
    .ret))
def XR72 : List RV := [.tmp 2]
theorem Xis72 : Is Tryz.prog (fun _ _ => false) 72 14 XA72 XR72 := ⟨Tryz.f72, Tryz.func72, rfl, by kernel_rfl, by kernel_rfl, Tryz.call72⟩
def fi72 : FI := .code 14 XA72 XR72
theorem ok72 : FI.ok Tryz.prog 72 fi72 := ⟨_, Xis72⟩
def XA73 : ACode :=
  (.seq (.region [⟨(some 3), none, .op (.box (.tmp 1))⟩])
    (.seq (.region [⟨(some 9), none, .op (.move (.tmp 0))⟩,
      ⟨(some 10), none, .op (.fieldA 3 (.tmp 3))⟩,
      ⟨(some 11), none, .op (.load 1 false (.tmp 10))⟩,
      ⟨(some 12), none, .call (.func 86) [(.tmp 9), (.tmp 11)]⟩,
      ⟨(some 4), none, .op (.move (.tmp 12))⟩])
    (.seq (.region [⟨(some 13), none, .op (.move (.tmp 0))⟩,
      ⟨(some 14), none, .call (.func 72) [(.tmp 13)]⟩,
      ⟨(some 15), none, .op (.nilck (.tmp 14))⟩,
      ⟨(some 16), none, .op (.fieldA 0 (.tmp 15))⟩,
      ⟨(some 17), none, .op (.fieldA 2 (.tmp 16))⟩,
      ⟨(some 18), none, .op (.load 1 false (.tmp 17))⟩,
      ⟨(some 19), none, .op (.bin .add (.tmp 18) (.const (.int .i64 1)))⟩,
      ⟨(some 20), none, .op (.nilck (.tmp 14))⟩,
      ⟨(some 21), none, .op (.fieldA 0 (.tmp 20))⟩,
      ⟨(some 22), none, .op (.fieldA 2 (.tmp 21))⟩,
      ⟨none, none, .op (.store 1 (.tmp 22) (.tmp 19))⟩])
    (.seq (.region [⟨(some 23), none, .op (.fieldA 0 (.tmp 3))⟩,
      ⟨(some 24), none, .op (.load 1 false (.tmp 23))⟩])
    (.block 0 (.seq (.region [⟨(some 26), none, .op (.bin .eql (.tmp 24) (.const (.int .u8 1)))⟩,
      ⟨(some 25), none, .op (.move (.tmp 26))⟩])
    (.cond (.tmp 25) (.dregion [⟨0, ⟨(some 27), none, .op (.move (.tmp 0))⟩, []⟩,
      ⟨1, ⟨(some 28), none, .op (.fieldA 1 (.tmp 3))⟩, []⟩,
      ⟨2, ⟨(some 29), none, .op (.load 1 false (.tmp 28))⟩, []⟩,
      ⟨3, ⟨(some 30), none, .op (.move (.tmp 4))⟩, []⟩,
      ⟨4, ⟨(some 31), none, .op (.idxA 1 (.tmp 30) (.const (.int .i64 0)))⟩, []⟩,
      ⟨5, ⟨(some 32), none, .op (.load 1 false (.tmp 31))⟩, []⟩,
      ⟨6, ⟨(some 33), none, .call (.func 87) [(.tmp 27), (.tmp 29), (.tmp 32)]⟩, []⟩]) (.seq (.region [⟨(some 35), none, .op (.bin .eql (.tmp 24) (.const (.int .u8 2)))⟩,
      ⟨(some 34), none, .op (.move (.tmp 35))⟩])
    (.cond (.tmp 34) (.seq (.dregion [⟨0, ⟨(some 37), none, .op (.move (.tmp 0))⟩, []⟩,
      ⟨1, ⟨(some 38), none, .op (.nilck (.tmp 37))⟩, []⟩,
      ⟨2, ⟨(some 39), none, .op (.fieldA 4 (.tmp 38))⟩, []⟩,
      ⟨3, ⟨(some 40), none, .op (.load 1 false (.tmp 39))⟩, []⟩,
      ⟨4, ⟨(some 41), none, .op (.move (.tmp 4))⟩, []⟩,
      ⟨5, ⟨(some 42), none, .op (.idxA 1 (.tmp 41) (.const (.int .i64 1)))⟩, []⟩,
      ⟨6, ⟨(some 43), none, .op (.load 1 false (.tmp 42))⟩, []⟩,
      ⟨7, ⟨(some 44), none, .op (.fieldA 3 (.tmp 3))⟩, []⟩,
      ⟨8, ⟨(some 45), none, .op (.load 1 false (.tmp 44))⟩, []⟩,
      ⟨9, ⟨(some 46), none, .op (.idxA 6 (.tmp 45) (.const (.int .i64 0)))⟩, []⟩,
      ⟨10, ⟨(some 47), none, .op (.fieldA 1 (.tmp 46))⟩, []⟩,
      ⟨11, ⟨(some 48), none, .op (.load 1 false (.tmp 47))⟩, []⟩,
      ⟨12, ⟨(some 49), none, .op (.move (.tmp 4))⟩, []⟩,
      ⟨13, ⟨(some 50), none, .op (.idxA 1 (.tmp 49) (.const (.int .i64 0)))⟩, []⟩,
      ⟨14, ⟨(some 51), none, .op (.load 1 false (.tmp 50))⟩, []⟩,
      ⟨15, ⟨(some 52), none, .call (.func 11) [(.tmp 40), (.tmp 43), (.tmp 48), (.tmp 51)]⟩, []⟩,
      ⟨16, ⟨(some 36), none, .op (.move (.tmp 52))⟩, []⟩,
      ⟨17, ⟨(some 53), none, .op (.ext (.tmp 36) 0)⟩, []⟩,
      ⟨18, ⟨(some 54), none, .op (.ext (.tmp 36) 1)⟩, []⟩,
      ⟨19, ⟨(some 5), none, .op (.move (.tmp 53))⟩, []⟩,
      ⟨20, ⟨(some 6), none, .op (.move (.tmp 54))⟩, []⟩])
    (.seq (.seq (.region [⟨(some 55), none, .op (.move (.tmp 6))⟩,
      ⟨(some 56), none, .op (.bin .neq (.tmp 55) (.const (.int .i64 0)))⟩])
    (.cond (.tmp 56) (.region [⟨(some 57), none, .op (.mkif 5 (.const (.int .u8 2)))⟩,
      ⟨none, none, .call (.tmp 57) [(.const (.tuple #[])), (.const (.tuple #[]))]⟩]) .skip))
    (.region [⟨(some 58), none, .op (.move (.tmp 0))⟩,
      ⟨(some 59), none, .op (.move (.tmp 5))⟩,
      ⟨(some 60), none, .op (.nilck (.tmp 58))⟩,
      ⟨(some 61), none, .op (.fieldA 4 (.tmp 60))⟩,
      ⟨none, none, .op (.store 1 (.tmp 61) (.tmp 59))⟩]))) (.seq (.region [⟨(some 63), none, .op (.bin .eql (.tmp 24) (.const (.int .u8 3)))⟩,
      ⟨(some 62), none, .op (.move (.tmp 63))⟩])
    (.cond (.tmp 62) (.seq (.seq (.region [⟨(some 64), none, .op (.move (.tmp 0))⟩,
      ⟨(some 65), none, .op (.nilck (.tmp 64))⟩,
      ⟨(some 66), none, .op (.fieldA 1 (.tmp 65))⟩,
      ⟨(some 67), none, .op (.load 1 false (.tmp 66))⟩,
      ⟨(some 68), none, .op (.len (.tmp 67))⟩,
      ⟨(some 69), none, .op (.bin .geq (.tmp 68) (.const (.int .i64 50)))⟩])
    (.cond (.tmp 69) (.region [⟨(some 70), none, .op (.mkif 5 (.const (.int .u8 2)))⟩,
      ⟨none, none, .call (.tmp 70) [(.const (.tuple #[])), (.const (.tuple #[]))]⟩]) .skip))
    (.seq (.dregion [⟨0, ⟨(some 72), none, .op (.move (.tmp 0))⟩, []⟩,
      ⟨1, ⟨(some 73), none, .op (.nilck (.tmp 72))⟩, []⟩,
      ⟨2, ⟨(some 74), none, .op (.fieldA 0 (.tmp 73))⟩, []⟩,
      ⟨3, ⟨(some 75), none, .op (.load 1 true (.tmp 74))⟩, []⟩,
      ⟨4, ⟨(some 76), none, .op (.fieldA 2 (.tmp 3))⟩, []⟩,
      ⟨5, ⟨(some 77), none, .op (.load 1 false (.tmp 76))⟩, []⟩,
      ⟨6, ⟨(some 78), none, .call (.func 20) [(.tmp 75), (.tmp 77)]⟩, []⟩,
      ⟨7, ⟨(some 71), none, .op (.move (.tmp 78))⟩, []⟩,
      ⟨8, ⟨(some 79), none, .op (.ext (.tmp 71) 0)⟩, []⟩,
      ⟨9, ⟨(some 80), none, .op (.ext (.tmp 71) 1)⟩, []⟩,
      ⟨10, ⟨(some 7), none, .op (.move (.tmp 79))⟩, []⟩,
      ⟨11, ⟨(some 8), none, .op (.move (.tmp 80))⟩, []⟩])
    (.dregion [⟨0, ⟨(some 81), none, .op (.move (.tmp 0))⟩, []⟩,
      ⟨1, ⟨(some 82), none, .op (.move (.tmp 0))⟩, []⟩,
      ⟨2, ⟨(some 83), none, .op (.nilck (.tmp 82))⟩, []⟩,
      ⟨3, ⟨(some 84), none, .op (.fieldA 1 (.tmp 83))⟩, []⟩,
      ⟨4, ⟨(some 85), none, .op (.load 1 false (.tmp 84))⟩, []⟩,
      ⟨5, ⟨(some 86), none, .op (.move (.tmp 0))⟩, []⟩,
      ⟨6, ⟨(some 87), none, .op (.move (.tmp 7))⟩, []⟩,
      ⟨7, ⟨(some 88), none, .op (.move (.tmp 4))⟩, []⟩,
      ⟨8, ⟨(some 89), none, .op (.fieldA 1 (.tmp 3))⟩, []⟩,
      ⟨9, ⟨(some 90), none, .op (.load 1 false (.tmp 89))⟩, []⟩,
      ⟨10, ⟨(some 91), none, .call (.func 53) [(.tmp 86), (.tmp 87), (.tmp 88), (.tmp 90)]⟩, [0, 1, 2, 3, 4]⟩,
      ⟨11, ⟨(some 92), none, .op (.buildF [(.int .i64 0), (.int .i64 0), (.int .i64 0), .nilS, (.str [])] 1 [(0, (.tmp 91))])⟩, []⟩,
      ⟨12, ⟨(some 93), none, .op (.app 119 5 64 (.tmp 85) (.tmp 92))⟩, [0]⟩,
      ⟨13, ⟨(some 94), none, .op (.nilck (.tmp 81))⟩, []⟩,
      ⟨14, ⟨(some 95), none, .op (.fieldA 1 (.tmp 94))⟩, []⟩,
      ⟨15, ⟨none, none, .op (.store 1 (.tmp 95) (.tmp 93))⟩, []⟩]))) (.seq (.region [⟨(some 97), none, .op (.bin .eql (.tmp 24) (.const (.int .u8 4)))⟩,
      ⟨(some 96), none, .op (.move (.tmp 97))⟩])
    (.cond (.tmp 96) (.seq (.seq (.region [⟨(some 98), none, .op (.move (.tmp 0))⟩,
      ⟨(some 99), none, .op (.nilck (.tmp 98))⟩,
      ⟨(some 100), none, .op (.fieldA 3 (.tmp 99))⟩,
      ⟨(some 101), none, .op (.load 1 false (.tmp 100))⟩,
      ⟨(some 102), none, .op (.len (.tmp 101))⟩,
      ⟨(some 103), none, .op (.bin .geq (.tmp 102) (.const (.int .i64 1000)))⟩])
    (.cond (.tmp 103) (.region [⟨(some 104), none, .op (.mkif 5 (.const (.int .u8 2)))⟩,
      ⟨none, none, .call (.tmp 104) [(.const (.tuple #[])), (.const (.tuple #[]))]⟩]) .skip))
    (.dregion [⟨0, ⟨(some 105), none, .op (.move (.tmp 0))⟩, []⟩,
      ⟨1, ⟨(some 106), none, .op (.move (.tmp 0))⟩, []⟩,
      ⟨2, ⟨(some 107), none, .op (.nilck (.tmp 106))⟩, []⟩,
      ⟨3, ⟨(some 108), none, .op (.fieldA 3 (.tmp 107))⟩, []⟩,
      ⟨4, ⟨(some 109), none, .op (.load 1 false (.tmp 108))⟩, []⟩,
      ⟨5, ⟨(some 110), none, .op (.move (.tmp 4))⟩, []⟩,
      ⟨6, ⟨(some 111), none, .op (.idxA 1 (.tmp 110) (.const (.int .i64 0)))⟩, []⟩,
      ⟨7, ⟨(some 112), none, .op (.load 1 false (.tmp 111))⟩, []⟩,
      ⟨8, ⟨(some 113), none, .op (.buildF [(.int .u64 0)] 1 [(0, (.tmp 112))])⟩, []⟩,
      ⟨9, ⟨(some 114), none, .op (.app 23 1 8 (.tmp 109) (.tmp 113))⟩, [0]⟩,
      ⟨10, ⟨(some 115), none, .op (.nilck (.tmp 105))⟩, []⟩,
      ⟨11, ⟨(some 116), none, .op (.fieldA 3 (.tmp 115))⟩, []⟩,
      ⟨12, ⟨none, none, .op (.store 1 (.tmp 116) (.tmp 114))⟩, []⟩])) .skip)))))))))))))
def XR73 : List RV := []
theorem Xis73 : Is Tryz.prog (fun _ _ => false) 73 117 XA73 XR73 := ⟨Tryz.f73, Tryz.func73, rfl, by kernel_rfl, by kernel_rfl, Tryz.call73⟩
def fi73 : FI := .code 117 XA73 XR73
theorem ok73 : FI.ok Tryz.prog 73 fi73 := ⟨_, Xis73⟩
def XA74 : ACode :=
  (.seq (.region [⟨(some 3), none, .op (.box (.tmp 1))⟩])
    (.seq (.region [⟨(some 10), none, .op (.move (.tmp 0))⟩,
      ⟨(some 11), none, .op (.fieldA 2 (.tmp 3))⟩,
      ⟨(some 12), none, .op (.load 1 false (.tmp 11))⟩,
      ⟨(some 13), none, .call (.func 86) [(.tmp 10), (.tmp 12)]⟩,
      ⟨(some 4), none, .op (.move (.tmp 13))⟩])
    (.seq (.region [⟨(some 14), none, .op (.move (.tmp 0))⟩,
      ⟨(some 15), none, .call (.func 72) [(.tmp 14)]⟩,
      ⟨(some 5), none, .op (.move (.tmp 15))⟩])
    (.seq (.region [⟨(some 16), none, .op (.fieldA 0 (.tmp 3))⟩,
      ⟨(some 17), none, .op (.load 1 false (.tmp 16))⟩])
    (.block 0 (.seq (.region [⟨(some 19), none, .op (.bin .eql (.tmp 17) (.const (.int .u8 5)))⟩,
      ⟨(some 18), none, .op (.move (.tmp 19))⟩])
    (.cond (.tmp 18) (.region [⟨(some 20), none, .op (.move (.tmp 5))⟩,
      ⟨(some 21), none, .op (.move (.tmp 5))⟩,
      ⟨(some 22), none, .op (.fieldA 3 (.tmp 3))⟩,
      ⟨(some 23), none, .op (.load 1 false (.tmp 22))⟩,
      ⟨(some 24), none, .op (.idxA 1 (.tmp 23) (.const (.int .i64 0)))⟩,
      ⟨(some 25), none, .op (.load 1 false (.tmp 24))⟩,
      ⟨(some 26), none, .op (.nilck (.tmp 20))⟩,
      ⟨(some 27), none, .op (.fieldA 0 (.tmp 26))⟩,
      ⟨(some 28), none, .op (.fieldA 1 (.tmp 27))⟩,
      ⟨none, none, .op (.store 1 (.tmp 28) (.tmp 25))⟩,
      ⟨(some 29), none, .op (.nilck (.tmp 21))⟩,
      ⟨(some 30), none, .op (.fieldA 0 (.tmp 29))⟩,
      ⟨(some 31), none, .op (.fieldA 2 (.tmp 30))⟩,
      ⟨none, none, .op (.store 1 (.tmp 31) (.const (.int .i64 0)))⟩]) (.seq (.region [⟨(some 33), none, .op (.bin .eql (.tmp 17) (.const (.int .u8 6)))⟩,
      ⟨(some 32), none, .op (.move (.tmp 33))⟩])
    (.cond (.tmp 32) (.dregion [⟨0, ⟨(some 34), none, .op (.move (.tmp 5))⟩, []⟩,
      ⟨1, ⟨(some 35), none, .op (.move (.tmp 5))⟩, []⟩,
      ⟨2, ⟨(some 36), none, .op (.fieldA 3 (.tmp 3))⟩, []⟩,
      ⟨3, ⟨(some 37), none, .op (.load 1 false (.tmp 36))⟩, []⟩,
      ⟨4, ⟨(some 38), none, .op (.move (.tmp 4))⟩, []⟩,
      ⟨5, ⟨(some 39), none, .op (.idxA 1 (.tmp 38) (.const (.int .i64 0)))⟩, []⟩,
      ⟨6, ⟨(some 40), none, .op (.load 1 false (.tmp 39))⟩, []⟩,
      ⟨7, ⟨(some 41), none, .op (.bin .and (.tmp 40) (.const (.int .u64 1)))⟩, []⟩,
      ⟨8, ⟨(some 42), none, .op (.bin .sub (.const (.int .u64 1)) (.tmp 41))⟩, []⟩,
      ⟨9, ⟨(some 43), none, .op (.idxA 1 (.tmp 37) (.tmp 42))⟩, []⟩,
      ⟨10, ⟨(some 44), none, .op (.load 1 false (.tmp 43))⟩, []⟩,
      ⟨11, ⟨(some 45), none, .op (.nilck (.tmp 34))⟩, []⟩,
      ⟨12, ⟨(some 46), none, .op (.fieldA 0 (.tmp 45))⟩, []⟩,
      ⟨13, ⟨(some 47), none, .op (.fieldA 1 (.tmp 46))⟩, []⟩,
      ⟨14, ⟨none, none, .op (.store 1 (.tmp 47) (.tmp 44))⟩, [1]⟩,
      ⟨15, ⟨(some 48), none, .op (.nilck (.tmp 35))⟩, []⟩,
      ⟨16, ⟨(some 49), none, .op (.fieldA 0 (.tmp 48))⟩, []⟩,
      ⟨17, ⟨(some 50), none, .op (.fieldA 2 (.tmp 49))⟩, []⟩,
      ⟨18, ⟨none, none, .op (.store 1 (.tmp 50) (.const (.int .i64 0)))⟩, []⟩]) (.seq (.region [⟨(some 52), none, .op (.bin .eql (.tmp 17) (.const (.int .u8 8)))⟩,
      ⟨(some 51), none, .op (.move (.tmp 52))⟩])
    (.cond (.tmp 51) (.seq (.dregion [⟨0, ⟨(some 54), none, .op (.move (.tmp 0))⟩, []⟩,
      ⟨1, ⟨(some 55), none, .op (.nilck (.tmp 54))⟩, []⟩,
      ⟨2, ⟨(some 56), none, .op (.fieldA 0 (.tmp 55))⟩, []⟩,
      ⟨3, ⟨(some 57), none, .op (.load 1 true (.tmp 56))⟩, []⟩,
      ⟨4, ⟨(some 58), none, .op (.fieldA 1 (.tmp 3))⟩, []⟩,
      ⟨5, ⟨(some 59), none, .op (.load 1 false (.tmp 58))⟩, []⟩,
      ⟨6, ⟨(some 60), none, .call (.func 20) [(.tmp 57), (.tmp 59)]⟩, []⟩,
      ⟨7, ⟨(some 53), none, .op (.move (.tmp 60))⟩, []⟩,
      ⟨8, ⟨(some 61), none, .op (.ext (.tmp 53) 0)⟩, []⟩,
      ⟨9, ⟨(some 62), none, .op (.ext (.tmp 53) 1)⟩, []⟩,
      ⟨10, ⟨(some 6), none, .op (.move (.tmp 61))⟩, []⟩,
      ⟨11, ⟨(some 7), none, .op (.move (.tmp 62))⟩, []⟩])
    (.region [⟨(some 63), none, .op (.move (.tmp 5))⟩,
      ⟨(some 64), none, .op (.move (.tmp 0))⟩,
      ⟨(some 65), none, .op (.move (.tmp 6))⟩,
      ⟨(some 66), none, .op (.move (.tmp 4))⟩,
      ⟨(some 67), none, .op (.move (.tmp 5))⟩,
      ⟨(some 68), none, .op (.nilck (.tmp 67))⟩,
      ⟨(some 69), none, .op (.fieldA 4 (.tmp 68))⟩,
      ⟨(some 70), none, .op (.load 1 false (.tmp 69))⟩,
      ⟨(some 71), none, .call (.func 53) [(.tmp 64), (.tmp 65), (.tmp 66), (.tmp 70)]⟩,
      ⟨(some 72), none, .op (.nilck (.tmp 63))⟩,
      ⟨none, none, .op (.store 5 (.tmp 72) (.tmp 71))⟩])) (.seq (.region [⟨(some 74), none, .op (.bin .eql (.tmp 17) (.const (.int .u8 7)))⟩,
      ⟨(some 73), none, .op (.move (.tmp 74))⟩])
    (.cond (.tmp 73) (.seq (.region [⟨(some 8), none, .op (.move (.const (.int .u64 0)))⟩])
    (.seq (.seq (.region [⟨(some 75), none, .op (.move (.tmp 4))⟩,
      ⟨(some 76), none, .op (.len (.tmp 75))⟩,
      ⟨(some 77), none, .op (.bin .gtr (.tmp 76) (.const (.int .i64 0)))⟩])
    (.cond (.tmp 77) (.region [⟨(some 78), none, .op (.move (.tmp 4))⟩,
      ⟨(some 79), none, .op (.idxA 1 (.tmp 78) (.const (.int .i64 0)))⟩,
      ⟨(some 80), none, .op (.load 1 false (.tmp 79))⟩,
      ⟨(some 8), none, .op (.move (.tmp 80))⟩]) .skip))
    (.seq (.region [⟨(some 81), none, .op (.move (.tmp 5))⟩,
      ⟨(some 82), none, .op (.nilck (.tmp 81))⟩,
      ⟨(some 83), none, .op (.fieldA 4 (.tmp 82))⟩,
      ⟨(some 84), none, .op (.load 1 false (.tmp 83))⟩,
      ⟨(some 9), none, .op (.move (.tmp 84))⟩])
    (.seq (.dregion [⟨0, ⟨(some 85), none, .op (.move (.tmp 0))⟩, []⟩,
      ⟨1, ⟨(some 86), none, .op (.move (.tmp 0))⟩, []⟩,
      ⟨2, ⟨(some 87), none, .op (.nilck (.tmp 86))⟩, []⟩,
      ⟨3, ⟨(some 88), none, .op (.fieldA 1 (.tmp 87))⟩, []⟩,
      ⟨4, ⟨(some 89), none, .op (.load 1 false (.tmp 88))⟩, []⟩,
      ⟨5, ⟨(some 90), none, .op (.move (.tmp 0))⟩, []⟩,
      ⟨6, ⟨(some 91), none, .op (.nilck (.tmp 90))⟩, []⟩,
      ⟨7, ⟨(some 92), none, .op (.fieldA 1 (.tmp 91))⟩, []⟩,
      ⟨8, ⟨(some 93), none, .op (.load 1 false (.tmp 92))⟩, []⟩,
      ⟨9, ⟨(some 94), none, .op (.len (.tmp 93))⟩, []⟩,
      ⟨10, ⟨(some 95), none, .op (.bin .sub (.tmp 94) (.const (.int .i64 1)))⟩, []⟩,
      ⟨11, ⟨(some 96), none, .op (.slc 5 (.tmp 89) none (some (.tmp 95)) none)⟩, []⟩,
      ⟨12, ⟨(some 97), none, .op (.nilck (.tmp 85))⟩, []⟩,
      ⟨13, ⟨(some 98), none, .op (.fieldA 1 (.tmp 97))⟩, []⟩,
      ⟨14, ⟨none, none, .op (.store 1 (.tmp 98) (.tmp 96))⟩, []⟩])
    (.seq (.seq (.region [⟨(some 99), none, .op (.move (.tmp 0))⟩,
      ⟨(some 100), none, .op (.nilck (.tmp 99))⟩,
      ⟨(some 101), none, .op (.fieldA 1 (.tmp 100))⟩,
      ⟨(some 102), none, .op (.load 1 false (.tmp 101))⟩,
      ⟨(some 103), none, .op (.len (.tmp 102))⟩,
      ⟨(some 104), none, .op (.bin .eql (.tmp 103) (.const (.int .i64 0)))⟩])
    (.cond (.tmp 104) (.seq (.region [⟨(some 105), none, .op (.move (.tmp 0))⟩,
      ⟨(some 106), none, .op (.move (.tmp 8))⟩,
      ⟨(some 107), none, .op (.nilck (.tmp 105))⟩,
      ⟨(some 108), none, .op (.fieldA 5 (.tmp 107))⟩,
      ⟨none, none, .op (.store 1 (.tmp 108) (.tmp 106))⟩])
    (.region [⟨(some 109), none, .op (.mkif 5 (.const (.int .u8 1)))⟩,
      ⟨none, none, .call (.tmp 109) [(.const (.tuple #[])), (.const (.tuple #[]))]⟩])) .skip))
    (.region [⟨(some 110), none, .op (.move (.tmp 0))⟩,
      ⟨(some 111), none, .op (.move (.tmp 9))⟩,
      ⟨(some 112), none, .op (.move (.tmp 8))⟩,
      ⟨(some 113), none, .call (.func 87) [(.tmp 110), (.tmp 111), (.tmp 112)]⟩])))))) .skip)))))))))))))
def XR74 : List RV := []
theorem Xis74 : Is Tryz.prog (fun _ _ => false) 74 114 XA74 XR74 := ⟨Tryz.f74, Tryz.func74, rfl, by kernel_rfl, by kernel_rfl, Tryz.call74⟩
def fi74 : FI := .code 114 XA74 XR74
theorem ok74 : FI.ok Tryz.prog 74 fi74 := ⟨_, Xis74⟩
def XA77a0 : ACode :=
  (.region [⟨(some 7), none, .op (.alloc [(.int .u8 0), (.int .i64 0), (.int .u64 0), (.str []), (.int .i64 0), .nilS])⟩,
      ⟨none, none, .op (.store 6 (.tmp 7) (.tmp 23))⟩])
def XA77b0 : ACode :=
  (.block 1 (.seq (.region [⟨(some 24), none, .op (.fieldA 0 (.tmp 7))⟩,
      ⟨(some 25), none, .op (.load 1 false (.tmp 24))⟩,
      ⟨(some 26), none, .op (.bin .eql (.tmp 25) (.const (.int .u8 2)))⟩,
      ⟨(some 27), none, .op (.move (.tmp 26))⟩,
      ⟨(some 28), (some (27, true)), .op (.fieldA 6 (.tmp 3))⟩,
      ⟨(some 29), (some (27, true)), .op (.load 1 false (.tmp 28))⟩,
      ⟨(some 30), (some (27, true)), .op (.fieldA 3 (.tmp 7))⟩,
      ⟨(some 31), (some (27, true)), .op (.load 1 false (.tmp 30))⟩,
      ⟨(some 32), (some (27, true)), .op (.m (.look .str (.int .i64 0) false (.tmp 29) (.tmp 31)))⟩,
      ⟨(some 33), (some (27, true)), .op (.fieldA 1 (.tmp 7))⟩,
      ⟨(some 34), (some (27, true)), .op (.load 1 false (.tmp 33))⟩,
      ⟨(some 35), (some (27, true)), .op (.bin .neq (.tmp 32) (.tmp 34))⟩,
      ⟨(some 36), none, .op (.pick (.tmp 27) (.tmp 35) (.const (.bool false)))⟩,
      ⟨(some 37), none, .op (.move (.tmp 36))⟩,
      ⟨(some 38), (some (37, false)), .op (.fieldA 0 (.tmp 7))⟩,
      ⟨(some 39), (some (37, false)), .op (.load 1 false (.tmp 38))⟩,
      ⟨(some 40), (some (37, false)), .op (.bin .eql (.tmp 39) (.const (.int .u8 24)))⟩,
      ⟨(some 41), (some (37, false)), .op (.move (.tmp 40))⟩,
      ⟨(some 42), (some (41, true)), .op (.fieldA 5 (.tmp 7))⟩,
      ⟨(some 43), (some (41, true)), .op (.load 1 false (.tmp 42))⟩,
      ⟨(some 44), (some (41, true)), .op (.idxA 6 (.tmp 43) (.const (.int .i64 0)))⟩,
      ⟨(some 45), (some (41, true)), .op (.fieldA 1 (.tmp 44))⟩,
      ⟨(some 46), (some (41, true)), .op (.load 1 false (.tmp 45))⟩,
      ⟨(some 47), (some (41, true)), .op (.bin .neq (.tmp 46) (.const (.int .i64 32)))⟩,
      ⟨(some 48), (some (37, false)), .op (.pick (.tmp 41) (.tmp 47) (.const (.bool false)))⟩,
      ⟨(some 49), none, .op (.pick (.tmp 37) (.const (.bool true)) (.tmp 48))⟩])
    (.cond (.tmp 49) (.seq (.region [⟨none, none, .op (.store 1 (.tmp 6) (.const (.bool false)))⟩])
    .ret) .skip)))
def XA77 : ACode :=
  (.seq (.region [⟨(some 3), none, .op (.box (.tmp 0))⟩,
      ⟨(some 4), none, .op (.box (.tmp 1))⟩,
      ⟨(some 6), none, .op (.alloc [(.bool false)])⟩])
    (.seq (.seq (.region [⟨(some 8), none, .op (.load 6 true (.tmp 4))⟩,
      ⟨(some 9), none, .call (.func 90) [(.tmp 8)]⟩,
      ⟨(some 10), none, .op (.bin .neq (.tmp 9) (.const (.int .i64 0)))⟩,
      ⟨(some 11), none, .op (.move (.tmp 10))⟩,
      ⟨(some 12), (some (11, false)), .op (.move (.tmp 2))⟩,
      ⟨(some 13), (some (11, false)), .op (.bin .neq (.tmp 12) (.const (.int .i64 0)))⟩,
      ⟨(some 14), (some (11, false)), .op (.move (.tmp 13))⟩,
      ⟨(some 15), (some (14, true)), .op (.fieldA 1 (.tmp 4))⟩,
      ⟨(some 16), (some (14, true)), .op (.load 1 false (.tmp 15))⟩,
      ⟨(some 17), (some (14, true)), .op (.move (.tmp 2))⟩,
      ⟨(some 18), (some (14, true)), .op (.bin .neq (.tmp 16) (.tmp 17))⟩,
      ⟨(some 19), (some (11, false)), .op (.pick (.tmp 14) (.tmp 18) (.const (.bool false)))⟩,
      ⟨(some 20), none, .op (.pick (.tmp 11) (.const (.bool true)) (.tmp 19))⟩])
    (.cond (.tmp 20) (.seq (.region [⟨none, none, .op (.store 1 (.tmp 6) (.const (.bool false)))⟩])
    .ret) .skip))
    (.seq (.seq (.region [⟨(some 21), none, .op (.load 6 true (.tmp 4))⟩,
      ⟨(some 22), none, .call (.func 91) [(.tmp 21)]⟩])
    (.block 0 (.rangeF (.tmp 22) #[23] XA77a0 XA77b0)))
    (.seq (.region [⟨none, none, .op (.store 1 (.tmp 6) (.const (.bool true)))⟩])
    .ret))))
def XR77 : List RV := [.cell 6 1 false]
theorem Xis77 : Is Tryz.prog (fun _ _ => false) 77 50 XA77 XR77 := ⟨Tryz.f77, Tryz.func77, rfl, by kernel_rfl, by kernel_rfl, Tryz.call77⟩
def fi77 : FI := .code 50 XA77 XR77
theorem ok77 : FI.ok Tryz.prog 77 fi77 := ⟨_, Xis77⟩
def XA83l0 : ACode :=
  (.block 1 (.seq (.region [⟨(some 21), none, .op (.move (.tmp 2))⟩,
      ⟨(some 22), none, .op (.move (.tmp 1))⟩,
      ⟨(some 23), none, .op (.bin .sub (.tmp 21) (.tmp 22))⟩,
      ⟨(some 12), none, .op (.move (.tmp 23))⟩])
    (.seq (.seq (.region [⟨(some 24), none, .op (.move (.tmp 12))⟩,
      ⟨(some 25), none, .op (.bin .leq (.tmp 24) (.const (.int .i64 12)))⟩])
    (.cond (.tmp 25) (.seq (.region [⟨(some 26), none, .op (.move (.tmp 0))⟩,
      ⟨(some 27), none, .op (.move (.tmp 1))⟩,
      ⟨(some 28), none, .op (.move (.tmp 2))⟩,
      ⟨(some 29), none, .op (.move (.tmp 4))⟩,
      ⟨(some 30), none, .call (.func 93) [(.tmp 26), (.tmp 27), (.tmp 28), (.tmp 29)]⟩])
    .ret) .skip))
    (.seq (.seq (.region [⟨(some 31), none, .op (.move (.tmp 3))⟩,
      ⟨(some 32), none, .op (.bin .eql (.tmp 31) (.const (.int .i64 0)))⟩])
    (.cond (.tmp 32) (.seq (.region [⟨(some 33), none, .op (.move (.tmp 0))⟩,
      ⟨(some 34), none, .op (.move (.tmp 1))⟩,
      ⟨(some 35), none, .op (.move (.tmp 2))⟩,
      ⟨(some 36), none, .op (.move (.tmp 4))⟩,
      ⟨(some 37), none, .call (.func 94) [(.tmp 33), (.tmp 34), (.tmp 35), (.tmp 36)]⟩])
    .ret) .skip))
    (.seq (.seq (.region [⟨(some 38), none, .op (.move (.tmp 10))⟩,
      ⟨(some 39), none, .op (.un .not (.tmp 38))⟩])
    (.cond (.tmp 39) (.seq (.region [⟨(some 40), none, .op (.move (.tmp 0))⟩,
      ⟨(some 41), none, .op (.move (.tmp 1))⟩,
      ⟨(some 42), none, .op (.move (.tmp 2))⟩,
      ⟨(some 43), none, .op (.move (.tmp 4))⟩,
      ⟨(some 44), none, .call (.func 95) [(.tmp 40), (.tmp 41), (.tmp 42), (.tmp 43)]⟩])
    (.region [⟨(some 45), none, .op (.move (.tmp 3))⟩,
      ⟨(some 46), none, .op (.bin .sub (.tmp 45) (.const (.int .i64 1)))⟩,
      ⟨(some 3), none, .op (.move (.tmp 46))⟩])) .skip))
    (.seq (.region [⟨(some 48), none, .op (.move (.tmp 0))⟩,
      ⟨(some 49), none, .op (.move (.tmp 1))⟩,
      ⟨(some 50), none, .op (.move (.tmp 2))⟩,
      ⟨(some 51), none, .op (.move (.tmp 4))⟩,
      ⟨(some 52), none, .call (.func 96) [(.tmp 48), (.tmp 49), (.tmp 50), (.tmp 51)]⟩,
      ⟨(some 47), none, .op (.move (.tmp 52))⟩,
      ⟨(some 53), none, .op (.ext (.tmp 47) 0)⟩,
      ⟨(some 54), none, .op (.ext (.tmp 47) 1)⟩,
      ⟨(some 13), none, .op (.move (.tmp 53))⟩,
      ⟨(some 14), none, .op (.move (.tmp 54))⟩])
    (.seq (.seq (.region [⟨(some 55), none, .op (.move (.tmp 14))⟩,
      ⟨(some 56), none, .op (.bin .eql (.tmp 55) (.const (.int .i64 2)))⟩])
    (.cond (.tmp 56) (.seq (.region [⟨(some 57), none, .op (.move (.tmp 0))⟩,
      ⟨(some 58), none, .op (.move (.tmp 1))⟩,
      ⟨(some 59), none, .op (.move (.tmp 2))⟩,
      ⟨(some 60), none, .op (.move (.tmp 4))⟩,
      ⟨(some 61), none, .call (.func 97) [(.tmp 57), (.tmp 58), (.tmp 59), (.tmp 60)]⟩])
    (.seq (.region [⟨(some 62), none, .op (.move (.tmp 2))⟩,
      ⟨(some 63), none, .op (.bin .sub (.tmp 62) (.const (.int .i64 1)))⟩,
      ⟨(some 64), none, .op (.move (.tmp 13))⟩,
      ⟨(some 65), none, .op (.move (.tmp 1))⟩,
      ⟨(some 66), none, .op (.bin .sub (.tmp 64) (.tmp 65))⟩,
      ⟨(some 67), none, .op (.bin .sub (.tmp 63) (.tmp 66))⟩,
      ⟨(some 13), none, .op (.move (.tmp 67))⟩])
    (.region [⟨(some 14), none, .op (.move (.const (.int .i64 1)))⟩]))) .skip))
    (.seq (.seq (.region [⟨(some 68), none, .op (.move (.tmp 10))⟩,
      ⟨(some 69), none, .op (.move (.tmp 68))⟩,
      ⟨(some 70), (some (69, true)), .op (.move (.tmp 11))⟩,
      ⟨(some 71), none, .op (.pick (.tmp 69) (.tmp 70) (.const (.bool false)))⟩,
      ⟨(some 72), none, .op (.move (.tmp 71))⟩,
      ⟨(some 73), (some (72, true)), .op (.move (.tmp 14))⟩,
      ⟨(some 74), (some (72, true)), .op (.bin .eql (.tmp 73) (.const (.int .i64 1)))⟩,
      ⟨(some 75), none, .op (.pick (.tmp 72) (.tmp 74) (.const (.bool false)))⟩])
    (.cond (.tmp 75) (.seq (.region [⟨(some 76), none, .op (.move (.tmp 0))⟩,
      ⟨(some 77), none, .op (.move (.tmp 1))⟩,
      ⟨(some 78), none, .op (.move (.tmp 2))⟩,
      ⟨(some 79), none, .op (.move (.tmp 4))⟩,
      ⟨(some 80), none, .call (.func 98) [(.tmp 76), (.tmp 77), (.tmp 78), (.tmp 79)]⟩])
    (.cond (.tmp 80) .ret .skip)) .skip))
    (.seq (.seq (.dregion [⟨0, ⟨(some 81), none, .op (.move (.tmp 1))⟩, []⟩,
      ⟨1, ⟨(some 82), none, .op (.bin .gtr (.tmp 81) (.const (.int .i64 0)))⟩, []⟩,
      ⟨2, ⟨(some 83), none, .op (.move (.tmp 82))⟩, []⟩,
      ⟨3, ⟨(some 84), (some (83, true)), .op (.move (.tmp 4))⟩, []⟩,
      ⟨4, ⟨(some 85), (some (83, true)), .op (.move (.tmp 0))⟩, []⟩,
      ⟨5, ⟨(some 86), (some (83, true)), .op (.move (.tmp 1))⟩, []⟩,
      ⟨6, ⟨(some 87), (some (83, true)), .op (.bin .sub (.tmp 86) (.const (.int .i64 1)))⟩, []⟩,
      ⟨7, ⟨(some 88), (some (83, true)), .op (.idxA 3 (.tmp 85) (.tmp 87))⟩, []⟩,
      ⟨8, ⟨(some 89), (some (83, true)), .op (.load 3 true (.tmp 88))⟩, []⟩,
      ⟨9, ⟨(some 90), (some (83, true)), .op (.move (.tmp 0))⟩, []⟩,
      ⟨10, ⟨(some 91), (some (83, true)), .op (.move (.tmp 13))⟩, []⟩,
      ⟨11, ⟨(some 92), (some (83, true)), .op (.idxA 3 (.tmp 90) (.tmp 91))⟩, []⟩,
      ⟨12, ⟨(some 93), (some (83, true)), .op (.load 3 true (.tmp 92))⟩, []⟩,
      ⟨13, ⟨(some 94), (some (83, true)), .call (.tmp 84) [(.tmp 89), (.tmp 93)]⟩, []⟩,
      ⟨14, ⟨(some 95), (some (83, true)), .op (.bin .lss (.tmp 94) (.const (.int .i64 0)))⟩, []⟩,
      ⟨15, ⟨(some 96), (some (83, true)), .op (.un .not (.tmp 95))⟩, []⟩,
      ⟨16, ⟨(some 97), none, .op (.pick (.tmp 83) (.tmp 96) (.const (.bool false)))⟩, []⟩])
    (.cond (.tmp 97) (.seq (.region [⟨(some 98), none, .op (.move (.tmp 0))⟩,
      ⟨(some 99), none, .op (.move (.tmp 1))⟩,
      ⟨(some 100), none, .op (.move (.tmp 2))⟩,
      ⟨(some 101), none, .op (.move (.tmp 13))⟩,
      ⟨(some 102), none, .op (.move (.tmp 4))⟩,
      ⟨(some 103), none, .call (.func 99) [(.tmp 98), (.tmp 99), (.tmp 100), (.tmp 101), (.tmp 102)]⟩,
      ⟨(some 15), none, .op (.move (.tmp 103))⟩])
    (.seq (.region [⟨(some 104), none, .op (.move (.tmp 15))⟩,
      ⟨(some 1), none, .op (.move (.tmp 104))⟩])
    (.exit 1))) .skip))
    (.seq (.region [⟨(some 106), none, .op (.move (.tmp 0))⟩,
      ⟨(some 107), none, .op (.move (.tmp 1))⟩,
      ⟨(some 108), none, .op (.move (.tmp 2))⟩,
      ⟨(some 109), none, .op (.move (.tmp 13))⟩,
      ⟨(some 110), none, .op (.move (.tmp 4))⟩,
      ⟨(some 111), none, .call (.func 100) [(.tmp 106), (.tmp 107), (.tmp 108), (.tmp 109), (.tmp 110)]⟩,
      ⟨(some 105), none, .op (.move (.tmp 111))⟩,
      ⟨(some 112), none, .op (.ext (.tmp 105) 0)⟩,
      ⟨(some 113), none, .op (.ext (.tmp 105) 1)⟩,
      ⟨(some 16), none, .op (.move (.tmp 112))⟩,
      ⟨(some 17), none, .op (.move (.tmp 113))⟩])
    (.seq (.region [⟨(some 114), none, .op (.move (.tmp 17))⟩,
      ⟨(some 11), none, .op (.move (.tmp 114))⟩])
    (.seq (.region [⟨(some 115), none, .op (.move (.tmp 16))⟩,
      ⟨(some 116), none, .op (.move (.tmp 1))⟩,
      ⟨(some 117), none, .op (.bin .sub (.tmp 115) (.tmp 116))⟩,
      ⟨(some 118), none, .op (.move (.tmp 2))⟩,
      ⟨(some 119), none, .op (.move (.tmp 16))⟩,
      ⟨(some 120), none, .op (.bin .sub (.tmp 118) (.tmp 119))⟩,
      ⟨(some 18), none, .op (.move (.tmp 117))⟩,
      ⟨(some 19), none, .op (.move (.tmp 120))⟩])
    (.seq (.region [⟨(some 121), none, .op (.move (.tmp 12))⟩,
      ⟨(some 122), none, .op (.bin .quo (.tmp 121) (.const (.int .i64 8)))⟩,
      ⟨(some 20), none, .op (.move (.tmp 122))⟩])
    (.seq (.region [⟨(some 123), none, .op (.move (.tmp 18))⟩,
      ⟨(some 124), none, .op (.move (.tmp 19))⟩,
      ⟨(some 125), none, .op (.bin .lss (.tmp 123) (.tmp 124))⟩])
    (.cond (.tmp 125) (.seq (.region [⟨(some 126), none, .op (.move (.tmp 18))⟩,
      ⟨(some 127), none, .op (.move (.tmp 20))⟩,
      ⟨(some 128), none, .op (.bin .geq (.tmp 126) (.tmp 127))⟩,
      ⟨(some 10), none, .op (.move (.tmp 128))⟩])
    (.seq (.region [⟨(some 129), none, .op (.move (.tmp 0))⟩,
      ⟨(some 130), none, .op (.move (.tmp 1))⟩,
      ⟨(some 131), none, .op (.move (.tmp 16))⟩,
      ⟨(some 132), none, .op (.move (.tmp 3))⟩,
      ⟨(some 133), none, .op (.move (.tmp 4))⟩,
      ⟨(some 134), none, .call (.func 83) [(.tmp 129), (.tmp 130), (.tmp 131), (.tmp 132), (.tmp 133)]⟩])
    (.region [⟨(some 135), none, .op (.move (.tmp 16))⟩,
      ⟨(some 136), none, .op (.bin .add (.tmp 135) (.const (.int .i64 1)))⟩,
      ⟨(some 1), none, .op (.move (.tmp 136))⟩]))) (.seq (.region [⟨(some 137), none, .op (.move (.tmp 19))⟩,
      ⟨(some 138), none, .op (.move (.tmp 20))⟩,
      ⟨(some 139), none, .op (.bin .geq (.tmp 137) (.tmp 138))⟩,
      ⟨(some 10), none, .op (.move (.tmp 139))⟩])
    (.seq (.region [⟨(some 140), none, .op (.move (.tmp 0))⟩,
      ⟨(some 141), none, .op (.move (.tmp 16))⟩,
      ⟨(some 142), none, .op (.bin .add (.tmp 141) (.const (.int .i64 1)))⟩,
      ⟨(some 143), none, .op (.move (.tmp 2))⟩,
      ⟨(some 144), none, .op (.move (.tmp 3))⟩,
      ⟨(some 145), none, .op (.move (.tmp 4))⟩,
      ⟨(some 146), none, .call (.func 83) [(.tmp 140), (.tmp 142), (.tmp 143), (.tmp 144), (.tmp 145)]⟩])
    (.region [⟨(some 147), none, .op (.move (.tmp 16))⟩,
      ⟨(some 2), none, .op (.move (.tmp 147))⟩]))))))))))))))))))
def XA83 : ACode :=
  (.seq (.region [⟨(some 10), none, .op (.move (.const (.bool true)))⟩])
    (.seq (.region [⟨(some 11), none, .op (.move (.const (.bool true)))⟩])
    (.block 0 (.loop XA83l0))))
def XR83 : List RV := []
theorem Xis83 : Is Tryz.prog (fun _ _ => false) 83 148 XA83 XR83 := ⟨Tryz.f83, Tryz.func83, rfl, by kernel_rfl, by kernel_rfl, Tryz.call83⟩
def fi83 : FI := .code 148 XA83 XR83
theorem ok83 : FI.ok Tryz.prog 83 fi83 := ⟨_, Xis83⟩
def XA84 : ACode :=
  (.seq (.region [⟨(some 2), none, .op (.move (.const (.int .i64 0)))⟩])
    (.seq (.cond (.const (.bool false)) (.seq (.region [⟨(some 3), none, .op (.move (.tmp 0))⟩,
      ⟨(some 4), none, .op (.conv .u32 (.tmp 3))⟩,
      ⟨(some 5), none, .call (.func 101) [(.tmp 4)]⟩,
      ⟨(some 2), none, .op (.move (.tmp 5))⟩])
    .ret) .skip)
    (.seq (.region [⟨(some 6), none, .op (.move (.tmp 0))⟩,
      ⟨(some 7), none, .call (.func 102) [(.tmp 6)]⟩,
      ⟨(some 2), none, .op (.move (.tmp 7))⟩])
    .ret)))
def XR84 : List RV := [.tmp 2]
theorem Xis84 : Is Tryz.prog (fun _ _ => false) 84 8 XA84 XR84 := ⟨Tryz.f84, Tryz.func84, rfl, by kernel_rfl, by kernel_rfl, Tryz.call84⟩
def fi84 : FI := .code 8 XA84 XR84
theorem ok84 : FI.ok Tryz.prog 84 fi84 := ⟨_, Xis84⟩
def XA86l0 : ACode :=
  (.seq (.region [⟨(some 13), none, .op (.bin .lss (.tmp 12) (.tmp 11))⟩])
    (.seq (.cond (.tmp 13) .skip (.exit 0))
    (.seq (.block 1 (.seq (.region [⟨(some 14), none, .op (.idxA 6 (.tmp 10) (.tmp 12))⟩,
      ⟨(some 15), none, .op (.load 6 true (.tmp 14))⟩,
      ⟨(some 7), none, .op (.alloc [(.int .u8 0), (.int .i64 0), (.int .u64 0), (.str []), (.int .i64 0), .nilS])⟩,
      ⟨none, none, .op (.store 6 (.tmp 7) (.tmp 15))⟩])
    (.seq (.dregion [⟨0, ⟨(some 17), none, .op (.load 6 true (.tmp 7))⟩, []⟩,
      ⟨1, ⟨(some 18), none, .op (.move (.tmp 0))⟩, []⟩,
      ⟨6, ⟨(some 23), none, .op (.move (.tmp 0))⟩, []⟩,
      ⟨7, ⟨(some 24), none, .op (.nilck (.tmp 23))⟩, []⟩,
      ⟨8, ⟨(some 25), none, .op (.fieldA 4 (.tmp 24))⟩, []⟩,
      ⟨9, ⟨(some 26), none, .op (.load 1 false (.tmp 25))⟩, []⟩,
      ⟨2, ⟨(some 19), none, .call (.func 72) [(.tmp 18)]⟩, [0, 6, 7, 8, 9]⟩,
      ⟨3, ⟨(some 20), none, .op (.nilck (.tmp 19))⟩, []⟩,
      ⟨4, ⟨(some 21), none, .op (.fieldA 3 (.tmp 20))⟩, []⟩,
      ⟨5, ⟨(some 22), none, .op (.load 1 false (.tmp 21))⟩, []⟩,
      ⟨10, ⟨(some 27), none, .call (.func 104) [(.tmp 17), (.tmp 22), (.tmp 26)]⟩, []⟩,
      ⟨11, ⟨(some 16), none, .op (.move (.tmp 27))⟩, []⟩,
      ⟨12, ⟨(some 28), none, .op (.ext (.tmp 16) 0)⟩, []⟩,
      ⟨13, ⟨(some 29), none, .op (.ext (.tmp 16) 1)⟩, []⟩,
      ⟨14, ⟨(some 8), none, .op (.move (.tmp 28))⟩, []⟩,
      ⟨15, ⟨(some 9), none, .op (.move (.tmp 29))⟩, []⟩])
    (.region [⟨(some 30), none, .op (.move (.tmp 5))⟩,
      ⟨(some 31), none, .op (.move (.tmp 8))⟩,
      ⟨(some 32), none, .op (.buildF [(.int .u64 0)] 1 [(0, (.tmp 31))])⟩,
      ⟨(some 33), none, .op (.app 23 1 8 (.tmp 30) (.tmp 32))⟩,
      ⟨(some 5), none, .op (.move (.tmp 33))⟩]))))
    (.region [⟨(some 34), none, .op (.bin .add (.tmp 12) (.const (.int .i64 1)))⟩,
      ⟨(some 12), none, .op (.move (.tmp 34))⟩]))))
def XA86 : ACode :=
  (.seq (.region [⟨(some 4), none, .op (.move (.const (.slice none 0 0)))⟩])
    (.seq (.region [⟨(some 5), none, .op (.move (.const (.slice none 0 0)))⟩])
    (.seq (.seq (.region [⟨(some 10), none, .op (.move (.tmp 1))⟩,
      ⟨(some 11), none, .op (.len (.tmp 10))⟩,
      ⟨(some 12), none, .op (.move (.const (.int .i64 0)))⟩])
    (.block 0 (.loop XA86l0)))
    (.seq (.region [⟨(some 35), none, .op (.move (.tmp 5))⟩,
      ⟨(some 4), none, .op (.move (.tmp 35))⟩])
    .ret))))
def XR86 : List RV := [.tmp 4]
theorem Xis86 : Is Tryz.prog (fun _ _ => false) 86 36 XA86 XR86 := ⟨Tryz.f86, Tryz.func86, rfl, by kernel_rfl, by kernel_rfl, Tryz.call86⟩
def fi86 : FI := .code 36 XA86 XR86
theorem ok86 : FI.ok Tryz.prog 86 fi86 := ⟨_, Xis86⟩
def XA90a0 : ACode :=
  (.region [⟨(some 3), none, .op (.alloc [(.int .u8 0), (.int .i64 0), (.int .u64 0), (.str []), (.int .i64 0), .nilS])⟩,
      ⟨none, none, .op (.store 6 (.tmp 3) (.tmp 16))⟩])
def XA90b0 : ACode :=
  (.block 1 (.seq (.region [⟨(some 17), none, .op (.load 6 true (.tmp 3))⟩,
      ⟨(some 18), none, .call (.func 108) [(.tmp 17)]⟩,
      ⟨(some 19), none, .op (.un .not (.tmp 18))⟩])
    (.cond (.tmp 19) (.seq (.region [⟨none, none, .op (.store 1 (.tmp 2) (.const (.int .i64 8)))⟩])
    .ret) .skip)))
def XA90 : ACode :=
  (.seq (.region [⟨(some 1), none, .op (.box (.tmp 0))⟩,
      ⟨(some 2), none, .op (.alloc [(.int .i64 0)])⟩])
    (.seq (.seq (.region [⟨(some 6), none, .op (.load 6 true (.tmp 1))⟩,
      ⟨(some 7), none, .call (.func 105) [(.tmp 6)]⟩,
      ⟨(some 8), none, .op (.bin .gtr (.tmp 7) (.const (.int .i64 400)))⟩,
      ⟨(some 9), none, .op (.move (.tmp 8))⟩,
      ⟨(some 10), (some (9, false)), .op (.load 6 true (.tmp 1))⟩,
      ⟨(some 11), (some (9, false)), .call (.func 106) [(.tmp 10)]⟩,
      ⟨(some 12), (some (9, false)), .op (.bin .gtr (.tmp 11) (.const (.int .i64 60)))⟩,
      ⟨(some 13), none, .op (.pick (.tmp 9) (.const (.bool true)) (.tmp 12))⟩])
    (.cond (.tmp 13) (.seq (.region [⟨none, none, .op (.store 1 (.tmp 2) (.const (.int .i64 4)))⟩])
    .ret) .skip))
    (.seq (.seq (.region [⟨(some 14), none, .op (.load 6 true (.tmp 1))⟩,
      ⟨(some 15), none, .call (.func 107) [(.tmp 14)]⟩])
    (.block 0 (.rangeF (.tmp 15) #[16] XA90a0 XA90b0)))
    (.seq (.seq (.region [⟨(some 21), none, .op (.load 6 true (.tmp 1))⟩,
      ⟨(some 22), none, .call (.func 109) [(.tmp 21)]⟩,
      ⟨(some 20), none, .op (.move (.tmp 22))⟩,
      ⟨(some 23), none, .op (.ext (.tmp 20) 0)⟩,
      ⟨(some 24), none, .op (.ext (.tmp 20) 1)⟩,
      ⟨(some 4), none, .op (.move (.tmp 23))⟩,
      ⟨(some 5), none, .op (.move (.tmp 24))⟩])
    (.seq (.region [⟨(some 25), none, .op (.move (.tmp 5))⟩,
      ⟨(some 26), none, .op (.un .not (.tmp 25))⟩])
    (.cond (.tmp 26) (.seq (.region [⟨none, none, .op (.store 1 (.tmp 2) (.const (.int .i64 14)))⟩])
    .ret) .skip)))
    (.seq (.region [⟨none, none, .op (.store 1 (.tmp 2) (.const (.int .i64 0)))⟩])
    .ret)))))
def XR90 : List RV := [.cell 2 1 false]
theorem Xis90 : Is Tryz.prog (fun _ _ => false) 90 27 XA90 XR90 := ⟨Tryz.f90, Tryz.func90, rfl, by kernel_rfl, by kernel_rfl, Tryz.call90⟩
def fi90 : FI := .code 27 XA90 XR90
theorem ok90 : FI.ok Tryz.prog 90 fi90 := ⟨_, Xis90⟩
def XA91 : ACode :=
  (.seq (.region [⟨(some 1), none, .op (.box (.tmp 0))⟩,
      ⟨(some 2), none, .op (.move (.const .nilFunc))⟩])
    (.seq (.region [⟨(some 3), none, .op (.mkfn (.func 110) [(.tmp 1)])⟩,
      ⟨(some 2), none, .op (.move (.tmp 3))⟩])
    .ret))
def XR91 : List RV := [.tmp 2]
theorem Xis91 : Is Tryz.prog (fun _ _ => false) 91 4 XA91 XR91 := ⟨Tryz.f91, Tryz.func91, rfl, by kernel_rfl, by kernel_rfl, Tryz.call91⟩
def fi91 : FI := .code 4 XA91 XR91
theorem ok91 : FI.ok Tryz.prog 91 fi91 := ⟨_, Xis91⟩
def XA93l0 : ACode :=
  (.seq (.seq (.dregion [⟨0, ⟨(some 18), none, .op (.move (.tmp 9))⟩, []⟩,
      ⟨1, ⟨(some 19), none, .op (.move (.tmp 1))⟩, []⟩,
      ⟨2, ⟨(some 20), none, .op (.bin .gtr (.tmp 18) (.tmp 19))⟩, []⟩,
      ⟨3, ⟨(some 21), none, .op (.move (.tmp 20))⟩, []⟩,
      ⟨4, ⟨(some 22), (some (21, true)), .op (.move (.tmp 3))⟩, []⟩,
      ⟨5, ⟨(some 23), (some (21, true)), .op (.move (.tmp 0))⟩, []⟩,
      ⟨6, ⟨(some 24), (some (21, true)), .op (.move (.tmp 9))⟩, []⟩,
      ⟨7, ⟨(some 25), (some (21, true)), .op (.idxA 3 (.tmp 23) (.tmp 24))⟩, []⟩,
      ⟨8, ⟨(some 26), (some (21, true)), .op (.load 3 true (.tmp 25))⟩, []⟩,
      ⟨9, ⟨(some 27), (some (21, true)), .op (.move (.tmp 0))⟩, []⟩,
      ⟨10, ⟨(some 28), (some (21, true)), .op (.move (.tmp 9))⟩, []⟩,
      ⟨11, ⟨(some 29), (some (21, true)), .op (.bin .sub (.tmp 28) (.const (.int .i64 1)))⟩, []⟩,
      ⟨12, ⟨(some 30), (some (21, true)), .op (.idxA 3 (.tmp 27) (.tmp 29))⟩, []⟩,
      ⟨13, ⟨(some 31), (some (21, true)), .op (.load 3 true (.tmp 30))⟩, []⟩,
      ⟨14, ⟨(some 32), (some (21, true)), .call (.tmp 22) [(.tmp 26), (.tmp 31)]⟩, []⟩,
      ⟨15, ⟨(some 33), (some (21, true)), .op (.bin .lss (.tmp 32) (.const (.int .i64 0)))⟩, []⟩,
      ⟨16, ⟨(some 34), none, .op (.pick (.tmp 21) (.tmp 33) (.const (.bool false)))⟩, []⟩])
    (.cond (.tmp 34) .skip (.exit 2)))
    (.seq (.block 3 (.dregion [⟨0, ⟨(some 37), none, .op (.move (.tmp 0))⟩, []⟩,
      ⟨1, ⟨(some 38), none, .op (.move (.tmp 9))⟩, []⟩,
      ⟨2, ⟨(some 39), none, .op (.move (.tmp 0))⟩, []⟩,
      ⟨3, ⟨(some 40), none, .op (.move (.tmp 9))⟩, []⟩,
      ⟨4, ⟨(some 41), none, .op (.bin .sub (.tmp 40) (.const (.int .i64 1)))⟩, []⟩,
      ⟨5, ⟨(some 42), none, .op (.move (.tmp 0))⟩, []⟩,
      ⟨6, ⟨(some 43), none, .op (.move (.tmp 9))⟩, []⟩,
      ⟨7, ⟨(some 44), none, .op (.bin .sub (.tmp 43) (.const (.int .i64 1)))⟩, []⟩,
      ⟨8, ⟨(some 45), none, .op (.idxA 3 (.tmp 42) (.tmp 44))⟩, []⟩,
      ⟨9, ⟨(some 46), none, .op (.load 3 true (.tmp 45))⟩, []⟩,
      ⟨10, ⟨(some 47), none, .op (.move (.tmp 0))⟩, []⟩,
      ⟨11, ⟨(some 48), none, .op (.move (.tmp 9))⟩, []⟩,
      ⟨12, ⟨(some 49), none, .op (.idxA 3 (.tmp 47) (.tmp 48))⟩, []⟩,
      ⟨13, ⟨(some 50), none, .op (.load 3 true (.tmp 49))⟩, []⟩,
      ⟨14, ⟨(some 51), none, .op (.idxA 3 (.tmp 37) (.tmp 38))⟩, []⟩,
      ⟨15, ⟨none, none, .op (.store 3 (.tmp 51) (.tmp 46))⟩, [2, 3, 4]⟩,
      ⟨16, ⟨(some 52), none, .op (.idxA 3 (.tmp 39) (.tmp 41))⟩, []⟩,
      ⟨17, ⟨none, none, .op (.store 3 (.tmp 52) (.tmp 50))⟩, []⟩]))
    (.region [⟨(some 35), none, .op (.move (.tmp 9))⟩,
      ⟨(some 36), none, .op (.bin .sub (.tmp 35) (.const (.int .i64 1)))⟩,
      ⟨(some 9), none, .op (.move (.tmp 36))⟩])))
def XA93l1 : ACode :=
  (.seq (.seq (.region [⟨(some 12), none, .op (.move (.tmp 8))⟩,
      ⟨(some 13), none, .op (.move (.tmp 2))⟩,
      ⟨(some 14), none, .op (.bin .lss (.tmp 12) (.tmp 13))⟩])
    (.cond (.tmp 14) .skip (.exit 0)))
    (.seq (.block 1 (.seq (.region [⟨(some 17), none, .op (.move (.tmp 8))⟩,
      ⟨(some 9), none, .op (.move (.tmp 17))⟩])
    (.block 2 (.loop XA93l0))))
    (.region [⟨(some 15), none, .op (.move (.tmp 8))⟩,
      ⟨(some 16), none, .op (.bin .add (.tmp 15) (.const (.int .i64 1)))⟩,
      ⟨(some 8), none, .op (.move (.tmp 16))⟩])))
def XA93 : ACode :=
  (.seq (.region [⟨(some 10), none, .op (.move (.tmp 1))⟩,
      ⟨(some 11), none, .op (.bin .add (.tmp 10) (.const (.int .i64 1)))⟩,
      ⟨(some 8), none, .op (.move (.tmp 11))⟩])
    (.block 0 (.loop XA93l1)))
def XR93 : List RV := []
theorem Xis93 : Is Tryz.prog (fun _ _ => false) 93 53 XA93 XR93 := ⟨Tryz.f93, Tryz.func93, rfl, by kernel_rfl, by kernel_rfl, Tryz.call93⟩
def fi93 : FI := .code 53 XA93 XR93
theorem ok93 : FI.ok Tryz.prog 93 fi93 := ⟨_, Xis93⟩
def XA102 : ACode :=
  (.seq (.region [⟨(some 2), none, .op (.move (.const (.int .i64 0)))⟩])
    (.seq (.seq (.region [⟨(some 3), none, .op (.move (.tmp 0))⟩,
      ⟨(some 4), none, .op (.bin .geq (.tmp 3) (.const (.int .u64 4294967296)))⟩])
    (.cond (.tmp 4) (.seq (.region [⟨(some 5), none, .op (.move (.tmp 0))⟩,
      ⟨(some 6), none, .op (.bin .shr (.tmp 5) (.const (.int .u64 32)))⟩,
      ⟨(some 0), none, .op (.move (.tmp 6))⟩])
    (.region [⟨(some 2), none, .op (.move (.const (.int .i64 32)))⟩])) .skip))
    (.seq (.seq (.region [⟨(some 7), none, .op (.move (.tmp 0))⟩,
      ⟨(some 8), none, .op (.bin .geq (.tmp 7) (.const (.int .u64 65536)))⟩])
    (.cond (.tmp 8) (.seq (.region [⟨(some 9), none, .op (.move (.tmp 0))⟩,
      ⟨(some 10), none, .op (.bin .shr (.tmp 9) (.const (.int .u64 16)))⟩,
      ⟨(some 0), none, .op (.move (.tmp 10))⟩])
    (.region [⟨(some 11), none, .op (.move (.tmp 2))⟩,
      ⟨(some 12), none, .op (.bin .add (.tmp 11) (.const (.int .i64 16)))⟩,
      ⟨(some 2), none, .op (.move (.tmp 12))⟩])) .skip))
    (.seq (.seq (.region [⟨(some 13), none, .op (.move (.tmp 0))⟩,
      ⟨(some 14), none, .op (.bin .geq (.tmp 13) (.const (.int .u64 256)))⟩])
    (.cond (.tmp 14) (.seq (.region [⟨(some 15), none, .op (.move (.tmp 0))⟩,
      ⟨(some 16), none, .op (.bin .shr (.tmp 15) (.const (.int .u64 8)))⟩,
      ⟨(some 0), none, .op (.move (.tmp 16))⟩])
    (.region [⟨(some 17), none, .op (.move (.tmp 2))⟩,
      ⟨(some 18), none, .op (.bin .add (.tmp 17) (.const (.int .i64 8)))⟩,
      ⟨(some 2), none, .op (.move (.tmp 18))⟩])) .skip))
    (.seq (.region [⟨(some 19), none, .op (.move (.tmp 2))⟩,
      ⟨(some 20), none, .op (.move (.tmp 0))⟩,
      ⟨(some 21), none, .op (.conv .u8 (.tmp 20))⟩,
      ⟨(some 22), none, .op (.idxs (.const (.string ⟨#[0, 1, 2, 2, 3, 3, 3, 3, 4, 4, 4, 4, 4, 4, 4, 4, 5, 5, 5, 5, 5, 5, 5, 5, 5, 5, 5, 5, 5, 5, 5, 5, 6, 6, 6, 6, 6, 6, 6, 6, 6, 6, 6, 6, 6, 6, 6, 6, 6, 6, 6, 6, 6, 6, 6, 6, 6, 6, 6, 6, 6, 6, 6, 6, 7, 7, 7, 7, 7, 7, 7, 7, 7, 7, 7, 7, 7, 7, 7, 7, 7, 7, 7, 7, 7, 7, 7, 7, 7, 7, 7, 7, 7, 7, 7, 7, 7, 7, 7, 7, 7, 7, 7, 7, 7, 7, 7, 7, 7, 7, 7, 7, 7, 7, 7, 7, 7, 7, 7, 7, 7, 7, 7, 7, 7, 7, 7, 7, 8, 8, 8, 8, 8, 8, 8, 8, 8, 8, 8, 8, 8, 8, 8, 8, 8, 8, 8, 8, 8, 8, 8, 8, 8, 8, 8, 8, 8, 8, 8, 8, 8, 8, 8, 8, 8, 8, 8, 8, 8, 8, 8, 8, 8, 8, 8, 8, 8, 8, 8, 8, 8, 8, 8, 8, 8, 8, 8, 8, 8, 8, 8, 8, 8, 8, 8, 8, 8, 8, 8, 8, 8, 8, 8, 8, 8, 8, 8, 8, 8, 8, 8, 8, 8, 8, 8, 8, 8, 8, 8, 8, 8, 8, 8, 8, 8, 8, 8, 8, 8, 8, 8, 8, 8, 8, 8, 8, 8, 8, 8, 8, 8, 8, 8, 8, 8, 8, 8, 8, 8, 8, 8, 8, 8, 8, 8, 8]⟩)) (.tmp 21))⟩,
      ⟨(some 23), none, .op (.conv .i64 (.tmp 22))⟩,
      ⟨(some 24), none, .op (.bin .add (.tmp 19) (.tmp 23))⟩,
      ⟨(some 2), none, .op (.move (.tmp 24))⟩])
    .ret)))))
def XR102 : List RV := [.tmp 2]
theorem Xis102 : Is Tryz.prog (fun _ _ => false) 102 25 XA102 XR102 := ⟨Tryz.f102, Tryz.func102, rfl, by kernel_rfl, by kernel_rfl, Tryz.call102⟩
def fi102 : FI := .code 25 XA102 XR102
theorem ok102 : FI.ok Tryz.prog 102 fi102 := ⟨_, Xis102⟩
def XA104l0 : ACode :=
  (.seq (.region [⟨(some 39), none, .op (.bin .lss (.tmp 38) (.tmp 37))⟩])
    (.seq (.cond (.tmp 39) .skip (.exit 0))
    (.seq (.block 1 (.seq (.region [⟨(some 40), none, .op (.idxA 3 (.tmp 36) (.tmp 38))⟩,
      ⟨(some 41), none, .op (.load 3 true (.tmp 40))⟩,
      ⟨(some 14), none, .op (.alloc [(.str []), (.int .i64 0), (.int .u64 0)])⟩,
      ⟨none, none, .op (.store 3 (.tmp 14) (.tmp 41))⟩])
    (.seq (.region [⟨(some 43), none, .op (.move (.tmp 1))⟩,
      ⟨(some 44), none, .op (.fieldA 0 (.tmp 14))⟩,
      ⟨(some 45), none, .op (.load 1 false (.tmp 44))⟩,
      ⟨(some 46), none, .call (.func 119) [(.tmp 43), (.tmp 45), (.func 120)]⟩,
      ⟨(some 42), none, .op (.move (.tmp 46))⟩,
      ⟨(some 47), none, .op (.ext (.tmp 42) 0)⟩,
      ⟨(some 48), none, .op (.ext (.tmp 42) 1)⟩,
      ⟨(some 15), none, .op (.move (.tmp 47))⟩,
      ⟨(some 16), none, .op (.move (.tmp 48))⟩])
    (.seq (.seq (.region [⟨(some 49), none, .op (.move (.tmp 16))⟩,
      ⟨(some 50), none, .op (.un .not (.tmp 49))⟩])
    (.cond (.tmp 50) (.seq (.region [⟨(some 6), none, .op (.move (.const (.int .u64 0)))⟩,
      ⟨(some 7), none, .op (.move (.const (.int .i64 16)))⟩])
    .ret) .skip))
    (.seq (.seq (.dregion [⟨0, ⟨(some 51), none, .op (.move (.tmp 1))⟩, []⟩,
      ⟨1, ⟨(some 52), none, .op (.move (.tmp 15))⟩, []⟩,
      ⟨2, ⟨(some 53), none, .op (.idxA 3 (.tmp 51) (.tmp 52))⟩, []⟩,
      ⟨3, ⟨(some 54), none, .op (.fieldA 1 (.tmp 53))⟩, []⟩,
      ⟨4, ⟨(some 55), none, .op (.load 1 false (.tmp 54))⟩, []⟩,
      ⟨5, ⟨(some 56), none, .op (.fieldA 1 (.tmp 14))⟩, []⟩,
      ⟨6, ⟨(some 57), none, .op (.load 1 false (.tmp 56))⟩, []⟩,
      ⟨7, ⟨(some 58), none, .op (.bin .neq (.tmp 55) (.tmp 57))⟩, []⟩])
    (.cond (.tmp 58) (.seq (.region [⟨(some 6), none, .op (.move (.const (.int .u64 0)))⟩,
      ⟨(some 7), none, .op (.move (.const (.int .i64 14)))⟩])
    .ret) .skip))
    (.dregion [⟨0, ⟨(some 59), none, .op (.move (.tmp 12))⟩, []⟩,
      ⟨1, ⟨(some 60), none, .op (.fieldA 0 (.tmp 14))⟩, []⟩,
      ⟨2, ⟨(some 61), none, .op (.load 1 false (.tmp 60))⟩, []⟩,
      ⟨3, ⟨(some 62), none, .op (.move (.tmp 1))⟩, []⟩,
      ⟨4, ⟨(some 63), none, .op (.move (.tmp 15))⟩, []⟩,
      ⟨5, ⟨(some 64), none, .op (.idxA 3 (.tmp 62) (.tmp 63))⟩, []⟩,
      ⟨6, ⟨(some 65), none, .op (.fieldA 2 (.tmp 64))⟩, []⟩,
      ⟨7, ⟨(some 66), none, .op (.load 1 false (.tmp 65))⟩, []⟩,
      ⟨8, ⟨none, none, .op (.m (.set .str (.tmp 59) (.tmp 61) (.tmp 66)))⟩, []⟩]))))))
    (.region [⟨(some 67), none, .op (.bin .add (.tmp 38) (.const (.int .i64 1)))⟩,
      ⟨(some 38), none, .op (.move (.tmp 67))⟩]))))
def XA104 : ACode :=
  (.seq (.region [⟨(some 3), none, .op (.box (.tmp 0))⟩,
      ⟨(some 6), none, .op (.move (.const (.int .u64 0)))⟩,
      ⟨(some 7), none, .op (.move (.const (.int .i64 0)))⟩])
    (.seq (.region [⟨(some 18), none, .op (.load 6 true (.tmp 3))⟩,
      ⟨(some 19), none, .call (.func 117) [(.tmp 18)]⟩,
      ⟨(some 17), none, .op (.move (.tmp 19))⟩,
      ⟨(some 20), none, .op (.ext (.tmp 17) 0)⟩,
      ⟨(some 21), none, .op (.ext (.tmp 17) 1)⟩,
      ⟨(some 8), none, .op (.move (.tmp 20))⟩,
      ⟨(some 9), none, .op (.move (.tmp 21))⟩])
    (.seq (.seq (.region [⟨(some 22), none, .op (.move (.tmp 9))⟩,
      ⟨(some 23), none, .op (.bin .neq (.tmp 22) (.const (.int .i64 0)))⟩])
    (.cond (.tmp 23) (.seq (.region [⟨(some 24), none, .op (.move (.tmp 9))⟩,
      ⟨(some 6), none, .op (.move (.const (.int .u64 0)))⟩,
      ⟨(some 7), none, .op (.move (.tmp 24))⟩])
    .ret) .skip))
    (.seq (.seq (.region [⟨(some 25), none, .op (.move (.tmp 1))⟩,
      ⟨(some 26), none, .call (.func 118) [(.tmp 25)]⟩,
      ⟨(some 10), none, .op (.move (.tmp 26))⟩])
    (.seq (.region [⟨(some 27), none, .op (.move (.tmp 10))⟩,
      ⟨(some 28), none, .op (.bin .neq (.tmp 27) (.const (.int .i64 0)))⟩])
    (.cond (.tmp 28) (.seq (.region [⟨(some 29), none, .op (.move (.tmp 10))⟩,
      ⟨(some 6), none, .op (.move (.const (.int .u64 0)))⟩,
      ⟨(some 7), none, .op (.move (.tmp 29))⟩])
    .ret) .skip)))
    (.seq (.seq (.region [⟨(some 30), none, .op (.move (.tmp 2))⟩,
      ⟨(some 31), none, .call (.func 55) [(.tmp 30)]⟩,
      ⟨(some 11), none, .op (.move (.tmp 31))⟩])
    (.seq (.region [⟨(some 32), none, .op (.move (.tmp 11))⟩,
      ⟨(some 33), none, .op (.bin .neq (.tmp 32) (.const (.int .i64 0)))⟩])
    (.cond (.tmp 33) (.seq (.region [⟨(some 34), none, .op (.move (.tmp 11))⟩,
      ⟨(some 6), none, .op (.move (.const (.int .u64 0)))⟩,
      ⟨(some 7), none, .op (.move (.tmp 34))⟩])
    .ret) .skip)))
    (.seq (.region [⟨(some 35), none, .op (.m .mk)⟩,
      ⟨(some 12), none, .op (.move (.tmp 35))⟩])
    (.seq (.seq (.region [⟨(some 36), none, .op (.move (.tmp 8))⟩,
      ⟨(some 37), none, .op (.len (.tmp 36))⟩,
      ⟨(some 38), none, .op (.move (.const (.int .i64 0)))⟩])
    (.block 0 (.loop XA104l0)))
    (.seq (.region [⟨(some 68), none, .op (.load 6 true (.tmp 3))⟩,
      ⟨(some 69), none, .op (.move (.tmp 12))⟩,
      ⟨(some 70), none, .op (.move (.tmp 2))⟩,
      ⟨(some 71), none, .call (.func 121) [(.tmp 68), (.tmp 69), (.tmp 70)]⟩,
      ⟨(some 6), none, .op (.move (.tmp 71))⟩,
      ⟨(some 7), none, .op (.move (.const (.int .i64 0)))⟩])
    .ret))))))))
def XR104 : List RV := [.tmp 6, .tmp 7]
theorem Xis104 : Is Tryz.prog (fun _ _ => false) 104 72 XA104 XR104 := ⟨Tryz.f104, Tryz.func104, rfl, by kernel_rfl, by kernel_rfl, Tryz.call104⟩
def fi104 : FI := .code 72 XA104 XR104
theorem ok104 : FI.ok Tryz.prog 104 fi104 := ⟨_, Xis104⟩
def XA105a0 : ACode :=
  .skip
def XA105b0 : ACode :=
  (.block 1 (.region [⟨(some 7), none, .op (.load 1 false (.tmp 3))⟩,
      ⟨(some 8), none, .op (.bin .add (.tmp 7) (.const (.int .i64 1)))⟩,
      ⟨none, none, .op (.store 1 (.tmp 3) (.tmp 8))⟩]))
def XA105 : ACode :=
  (.seq (.region [⟨(some 1), none, .op (.box (.tmp 0))⟩,
      ⟨(some 2), none, .op (.move (.const (.int .i64 0)))⟩])
    (.seq (.region [⟨(some 3), none, .op (.alloc [(.int .i64 0)])⟩,
      ⟨none, none, .op (.store 1 (.tmp 3) (.const (.int .i64 0)))⟩])
    (.seq (.seq (.region [⟨(some 4), none, .op (.load 6 true (.tmp 1))⟩,
      ⟨(some 5), none, .call (.func 107) [(.tmp 4)]⟩])
    (.block 0 (.rangeF (.tmp 5) #[6] XA105a0 XA105b0)))
    (.seq (.region [⟨(some 9), none, .op (.load 1 false (.tmp 3))⟩,
      ⟨(some 2), none, .op (.move (.tmp 9))⟩])
    .ret))))
def XR105 : List RV := [.tmp 2]
theorem Xis105 : Is Tryz.prog (fun _ _ => false) 105 10 XA105 XR105 := ⟨Tryz.f105, Tryz.func105, rfl, by kernel_rfl, by kernel_rfl, Tryz.call105⟩
def fi105 : FI := .code 10 XA105 XR105
theorem ok105 : FI.ok Tryz.prog 105 fi105 := ⟨_, Xis105⟩
def XA106l0 : ACode :=
  (.seq (.region [⟨(some 10), none, .op (.bin .lss (.tmp 9) (.tmp 8))⟩])
    (.seq (.cond (.tmp 10) .skip (.exit 0))
    (.seq (.block 1 (.seq (.region [⟨(some 11), none, .op (.idxA 6 (.tmp 7) (.tmp 9))⟩,
      ⟨(some 12), none, .op (.load 6 true (.tmp 11))⟩,
      ⟨(some 5), none, .op (.alloc [(.int .u8 0), (.int .i64 0), (.int .u64 0), (.str []), (.int .i64 0), .nilS])⟩,
      ⟨none, none, .op (.store 6 (.tmp 5) (.tmp 12))⟩])
    (.region [⟨(some 13), none, .op (.move (.tmp 3))⟩,
      ⟨(some 14), none, .op (.load 6 true (.tmp 5))⟩,
      ⟨(some 15), none, .call (.func 106) [(.tmp 14)]⟩,
      ⟨(some 16), none, .op (.mx (.tmp 13) (.tmp 15))⟩,
      ⟨(some 3), none, .op (.move (.tmp 16))⟩])))
    (.region [⟨(some 17), none, .op (.bin .add (.tmp 9) (.const (.int .i64 1)))⟩,
      ⟨(some 9), none, .op (.move (.tmp 17))⟩]))))
def XA106 : ACode :=
  (.seq (.region [⟨(some 1), none, .op (.box (.tmp 0))⟩,
      ⟨(some 2), none, .op (.move (.const (.int .i64 0)))⟩])
    (.seq (.region [⟨(some 3), none, .op (.move (.const (.int .i64 0)))⟩])
    (.seq (.seq (.region [⟨(some 6), none, .op (.fieldA 5 (.tmp 1))⟩,
      ⟨(some 7), none, .op (.load 1 false (.tmp 6))⟩,
      ⟨(some 8), none, .op (.len (.tmp 7))⟩,
      ⟨(some 9), none, .op (.move (.const (.int .i64 0)))⟩])
    (.block 0 (.loop XA106l0)))
    (.seq (.region [⟨(some 18), none, .op (.move (.tmp 3))⟩,
      ⟨(some 19), none, .op (.bin .add (.tmp 18) (.const (.int .i64 1)))⟩,
      ⟨(some 2), none, .op (.move (.tmp 19))⟩])
    .ret))))
def XR106 : List RV := [.tmp 2]
theorem Xis106 : Is Tryz.prog (fun _ _ => false) 106 20 XA106 XR106 := ⟨Tryz.f106, Tryz.func106, rfl, by kernel_rfl, by kernel_rfl, Tryz.call106⟩
def fi106 : FI := .code 20 XA106 XR106
theorem ok106 : FI.ok Tryz.prog 106 fi106 := ⟨_, Xis106⟩
def XA107 : ACode :=
  (.seq (.region [⟨(some 1), none, .op (.box (.tmp 0))⟩,
      ⟨(some 2), none, .op (.move (.const .nilFunc))⟩])
    (.seq (.region [⟨(some 3), none, .op (.mkfn (.func 122) [(.tmp 1)])⟩,
      ⟨(some 2), none, .op (.move (.tmp 3))⟩])
    .ret))
def XR107 : List RV := [.tmp 2]
theorem Xis107 : Is Tryz.prog (fun _ _ => false) 107 4 XA107 XR107 := ⟨Tryz.f107, Tryz.func107, rfl, by kernel_rfl, by kernel_rfl, Tryz.call107⟩
def fi107 : FI := .code 4 XA107 XR107
theorem ok107 : FI.ok Tryz.prog 107 fi107 := ⟨_, Xis107⟩
def XA108 : ACode :=
  (.seq (.region [⟨(some 1), none, .op (.box (.tmp 0))⟩,
      ⟨(some 2), none, .op (.move (.const (.bool false)))⟩])
    (.seq (.seq (.region [⟨(some 6), none, .op (.fieldA 1 (.tmp 1))⟩,
      ⟨(some 7), none, .op (.load 1 false (.tmp 6))⟩,
      ⟨(some 8), none, .call (.func 124) [(.tmp 7)]⟩,
      ⟨(some 9), none, .op (.un .not (.tmp 8))⟩])
    (.cond (.tmp 9) (.seq (.region [⟨(some 2), none, .op (.move (.const (.bool false)))⟩])
    .ret) .skip))
    (.seq (.region [⟨(some 11), none, .op (.fieldA 0 (.tmp 1))⟩,
      ⟨(some 12), none, .op (.load 1 false (.tmp 11))⟩,
      ⟨(some 13), none, .call (.func 125) [(.tmp 12)]⟩,
      ⟨(some 10), none, .op (.move (.tmp 13))⟩,
      ⟨(some 14), none, .op (.ext (.tmp 10) 0)⟩,
      ⟨(some 15), none, .op (.ext (.tmp 10) 1)⟩,
      ⟨(some 3), none, .op (.alloc [(.str []), (.int .i64 0), (.int .i64 0)])⟩,
      ⟨none, none, .op (.store 3 (.tmp 3) (.tmp 14))⟩,
      ⟨(some 4), none, .op (.move (.tmp 15))⟩])
    (.seq (.seq (.region [⟨(some 16), none, .op (.move (.tmp 4))⟩,
      ⟨(some 17), none, .op (.un .not (.tmp 16))⟩])
    (.cond (.tmp 17) (.seq (.region [⟨(some 18), none, .op (.fieldA 5 (.tmp 1))⟩,
      ⟨(some 19), none, .op (.load 1 false (.tmp 18))⟩,
      ⟨(some 20), none, .op (.len (.tmp 19))⟩,
      ⟨(some 21), none, .op (.bin .eql (.tmp 20) (.const (.int .i64 0)))⟩,
      ⟨(some 22), none, .op (.move (.tmp 21))⟩,
      ⟨(some 23), (some (22, true)), .op (.fieldA 4 (.tmp 1))⟩,
      ⟨(some 24), (some (22, true)), .op (.load 1 false (.tmp 23))⟩,
      ⟨(some 25), (some (22, true)), .op (.bin .eql (.tmp 24) (.const (.int .i64 0)))⟩,
      ⟨(some 26), none, .op (.pick (.tmp 22) (.tmp 25) (.const (.bool false)))⟩,
      ⟨(some 5), none, .op (.move (.tmp 26))⟩])
    (.seq (.region [⟨(some 27), none, .op (.move (.tmp 5))⟩,
      ⟨(some 28), none, .op (.move (.tmp 27))⟩,
      ⟨(some 29), (some (28, true)), .op (.fieldA 0 (.tmp 1))⟩,
      ⟨(some 30), (some (28, true)), .op (.load 1 false (.tmp 29))⟩,
      ⟨(some 31), (some (28, true)), .op (.bin .eql (.tmp 30) (.const (.int .u8 1)))⟩,
      ⟨(some 32), (some (28, true)), .op (.move (.tmp 31))⟩,
      ⟨(some 33), (some (32, true)), .op (.fieldA 3 (.tmp 1))⟩,
      ⟨(some 34), (some (32, true)), .op (.load 1 false (.tmp 33))⟩,
      ⟨(some 35), (some (32, true)), .op (.bin .eql (.tmp 34) (.const (.string ⟨#[]⟩)))⟩,
      ⟨(some 36), (some (28, true)), .op (.pick (.tmp 32) (.tmp 35) (.const (.bool false)))⟩,
      ⟨(some 37), (some (28, true)), .op (.move (.tmp 36))⟩,
      ⟨(some 38), (some (37, true)), .op (.fieldA 1 (.tmp 1))⟩,
      ⟨(some 39), (some (37, true)), .op (.load 1 false (.tmp 38))⟩,
      ⟨(some 40), (some (37, true)), .op (.fieldA 2 (.tmp 1))⟩,
      ⟨(some 41), (some (37, true)), .op (.load 1 false (.tmp 40))⟩,
      ⟨(some 42), (some (37, true)), .call (.func 126) [(.tmp 39), (.tmp 41)]⟩,
      ⟨(some 43), (some (28, true)), .op (.pick (.tmp 37) (.tmp 42) (.const (.bool false)))⟩,
      ⟨(some 44), (some (28, true)), .op (.move (.tmp 43))⟩,
      ⟨(some 45), (some (44, false)), .op (.fieldA 0 (.tmp 1))⟩,
      ⟨(some 46), (some (44, false)), .op (.load 1 false (.tmp 45))⟩,
      ⟨(some 47), (some (44, false)), .op (.bin .eql (.tmp 46) (.const (.int .u8 2)))⟩,
      ⟨(some 48), (some (44, false)), .op (.move (.tmp 47))⟩,
      ⟨(some 49), (some (48, true)), .op (.fieldA 2 (.tmp 1))⟩,
      ⟨(some 50), (some (48, true)), .op (.load 1 false (.tmp 49))⟩,
      ⟨(some 51), (some (48, true)), .op (.bin .eql (.tmp 50) (.const (.int .u64 0)))⟩,
      ⟨(some 52), (some (44, false)), .op (.pick (.tmp 48) (.tmp 51) (.const (.bool false)))⟩,
      ⟨(some 53), (some (44, false)), .op (.move (.tmp 52))⟩,
      ⟨(some 54), (some (53, true)), .op (.fieldA 3 (.tmp 1))⟩,
      ⟨(some 55), (some (53, true)), .op (.load 1 false (.tmp 54))⟩,
      ⟨(some 56), (some (53, true)), .call (.func 127) [(.tmp 55)]⟩,
      ⟨(some 57), (some (44, false)), .op (.pick (.tmp 53) (.tmp 56) (.const (.bool false)))⟩,
      ⟨(some 58), (some (28, true)), .op (.pick (.tmp 44) (.const (.bool true)) (.tmp 57))⟩,
      ⟨(some 59), none, .op (.pick (.tmp 28) (.tmp 58) (.const (.bool false)))⟩,
      ⟨(some 2), none, .op (.move (.tmp 59))⟩])
    .ret)) .skip))
    (.seq (.region [⟨(some 60), none, .op (.fieldA 2 (.tmp 1))⟩,
      ⟨(some 61), none, .op (.load 1 false (.tmp 60))⟩,
      ⟨(some 62), none, .op (.bin .eql (.tmp 61) (.const (.int .u64 0)))⟩,
      ⟨(some 63), none, .op (.move (.tmp 62))⟩,
      ⟨(some 64), (some (63, true)), .op (.fieldA 3 (.tmp 1))⟩,
      ⟨(some 65), (some (63, true)), .op (.load 1 false (.tmp 64))⟩,
      ⟨(some 66), (some (63, true)), .op (.bin .eql (.tmp 65) (.const (.string ⟨#[]⟩)))⟩,
      ⟨(some 67), none, .op (.pick (.tmp 63) (.tmp 66) (.const (.bool false)))⟩,
      ⟨(some 68), none, .op (.move (.tmp 67))⟩,
      ⟨(some 69), (some (68, true)), .op (.fieldA 4 (.tmp 1))⟩,
      ⟨(some 70), (some (68, true)), .op (.load 1 false (.tmp 69))⟩,
      ⟨(some 71), (some (68, true)), .op (.bin .eql (.tmp 70) (.const (.int .i64 0)))⟩,
      ⟨(some 72), (some (68, true)), .op (.move (.tmp 71))⟩,
      ⟨(some 73), (some (72, false)), .op (.fieldA 2 (.tmp 3))⟩,
      ⟨(some 74), (some (72, false)), .op (.load 1 false (.tmp 73))⟩,
      ⟨(some 75), (some (72, false)), .op (.bin .eql (.tmp 74) (.const (.int .i64 5)))⟩,
      ⟨(some 76), (some (68, true)), .op (.pick (.tmp 72) (.const (.bool true)) (.tmp 75))⟩,
      ⟨(some 77), none, .op (.pick (.tmp 68) (.tmp 76) (.const (.bool false)))⟩,
      ⟨(some 78), none, .op (.move (.tmp 77))⟩,
      ⟨(some 79), (some (78, true)), .op (.fieldA 5 (.tmp 1))⟩,
      ⟨(some 80), (some (78, true)), .op (.load 1 false (.tmp 79))⟩,
      ⟨(some 81), (some (78, true)), .op (.len (.tmp 80))⟩,
      ⟨(some 82), (some (78, true)), .op (.fieldA 1 (.tmp 3))⟩,
      ⟨(some 83), (some (78, true)), .op (.load 1 false (.tmp 82))⟩,
      ⟨(some 84), (some (78, true)), .op (.bin .eql (.tmp 81) (.tmp 83))⟩,
      ⟨(some 85), none, .op (.pick (.tmp 78) (.tmp 84) (.const (.bool false)))⟩,
      ⟨(some 86), none, .op (.move (.tmp 85))⟩,
      ⟨(some 87), (some (86, true)), .op (.load 6 true (.tmp 1))⟩,
      ⟨(some 88), (some (86, true)), .op (.fieldA 2 (.tmp 3))⟩,
      ⟨(some 89), (some (86, true)), .op (.load 1 false (.tmp 88))⟩,
      ⟨(some 90), (some (86, true)), .call (.func 128) [(.tmp 87), (.tmp 89)]⟩,
      ⟨(some 91), none, .op (.pick (.tmp 86) (.tmp 90) (.const (.bool false)))⟩,
      ⟨(some 2), none, .op (.move (.tmp 91))⟩])
    .ret)))))
def XR108 : List RV := [.tmp 2]
theorem Xis108 : Is Tryz.prog (fun _ _ => false) 108 92 XA108 XR108 := ⟨Tryz.f108, Tryz.func108, rfl, by kernel_rfl, by kernel_rfl, Tryz.call108⟩
def fi108 : FI := .code 92 XA108 XR108
theorem ok108 : FI.ok Tryz.prog 108 fi108 := ⟨_, Xis108⟩
def XA109a0 : ACode :=
  (.region [⟨(some 5), none, .op (.alloc [(.int .u8 0), (.int .i64 0), (.int .u64 0), (.str []), (.int .i64 0), .nilS])⟩,
      ⟨none, none, .op (.store 6 (.tmp 5) (.tmp 11))⟩])
def XA109b0 : ACode :=
  (.block 1 (.seq (.seq (.region [⟨(some 12), none, .op (.fieldA 0 (.tmp 5))⟩,
      ⟨(some 13), none, .op (.load 1 false (.tmp 12))⟩,
      ⟨(some 14), none, .op (.bin .neq (.tmp 13) (.const (.int .u8 2)))⟩])
    (.cond (.tmp 14) (.exit 1) .skip))
    (.seq (.seq (.region [⟨(some 16), none, .op (.load 1 false (.tmp 4))⟩,
      ⟨(some 17), none, .op (.fieldA 3 (.tmp 5))⟩,
      ⟨(some 18), none, .op (.load 1 false (.tmp 17))⟩,
      ⟨(some 19), none, .op (.m (.look .str (.int .i64 0) true (.tmp 16) (.tmp 18)))⟩,
      ⟨(some 15), none, .op (.move (.tmp 19))⟩,
      ⟨(some 20), none, .op (.ext (.tmp 15) 0)⟩,
      ⟨(some 21), none, .op (.ext (.tmp 15) 1)⟩,
      ⟨(some 6), none, .op (.move (.tmp 20))⟩,
      ⟨(some 7), none, .op (.move (.tmp 21))⟩])
    (.seq (.region [⟨(some 22), none, .op (.move (.tmp 7))⟩,
      ⟨(some 23), none, .op (.move (.tmp 22))⟩,
      ⟨(some 24), (some (23, true)), .op (.move (.tmp 6))⟩,
      ⟨(some 25), (some (23, true)), .op (.fieldA 1 (.tmp 5))⟩,
      ⟨(some 26), (some (23, true)), .op (.load 1 false (.tmp 25))⟩,
      ⟨(some 27), (some (23, true)), .op (.bin .neq (.tmp 24) (.tmp 26))⟩,
      ⟨(some 28), none, .op (.pick (.tmp 23) (.tmp 27) (.const (.bool false)))⟩])
    (.cond (.tmp 28) (.seq (.region [⟨none, none, .op (.store 1 (.tmp 2) (.const (.map none)))⟩,
      ⟨none, none, .op (.store 1 (.tmp 3) (.const (.bool false)))⟩])
    .ret) .skip)))
    (.region [⟨(some 29), none, .op (.load 1 false (.tmp 4))⟩,
      ⟨(some 30), none, .op (.fieldA 3 (.tmp 5))⟩,
      ⟨(some 31), none, .op (.load 1 false (.tmp 30))⟩,
      ⟨(some 32), none, .op (.fieldA 1 (.tmp 5))⟩,
      ⟨(some 33), none, .op (.load 1 false (.tmp 32))⟩,
      ⟨none, none, .op (.m (.set .str (.tmp 29) (.tmp 31) (.tmp 33)))⟩]))))
def XA109 : ACode :=
  (.seq (.region [⟨(some 1), none, .op (.box (.tmp 0))⟩,
      ⟨(some 2), none, .op (.alloc [.nilM])⟩,
      ⟨(some 3), none, .op (.alloc [(.bool false)])⟩])
    (.seq (.region [⟨(some 8), none, .op (.m .mk)⟩,
      ⟨(some 4), none, .op (.alloc [.nilM])⟩,
      ⟨none, none, .op (.store 1 (.tmp 4) (.tmp 8))⟩])
    (.seq (.seq (.region [⟨(some 9), none, .op (.load 6 true (.tmp 1))⟩,
      ⟨(some 10), none, .call (.func 107) [(.tmp 9)]⟩])
    (.block 0 (.rangeF (.tmp 10) #[11] XA109a0 XA109b0)))
    (.seq (.region [⟨(some 34), none, .op (.load 1 false (.tmp 4))⟩,
      ⟨none, none, .op (.store 1 (.tmp 2) (.tmp 34))⟩,
      ⟨none, none, .op (.store 1 (.tmp 3) (.const (.bool true)))⟩])
    .ret))))
def XR109 : List RV := [.cell 2 1 false, .cell 3 1 false]
theorem Xis109 : Is Tryz.prog (fun _ _ => false) 109 35 XA109 XR109 := ⟨Tryz.f109, Tryz.func109, rfl, by kernel_rfl, by kernel_rfl, Tryz.call109⟩
def fi109 : FI := .code 35 XA109 XR109
theorem ok109 : FI.ok Tryz.prog 109 fi109 := ⟨_, Xis109⟩
def XA110 : ACode :=
  (.seq (.region [⟨(some 2), none, .op (.box (.tmp 0))⟩])
    (.seq (.region [⟨(some 3), none, .op (.alloc [.nilF])⟩])
    (.seq (.region [⟨(some 4), none, .op (.mkfn (.func 111) [(.tmp 2), (.tmp 3)])⟩,
      ⟨none, none, .op (.store 1 (.tmp 3) (.tmp 4))⟩])
    (.region [⟨(some 5), none, .op (.load 1 false (.tmp 3))⟩,
      ⟨(some 6), none, .op (.load 6 true (.tmp 1))⟩,
      ⟨(some 7), none, .call (.tmp 5) [(.tmp 6)]⟩]))))
def XR110 : List RV := []
theorem Xis110 : Is Tryz.prog (fun _ _ => false) 110 8 XA110 XR110 := ⟨Tryz.f110, Tryz.func110, rfl, by kernel_rfl, by kernel_rfl, Tryz.call110⟩
def fi110 : FI := .code 8 XA110 XR110
theorem ok110 : FI.ok Tryz.prog 110 fi110 := ⟨_, Xis110⟩
def XA111l0 : ACode :=
  (.seq (.region [⟨(some 15), none, .op (.bin .lss (.tmp 14) (.tmp 13))⟩])
    (.seq (.cond (.tmp 15) .skip (.exit 0))
    (.seq (.block 1 (.seq (.region [⟨(some 16), none, .op (.idxA 6 (.tmp 12) (.tmp 14))⟩,
      ⟨(some 17), none, .op (.load 6 true (.tmp 16))⟩,
      ⟨(some 6), none, .op (.alloc [(.int .u8 0), (.int .i64 0), (.int .u64 0), (.str []), (.int .i64 0), .nilS])⟩,
      ⟨none, none, .op (.store 6 (.tmp 6) (.tmp 17))⟩])
    (.seq (.region [⟨(some 18), none, .op (.load 1 false (.tmp 2))⟩,
      ⟨(some 19), none, .op (.load 6 true (.tmp 6))⟩,
      ⟨(some 20), none, .call (.tmp 18) [(.tmp 19)]⟩,
      ⟨(some 21), none, .op (.un .not (.tmp 20))⟩])
    (.cond (.tmp 21) (.seq (.region [⟨(some 4), none, .op (.move (.const (.bool false)))⟩])
    .ret) .skip))))
    (.region [⟨(some 22), none, .op (.bin .add (.tmp 14) (.const (.int .i64 1)))⟩,
      ⟨(some 14), none, .op (.move (.tmp 22))⟩]))))
def XA111 : ACode :=
  (.seq (.region [⟨(some 3), none, .op (.box (.tmp 0))⟩,
      ⟨(some 4), none, .op (.move (.const (.bool false)))⟩])
    (.seq (.seq (.region [⟨(some 7), none, .op (.load 1 false (.tmp 1))⟩,
      ⟨(some 8), none, .op (.load 6 true (.tmp 3))⟩,
      ⟨(some 9), none, .call (.tmp 7) [(.tmp 8)]⟩,
      ⟨(some 10), none, .op (.un .not (.tmp 9))⟩])
    (.cond (.tmp 10) (.seq (.region [⟨(some 4), none, .op (.move (.const (.bool false)))⟩])
    .ret) .skip))
    (.seq (.seq (.region [⟨(some 11), none, .op (.fieldA 5 (.tmp 3))⟩,
      ⟨(some 12), none, .op (.load 1 false (.tmp 11))⟩,
      ⟨(some 13), none, .op (.len (.tmp 12))⟩,
      ⟨(some 14), none, .op (.move (.const (.int .i64 0)))⟩])
    (.block 0 (.loop XA111l0)))
    (.seq (.region [⟨(some 4), none, .op (.move (.const (.bool true)))⟩])
    .ret))))
def XR111 : List RV := [.tmp 4]
theorem Xis111 : Is Tryz.prog (fun _ _ => false) 111 23 XA111 XR111 := ⟨Tryz.f111, Tryz.func111, rfl, by kernel_rfl, by kernel_rfl, Tryz.call111⟩
def fi111 : FI := .code 23 XA111 XR111
theorem ok111 : FI.ok Tryz.prog 111 fi111 := ⟨_, Xis111⟩
def XA117l0 : ACode :=
  (.seq (.region [⟨(some 22), none, .call (.tmp 21) [(.const (.tuple #[]))]⟩,
      ⟨(some 23), none, .op (.ext (.tmp 22) 0)⟩])
    (.seq (.cond (.tmp 23) .skip (.exit 0))
    (.block 1 (.seq (.region [⟨(some 24), none, .op (.m (.ent (.tmp 21)))⟩,
      ⟨(some 25), none, .op (.ext (.tmp 24) 0)⟩,
      ⟨(some 26), none, .op (.ext (.tmp 24) 1)⟩,
      ⟨(some 8), none, .op (.move (.tmp 25))⟩,
      ⟨(some 9), none, .op (.move (.tmp 26))⟩])
    (.region [⟨(some 27), none, .op (.move (.tmp 7))⟩,
      ⟨(some 28), none, .op (.move (.tmp 8))⟩,
      ⟨(some 29), none, .op (.move (.tmp 9))⟩,
      ⟨(some 30), none, .op (.build [(.str []), (.int .i64 0), (.int .u64 0)] [(0, 1, (.tmp 28)), (1, 1, (.tmp 29))])⟩,
      ⟨(some 31), none, .op (.buildF [(.str []), (.int .i64 0), (.int .u64 0)] 1 [(0, (.tmp 30))])⟩,
      ⟨(some 32), none, .op (.app 135 3 32 (.tmp 27) (.tmp 31))⟩,
      ⟨(some 7), none, .op (.move (.tmp 32))⟩])))))
def XA117 : ACode :=
  (.seq (.region [⟨(some 1), none, .op (.box (.tmp 0))⟩,
      ⟨(some 2), none, .op (.move (.const (.slice none 0 0)))⟩,
      ⟨(some 3), none, .op (.move (.const (.int .i64 0)))⟩])
    (.seq (.seq (.region [⟨(some 10), none, .op (.load 6 true (.tmp 1))⟩,
      ⟨(some 11), none, .call (.func 90) [(.tmp 10)]⟩,
      ⟨(some 4), none, .op (.move (.tmp 11))⟩])
    (.seq (.region [⟨(some 12), none, .op (.move (.tmp 4))⟩,
      ⟨(some 13), none, .op (.bin .neq (.tmp 12) (.const (.int .i64 0)))⟩])
    (.cond (.tmp 13) (.seq (.region [⟨(some 14), none, .op (.move (.tmp 4))⟩,
      ⟨(some 2), none, .op (.move (.const (.slice none 0 0)))⟩,
      ⟨(some 3), none, .op (.move (.tmp 14))⟩])
    .ret) .skip)))
    (.seq (.region [⟨(some 16), none, .op (.load 6 true (.tmp 1))⟩,
      ⟨(some 17), none, .call (.func 109) [(.tmp 16)]⟩,
      ⟨(some 15), none, .op (.move (.tmp 17))⟩,
      ⟨(some 18), none, .op (.ext (.tmp 15) 0)⟩,
      ⟨(some 19), none, .op (.ext (.tmp 15) 1)⟩,
      ⟨(some 5), none, .op (.move (.tmp 18))⟩,
      ⟨(some 6), none, .op (.move (.tmp 19))⟩])
    (.seq (.region [⟨(some 7), none, .op (.move (.const (.slice none 0 0)))⟩])
    (.seq (.seq (.region [⟨(some 20), none, .op (.move (.tmp 5))⟩,
      ⟨(some 21), none, .op (.m (.rng (.tmp 20)))⟩])
    (.block 0 (.loop XA117l0)))
    (.seq (.region [⟨(some 33), none, .op (.move (.tmp 7))⟩,
      ⟨(some 34), none, .call (.func 68) [(.tmp 33), (.func 130)]⟩])
    (.seq (.region [⟨(some 35), none, .op (.move (.tmp 7))⟩,
      ⟨(some 2), none, .op (.move (.tmp 35))⟩,
      ⟨(some 3), none, .op (.move (.const (.int .i64 0)))⟩])
    .ret)))))))
def XR117 : List RV := [.tmp 2, .tmp 3]
theorem Xis117 : Is Tryz.prog (fun _ _ => false) 117 36 XA117 XR117 := ⟨Tryz.f117, Tryz.func117, rfl, by kernel_rfl, by kernel_rfl, Tryz.call117⟩
def fi117 : FI := .code 36 XA117 XR117
theorem ok117 : FI.ok Tryz.prog 117 fi117 := ⟨_, Xis117⟩
def XA118l0 : ACode :=
  (.seq (.region [⟨(some 11), none, .op (.bin .lss (.tmp 10) (.tmp 9))⟩])
    (.seq (.cond (.tmp 11) .skip (.exit 0))
    (.seq (.block 1 (.seq (.region [⟨(some 12), none, .op (.move (.tmp 10))⟩,
      ⟨(some 13), none, .op (.idxA 3 (.tmp 8) (.tmp 10))⟩,
      ⟨(some 14), none, .op (.load 3 true (.tmp 13))⟩,
      ⟨(some 4), none, .op (.alloc [(.str []), (.int .i64 0), (.int .u64 0)])⟩,
      ⟨(some 3), none, .op (.move (.tmp 12))⟩,
      ⟨none, none, .op (.store 3 (.tmp 4) (.tmp 14))⟩])
    (.seq (.dregion [⟨0, ⟨(some 15), none, .op (.fieldA 0 (.tmp 4))⟩, []⟩,
      ⟨1, ⟨(some 16), none, .op (.load 1 false (.tmp 15))⟩, []⟩,
      ⟨2, ⟨(some 17), none, .call (.func 127) [(.tmp 16)]⟩, []⟩,
      ⟨3, ⟨(some 18), none, .op (.un .not (.tmp 17))⟩, []⟩,
      ⟨4, ⟨(some 19), none, .op (.move (.tmp 18))⟩, []⟩,
      ⟨5, ⟨(some 20), (some (19, false)), .op (.fieldA 1 (.tmp 4))⟩, []⟩,
      ⟨6, ⟨(some 21), (some (19, false)), .op (.load 1 false (.tmp 20))⟩, []⟩,
      ⟨7, ⟨(some 22), (some (19, false)), .op (.fieldA 2 (.tmp 4))⟩, []⟩,
      ⟨8, ⟨(some 23), (some (19, false)), .op (.load 1 false (.tmp 22))⟩, []⟩,
      ⟨9, ⟨(some 24), (some (19, false)), .call (.func 126) [(.tmp 21), (.tmp 23)]⟩, []⟩,
      ⟨10, ⟨(some 25), (some (19, false)), .op (.un .not (.tmp 24))⟩, []⟩,
      ⟨11, ⟨(some 26), none, .op (.pick (.tmp 19) (.const (.bool true)) (.tmp 25))⟩, []⟩,
      ⟨12, ⟨(some 27), none, .op (.move (.tmp 26))⟩, []⟩,
      ⟨13, ⟨(some 28), (some (27, false)), .op (.move (.tmp 3))⟩, []⟩,
      ⟨14, ⟨(some 29), (some (27, false)), .op (.bin .gtr (.tmp 28) (.const (.int .i64 0)))⟩, []⟩,
      ⟨15, ⟨(some 30), (some (27, false)), .op (.move (.tmp 29))⟩, []⟩,
      ⟨16, ⟨(some 31), (some (30, true)), .op (.move (.tmp 0))⟩, []⟩,
      ⟨17, ⟨(some 32), (some (30, true)), .op (.move (.tmp 3))⟩, []⟩,
      ⟨18, ⟨(some 33), (some (30, true)), .op (.bin .sub (.tmp 32) (.const (.int .i64 1)))⟩, []⟩,
      ⟨19, ⟨(some 34), (some (30, true)), .op (.idxA 3 (.tmp 31) (.tmp 33))⟩, []⟩,
      ⟨20, ⟨(some 35), (some (30, true)), .op (.fieldA 0 (.tmp 34))⟩, []⟩,
      ⟨21, ⟨(some 36), (some (30, true)), .op (.load 1 false (.tmp 35))⟩, []⟩,
      ⟨22, ⟨(some 37), (some (30, true)), .op (.fieldA 0 (.tmp 4))⟩, []⟩,
      ⟨23, ⟨(some 38), (some (30, true)), .op (.load 1 false (.tmp 37))⟩, []⟩,
      ⟨24, ⟨(some 39), (some (30, true)), .op (.bin .geq (.tmp 36) (.tmp 38))⟩, []⟩,
      ⟨25, ⟨(some 40), (some (27, false)), .op (.pick (.tmp 30) (.tmp 39) (.const (.bool false)))⟩, []⟩,
      ⟨26, ⟨(some 41), none, .op (.pick (.tmp 27) (.const (.bool true)) (.tmp 40))⟩, []⟩])
    (.cond (.tmp 41) (.seq (.region [⟨(some 2), none, .op (.move (.const (.int .i64 8)))⟩])
    .ret) .skip))))
    (.region [⟨(some 42), none, .op (.bin .add (.tmp 10) (.const (.int .i64 1)))⟩,
      ⟨(some 10), none, .op (.move (.tmp 42))⟩]))))
def XA118 : ACode :=
  (.seq (.region [⟨(some 2), none, .op (.move (.const (.int .i64 0)))⟩])
    (.seq (.seq (.region [⟨(some 5), none, .op (.move (.tmp 0))⟩,
      ⟨(some 6), none, .op (.len (.tmp 5))⟩,
      ⟨(some 7), none, .op (.bin .gtr (.tmp 6) (.const (.int .i64 1000)))⟩])
    (.cond (.tmp 7) (.seq (.region [⟨(some 2), none, .op (.move (.const (.int .i64 8)))⟩])
    .ret) .skip))
    (.seq (.seq (.region [⟨(some 8), none, .op (.move (.tmp 0))⟩,
      ⟨(some 9), none, .op (.len (.tmp 8))⟩,
      ⟨(some 10), none, .op (.move (.const (.int .i64 0)))⟩])
    (.block 0 (.loop XA118l0)))
    (.seq (.region [⟨(some 2), none, .op (.move (.const (.int .i64 0)))⟩])
    .ret))))
def XR118 : List RV := [.tmp 2]
theorem Xis118 : Is Tryz.prog (fun _ _ => false) 118 43 XA118 XR118 := ⟨Tryz.f118, Tryz.func118, rfl, by kernel_rfl, by kernel_rfl, Tryz.call118⟩
def fi118 : FI := .code 43 XA118 XR118
theorem ok118 : FI.ok Tryz.prog 118 fi118 := ⟨_, Xis118⟩
def XA121l0 : ACode :=
  (.seq (.region [⟨(some 28), none, .op (.bin .lss (.tmp 27) (.tmp 26))⟩])
    (.seq (.cond (.tmp 28) .skip (.exit 1))
    (.seq (.block 2 (.seq (.region [⟨(some 29), none, .op (.move (.tmp 27))⟩,
      ⟨(some 30), none, .op (.idxA 6 (.tmp 25) (.tmp 27))⟩,
      ⟨(some 31), none, .op (.load 6 true (.tmp 30))⟩,
      ⟨(some 9), none, .op (.alloc [(.int .u8 0), (.int .i64 0), (.int .u64 0), (.str []), (.int .i64 0), .nilS])⟩,
      ⟨(some 8), none, .op (.move (.tmp 29))⟩,
      ⟨none, none, .op (.store 6 (.tmp 9) (.tmp 31))⟩])
    (.region [⟨(some 32), none, .op (.move (.tmp 8))⟩,
      ⟨(some 33), none, .op (.load 6 true (.tmp 9))⟩,
      ⟨(some 34), none, .op (.move (.tmp 1))⟩,
      ⟨(some 35), none, .op (.move (.tmp 2))⟩,
      ⟨(some 36), none, .call (.func 121) [(.tmp 33), (.tmp 34), (.tmp 35)]⟩,
      ⟨(some 37), none, .op (.idxR 3 1 (.tmp 7) (.tmp 32))⟩,
      ⟨none, none, .op (.store 1 (.tmp 37) (.tmp 36))⟩])))
    (.region [⟨(some 38), none, .op (.bin .add (.tmp 27) (.const (.int .i64 1)))⟩,
      ⟨(some 27), none, .op (.move (.tmp 38))⟩]))))
def XA121 : ACode :=
  (.seq (.region [⟨(some 3), none, .op (.box (.tmp 0))⟩,
      ⟨(some 6), none, .op (.move (.const (.int .u64 0)))⟩])
    (.seq (.seq (.region [⟨(some 12), none, .op (.fieldA 0 (.tmp 3))⟩,
      ⟨(some 13), none, .op (.load 1 false (.tmp 12))⟩])
    (.block 0 (.seq (.region [⟨(some 15), none, .op (.bin .eql (.tmp 13) (.const (.int .u8 1)))⟩,
      ⟨(some 14), none, .op (.move (.tmp 15))⟩])
    (.cond (.tmp 14) (.seq (.region [⟨(some 16), none, .op (.fieldA 2 (.tmp 3))⟩,
      ⟨(some 17), none, .op (.load 1 false (.tmp 16))⟩,
      ⟨(some 6), none, .op (.move (.tmp 17))⟩])
    .ret) (.seq (.region [⟨(some 19), none, .op (.bin .eql (.tmp 13) (.const (.int .u8 2)))⟩,
      ⟨(some 18), none, .op (.move (.tmp 19))⟩])
    (.cond (.tmp 18) (.seq (.region [⟨(some 20), none, .op (.move (.tmp 1))⟩,
      ⟨(some 21), none, .op (.fieldA 3 (.tmp 3))⟩,
      ⟨(some 22), none, .op (.load 1 false (.tmp 21))⟩,
      ⟨(some 23), none, .op (.m (.look .str (.int .u64 0) false (.tmp 20) (.tmp 22)))⟩,
      ⟨(some 6), none, .op (.move (.tmp 23))⟩])
    .ret) .skip))))))
    (.seq (.region [⟨(some 7), none, .op (.alloc [(.int .u64 0), (.int .u64 0), (.int .u64 0)])⟩])
    (.seq (.seq (.region [⟨(some 24), none, .op (.fieldA 5 (.tmp 3))⟩,
      ⟨(some 25), none, .op (.load 1 false (.tmp 24))⟩,
      ⟨(some 26), none, .op (.len (.tmp 25))⟩,
      ⟨(some 27), none, .op (.move (.const (.int .i64 0)))⟩])
    (.block 1 (.loop XA121l0)))
    (.seq (.region [⟨(some 10), none, .op (.move (.const (.int .u64 0)))⟩])
    (.seq (.seq (.region [⟨(some 39), none, .op (.fieldA 5 (.tmp 3))⟩,
      ⟨(some 40), none, .op (.load 1 false (.tmp 39))⟩,
      ⟨(some 41), none, .op (.idxA 6 (.tmp 40) (.const (.int .i64 0)))⟩,
      ⟨(some 42), none, .op (.fieldA 1 (.tmp 41))⟩,
      ⟨(some 43), none, .op (.load 1 false (.tmp 42))⟩,
      ⟨(some 11), none, .op (.move (.tmp 43))⟩])
    (.seq (.region [⟨(some 44), none, .op (.fieldA 0 (.tmp 3))⟩,
      ⟨(some 45), none, .op (.load 1 false (.tmp 44))⟩])
    (.block 3 (.seq (.seq (.region [⟨(some 58), none, .op (.bin .eql (.tmp 45) (.const (.int .u8 3)))⟩,
      ⟨(some 57), none, .op (.move (.tmp 58))⟩])
    (.cond (.tmp 57) .skip (.region [⟨(some 59), none, .op (.bin .eql (.tmp 45) (.const (.int .u8 4)))⟩,
      ⟨(some 57), none, .op (.move (.tmp 59))⟩])))
    (.cond (.tmp 57) (.region [⟨(some 61), none, .op (.fieldA 0 (.tmp 3))⟩,
      ⟨(some 62), none, .op (.load 1 false (.tmp 61))⟩,
      ⟨(some 63), none, .op (.move (.tmp 11))⟩,
      ⟨(some 64), none, .op (.idxR 3 1 (.tmp 7) (.const (.int .i64 0)))⟩,
      ⟨(some 65), none, .op (.load 1 false (.tmp 64))⟩,
      ⟨(some 66), none, .call (.func 131) [(.tmp 62), (.tmp 63), (.tmp 65)]⟩,
      ⟨(some 60), none, .op (.move (.tmp 66))⟩,
      ⟨(some 67), none, .op (.ext (.tmp 60) 0)⟩,
      ⟨(some 68), none, .op (.ext (.tmp 60) 1)⟩,
      ⟨(some 10), none, .op (.move (.tmp 67))⟩]) (.seq (.region [⟨(some 70), none, .op (.bin .eql (.tmp 45) (.const (.int .u8 19)))⟩,
      ⟨(some 69), none, .op (.move (.tmp 70))⟩])
    (.cond (.tmp 69) (.region [⟨(some 71), none, .op (.idxR 3 1 (.tmp 7) (.const (.int .i64 0)))⟩,
      ⟨(some 72), none, .op (.load 1 false (.tmp 71))⟩,
      ⟨(some 73), none, .op (.bin .sub (.const (.int .u64 2)) (.tmp 72))⟩,
      ⟨(some 74), none, .op (.idxR 3 1 (.tmp 7) (.tmp 73))⟩,
      ⟨(some 75), none, .op (.load 1 false (.tmp 74))⟩,
      ⟨(some 10), none, .op (.move (.tmp 75))⟩]) (.seq (.region [⟨(some 77), none, .op (.bin .eql (.tmp 45) (.const (.int .u8 20)))⟩,
      ⟨(some 76), none, .op (.move (.tmp 77))⟩])
    (.cond (.tmp 76) (.dregion [⟨0, ⟨(some 79), none, .op (.move (.tmp 11))⟩, []⟩,
      ⟨1, ⟨(some 80), none, .op (.idxR 3 1 (.tmp 7) (.const (.int .i64 0)))⟩, []⟩,
      ⟨2, ⟨(some 81), none, .op (.load 1 false (.tmp 80))⟩, []⟩,
      ⟨3, ⟨(some 82), none, .op (.fieldA 5 (.tmp 3))⟩, []⟩,
      ⟨4, ⟨(some 83), none, .op (.load 1 false (.tmp 82))⟩, []⟩,
      ⟨5, ⟨(some 84), none, .op (.idxA 6 (.tmp 83) (.const (.int .i64 1)))⟩, []⟩,
      ⟨6, ⟨(some 85), none, .op (.fieldA 1 (.tmp 84))⟩, []⟩,
      ⟨7, ⟨(some 86), none, .op (.load 1 false (.tmp 85))⟩, []⟩,
      ⟨8, ⟨(some 87), none, .op (.idxR 3 1 (.tmp 7) (.const (.int .i64 1)))⟩, []⟩,
      ⟨9, ⟨(some 88), none, .op (.load 1 false (.tmp 87))⟩, []⟩,
      ⟨10, ⟨(some 89), none, .call (.func 132) [(.tmp 79), (.tmp 81), (.tmp 86), (.tmp 88)]⟩, []⟩,
      ⟨11, ⟨(some 78), none, .op (.move (.tmp 89))⟩, []⟩,
      ⟨12, ⟨(some 90), none, .op (.ext (.tmp 78) 0)⟩, []⟩,
      ⟨13, ⟨(some 91), none, .op (.ext (.tmp 78) 1)⟩, []⟩,
      ⟨14, ⟨(some 10), none, .op (.move (.tmp 90))⟩, []⟩]) (.seq (.region [⟨(some 93), none, .op (.bin .eql (.tmp 45) (.const (.int .u8 21)))⟩,
      ⟨(some 92), none, .op (.move (.tmp 93))⟩])
    (.cond (.tmp 92) (.region [⟨(some 95), none, .op (.move (.tmp 11))⟩,
      ⟨(some 96), none, .op (.idxR 3 1 (.tmp 7) (.const (.int .i64 0)))⟩,
      ⟨(some 97), none, .op (.load 1 false (.tmp 96))⟩,
      ⟨(some 98), none, .op (.fieldA 4 (.tmp 3))⟩,
      ⟨(some 99), none, .op (.load 1 false (.tmp 98))⟩,
      ⟨(some 100), none, .op (.fieldA 1 (.tmp 3))⟩,
      ⟨(some 101), none, .op (.load 1 false (.tmp 100))⟩,
      ⟨(some 102), none, .call (.func 133) [(.tmp 95), (.tmp 97), (.tmp 99), (.tmp 101)]⟩,
      ⟨(some 94), none, .op (.move (.tmp 102))⟩,
      ⟨(some 103), none, .op (.ext (.tmp 94) 0)⟩,
      ⟨(some 104), none, .op (.ext (.tmp 94) 1)⟩,
      ⟨(some 10), none, .op (.move (.tmp 103))⟩]) (.seq (.seq (.region [⟨(some 106), none, .op (.bin .eql (.tmp 45) (.const (.int .u8 22)))⟩,
      ⟨(some 105), none, .op (.move (.tmp 106))⟩])
    (.cond (.tmp 105) .skip (.region [⟨(some 107), none, .op (.bin .eql (.tmp 45) (.const (.int .u8 23)))⟩,
      ⟨(some 105), none, .op (.move (.tmp 107))⟩])))
    (.cond (.tmp 105) (.region [⟨(some 109), none, .op (.move (.tmp 11))⟩,
      ⟨(some 110), none, .op (.idxR 3 1 (.tmp 7) (.const (.int .i64 0)))⟩,
      ⟨(some 111), none, .op (.load 1 false (.tmp 110))⟩,
      ⟨(some 112), none, .op (.fieldA 1 (.tmp 3))⟩,
      ⟨(some 113), none, .op (.load 1 false (.tmp 112))⟩,
      ⟨(some 114), none, .op (.fieldA 0 (.tmp 3))⟩,
      ⟨(some 115), none, .op (.load 1 false (.tmp 114))⟩,
      ⟨(some 116), none, .op (.bin .eql (.tmp 115) (.const (.int .u8 23)))⟩,
      ⟨(some 117), none, .call (.func 134) [(.tmp 109), (.tmp 111), (.tmp 113), (.tmp 116)]⟩,
      ⟨(some 108), none, .op (.move (.tmp 117))⟩,
      ⟨(some 118), none, .op (.ext (.tmp 108) 0)⟩,
      ⟨(some 119), none, .op (.ext (.tmp 108) 1)⟩,
      ⟨(some 10), none, .op (.move (.tmp 118))⟩]) (.seq (.region [⟨(some 121), none, .op (.bin .eql (.tmp 45) (.const (.int .u8 24)))⟩,
      ⟨(some 120), none, .op (.move (.tmp 121))⟩])
    (.cond (.tmp 120) (.region [⟨(some 122), none, .op (.move (.tmp 2))⟩,
      ⟨(some 123), none, .op (.move (.tmp 11))⟩,
      ⟨(some 124), none, .op (.idxR 3 1 (.tmp 7) (.const (.int .i64 0)))⟩,
      ⟨(some 125), none, .op (.load 1 false (.tmp 124))⟩,
      ⟨(some 126), none, .op (.fieldA 1 (.tmp 3))⟩,
      ⟨(some 127), none, .op (.load 1 false (.tmp 126))⟩,
      ⟨(some 128), none, .call (.func 135) [(.tmp 122), (.tmp 123), (.tmp 125), (.tmp 127)]⟩,
      ⟨(some 10), none, .op (.move (.tmp 128))⟩]) (.region [⟨(some 47), none, .op (.fieldA 0 (.tmp 3))⟩,
      ⟨(some 48), none, .op (.load 1 false (.tmp 47))⟩,
      ⟨(some 49), none, .op (.move (.tmp 11))⟩,
      ⟨(some 50), none, .op (.idxR 3 1 (.tmp 7) (.const (.int .i64 0)))⟩,
      ⟨(some 51), none, .op (.load 1 false (.tmp 50))⟩,
      ⟨(some 52), none, .op (.idxR 3 1 (.tmp 7) (.const (.int .i64 1)))⟩,
      ⟨(some 53), none, .op (.load 1 false (.tmp 52))⟩,
      ⟨(some 54), none, .call (.func 136) [(.tmp 48), (.tmp 49), (.tmp 51), (.tmp 53)]⟩,
      ⟨(some 46), none, .op (.move (.tmp 54))⟩,
      ⟨(some 55), none, .op (.ext (.tmp 46) 0)⟩,
      ⟨(some 56), none, .op (.ext (.tmp 46) 1)⟩,
      ⟨(some 10), none, .op (.move (.tmp 55))⟩]))))))))))))))))
    (.seq (.region [⟨(some 129), none, .op (.move (.tmp 10))⟩,
      ⟨(some 6), none, .op (.move (.tmp 129))⟩])
    .ret)))))))
def XR121 : List RV := [.tmp 6]
theorem Xis121 : Is Tryz.prog (fun _ _ => false) 121 130 XA121 XR121 := ⟨Tryz.f121, Tryz.func121, rfl, by kernel_rfl, by kernel_rfl, Tryz.call121⟩
def fi121 : FI := .code 130 XA121 XR121
theorem ok121 : FI.ok Tryz.prog 121 fi121 := ⟨_, Xis121⟩
def XA122 : ACode :=
  (.region [⟨(some 3), none, .op (.load 6 true (.tmp 1))⟩,
      ⟨(some 4), none, .op (.move (.tmp 0))⟩,
      ⟨(some 5), none, .call (.func 123) [(.tmp 3), (.tmp 4)]⟩])
def XR122 : List RV := []
theorem Xis122 : Is Tryz.prog (fun _ _ => false) 122 6 XA122 XR122 := ⟨Tryz.f122, Tryz.func122, rfl, by kernel_rfl, by kernel_rfl, Tryz.call122⟩
def fi122 : FI := .code 6 XA122 XR122
theorem ok122 : FI.ok Tryz.prog 122 fi122 := ⟨_, Xis122⟩
def XA123l0 : ACode :=
  (.seq (.region [⟨(some 15), none, .op (.bin .lss (.tmp 14) (.tmp 13))⟩])
    (.seq (.cond (.tmp 15) .skip (.exit 0))
    (.seq (.block 1 (.seq (.region [⟨(some 16), none, .op (.idxA 6 (.tmp 12) (.tmp 14))⟩,
      ⟨(some 17), none, .op (.load 6 true (.tmp 16))⟩,
      ⟨(some 6), none, .op (.alloc [(.int .u8 0), (.int .i64 0), (.int .u64 0), (.str []), (.int .i64 0), .nilS])⟩,
      ⟨none, none, .op (.store 6 (.tmp 6) (.tmp 17))⟩])
    (.seq (.region [⟨(some 18), none, .op (.load 6 true (.tmp 6))⟩,
      ⟨(some 19), none, .op (.move (.tmp 1))⟩,
      ⟨(some 20), none, .call (.func 123) [(.tmp 18), (.tmp 19)]⟩,
      ⟨(some 21), none, .op (.un .not (.tmp 20))⟩])
    (.cond (.tmp 21) (.seq (.region [⟨(some 4), none, .op (.move (.const (.bool false)))⟩])
    .ret) .skip))))
    (.region [⟨(some 22), none, .op (.bin .add (.tmp 14) (.const (.int .i64 1)))⟩,
      ⟨(some 14), none, .op (.move (.tmp 22))⟩]))))
def XA123 : ACode :=
  (.seq (.region [⟨(some 2), none, .op (.box (.tmp 0))⟩,
      ⟨(some 4), none, .op (.move (.const (.bool false)))⟩])
    (.seq (.seq (.region [⟨(some 7), none, .op (.move (.tmp 1))⟩,
      ⟨(some 8), none, .op (.load 6 true (.tmp 2))⟩,
      ⟨(some 9), none, .call (.tmp 7) [(.tmp 8)]⟩,
      ⟨(some 10), none, .op (.un .not (.tmp 9))⟩])
    (.cond (.tmp 10) (.seq (.region [⟨(some 4), none, .op (.move (.const (.bool false)))⟩])
    .ret) .skip))
    (.seq (.seq (.region [⟨(some 11), none, .op (.fieldA 5 (.tmp 2))⟩,
      ⟨(some 12), none, .op (.load 1 false (.tmp 11))⟩,
      ⟨(some 13), none, .op (.len (.tmp 12))⟩,
      ⟨(some 14), none, .op (.move (.const (.int .i64 0)))⟩])
    (.block 0 (.loop XA123l0)))
    (.seq (.region [⟨(some 4), none, .op (.move (.const (.bool true)))⟩])
    .ret))))
def XR123 : List RV := [.tmp 4]
theorem Xis123 : Is Tryz.prog (fun _ _ => false) 123 23 XA123 XR123 := ⟨Tryz.f123, Tryz.func123, rfl, by kernel_rfl, by kernel_rfl, Tryz.call123⟩
def fi123 : FI := .code 23 XA123 XR123
theorem ok123 : FI.ok Tryz.prog 123 fi123 := ⟨_, Xis123⟩
def XA124 : ACode :=
  (.seq (.region [⟨(some 2), none, .op (.move (.const (.bool false)))⟩])
    (.seq (.region [⟨(some 3), none, .op (.move (.tmp 0))⟩,
      ⟨(some 4), none, .op (.bin .geq (.tmp 3) (.const (.int .i64 1)))⟩,
      ⟨(some 5), none, .op (.move (.tmp 4))⟩,
      ⟨(some 6), (some (5, true)), .op (.move (.tmp 0))⟩,
      ⟨(some 7), (some (5, true)), .op (.bin .leq (.tmp 6) (.const (.int .i64 64)))⟩,
      ⟨(some 8), none, .op (.pick (.tmp 5) (.tmp 7) (.const (.bool false)))⟩,
      ⟨(some 2), none, .op (.move (.tmp 8))⟩])
    .ret))
def XR124 : List RV := [.tmp 2]
theorem Xis124 : Is Tryz.prog (fun _ _ => false) 124 9 XA124 XR124 := ⟨Tryz.f124, Tryz.func124, rfl, by kernel_rfl, by kernel_rfl, Tryz.call124⟩
def fi124 : FI := .code 9 XA124 XR124
theorem ok124 : FI.ok Tryz.prog 124 fi124 := ⟨_, Xis124⟩
def XA125 : ACode :=
  (.seq (.region [⟨(some 2), none, .op (.alloc [(.str []), (.int .i64 0), (.int .i64 0)])⟩,
      ⟨(some 3), none, .op (.move (.const (.bool false)))⟩])
    (.seq (.seq (.region [⟨(some 4), none, .op (.move (.tmp 0))⟩,
      ⟨(some 5), none, .op (.bin .gtr (.tmp 4) (.const (.int .u8 24)))⟩])
    (.cond (.tmp 5) (.seq (.region [⟨(some 6), none, .op (.build [(.str []), (.int .i64 0), (.int .i64 0)] [])⟩,
      ⟨none, none, .op (.store 3 (.tmp 2) (.tmp 6))⟩,
      ⟨(some 3), none, .op (.move (.const (.bool false)))⟩])
    .ret) .skip))
    (.seq (.dregion [⟨0, ⟨(some 7), none, .op (.move (.tmp 0))⟩, []⟩,
      ⟨1, ⟨(some 8), none, .op (.m (.glx 1 25 3 (.tmp 7)))⟩, []⟩,
      ⟨2, ⟨(some 9), none, .op (.load 3 true (.tmp 8))⟩, []⟩,
      ⟨3, ⟨(some 10), none, .op (.move (.tmp 0))⟩, []⟩,
      ⟨4, ⟨(some 11), none, .op (.m (.glx 1 25 3 (.tmp 10)))⟩, []⟩,
      ⟨5, ⟨(some 12), none, .op (.fieldA 1 (.tmp 11))⟩, []⟩,
      ⟨6, ⟨(some 13), none, .op (.load 1 false (.tmp 12))⟩, []⟩,
      ⟨7, ⟨(some 14), none, .op (.bin .gtr (.tmp 13) (.const (.int .i64 0)))⟩, []⟩,
      ⟨8, ⟨none, none, .op (.store 3 (.tmp 2) (.tmp 9))⟩, [3, 4, 5, 6, 7]⟩,
      ⟨9, ⟨(some 3), none, .op (.move (.tmp 14))⟩, []⟩])
    .ret)))
def XR125 : List RV := [.cell 2 3 true, .tmp 3]
theorem Xis125 : Is Tryz.prog (fun _ _ => false) 125 15 XA125 XR125 := ⟨Tryz.f125, Tryz.func125, rfl, by kernel_rfl, by kernel_rfl, Tryz.call125⟩
def fi125 : FI := .code 15 XA125 XR125
theorem ok125 : FI.ok Tryz.prog 125 fi125 := ⟨_, Xis125⟩
def XA126 : ACode :=
  (.seq (.region [⟨(some 4), none, .op (.move (.const (.bool false)))⟩])
    (.seq (.region [⟨(some 5), none, .op (.move (.tmp 0))⟩,
      ⟨(some 6), none, .call (.func 137) [(.tmp 5)]⟩,
      ⟨(some 7), none, .op (.move (.tmp 6))⟩,
      ⟨(some 8), (some (7, true)), .op (.move (.tmp 1))⟩,
      ⟨(some 9), (some (7, true)), .op (.move (.tmp 0))⟩,
      ⟨(some 10), (some (7, true)), .call (.func 138) [(.tmp 9)]⟩,
      ⟨(some 11), (some (7, true)), .op (.bin .leq (.tmp 8) (.tmp 10))⟩,
      ⟨(some 12), none, .op (.pick (.tmp 7) (.tmp 11) (.const (.bool false)))⟩,
      ⟨(some 4), none, .op (.move (.tmp 12))⟩])
    .ret))
def XR126 : List RV := [.tmp 4]
theorem Xis126 : Is Tryz.prog (fun _ _ => false) 126 13 XA126 XR126 := ⟨Tryz.f126, Tryz.func126, rfl, by kernel_rfl, by kernel_rfl, Tryz.call126⟩
def fi126 : FI := .code 13 XA126 XR126
theorem ok126 : FI.ok Tryz.prog 126 fi126 := ⟨_, Xis126⟩
def XA137 : ACode :=
  (.seq (.region [⟨(some 2), none, .op (.move (.const (.bool false)))⟩])
    (.seq (.region [⟨(some 3), none, .op (.move (.tmp 0))⟩,
      ⟨(some 4), none, .op (.bin .geq (.tmp 3) (.const (.int .i64 1)))⟩,
      ⟨(some 5), none, .op (.move (.tmp 4))⟩,
      ⟨(some 6), (some (5, true)), .op (.move (.tmp 0))⟩,
      ⟨(some 7), (some (5, true)), .op (.bin .leq (.tmp 6) (.const (.int .i64 64)))⟩,
      ⟨(some 8), none, .op (.pick (.tmp 5) (.tmp 7) (.const (.bool false)))⟩,
      ⟨(some 2), none, .op (.move (.tmp 8))⟩])
    .ret))
def XR137 : List RV := [.tmp 2]
theorem Xis137 : Is Tryz.prog (fun _ _ => false) 137 9 XA137 XR137 := ⟨Tryz.f137, Tryz.func137, rfl, by kernel_rfl, by kernel_rfl, Tryz.call137⟩
def fi137 : FI := .code 9 XA137 XR137
theorem ok137 : FI.ok Tryz.prog 137 fi137 := ⟨_, Xis137⟩
def XA138 : ACode :=
  (.seq (.region [⟨(some 2), none, .op (.move (.const (.int .u64 0)))⟩])
    (.seq (.seq (.region [⟨(some 3), none, .op (.move (.tmp 0))⟩,
      ⟨(some 4), none, .call (.func 137) [(.tmp 3)]⟩,
      ⟨(some 5), none, .op (.un .not (.tmp 4))⟩])
    (.cond (.tmp 5) (.seq (.region [⟨(some 2), none, .op (.move (.const (.int .u64 0)))⟩])
    .ret) .skip))
    (.seq (.region [⟨(some 6), none, .op (.move (.tmp 0))⟩,
      ⟨(some 7), none, .op (.bin .sub (.const (.int .i64 64)) (.tmp 6))⟩,
      ⟨(some 8), none, .op (.bin .shr (.const (.int .u64 18446744073709551615)) (.tmp 7))⟩,
      ⟨(some 2), none, .op (.move (.tmp 8))⟩])
    .ret)))
def XR138 : List RV := [.tmp 2]
theorem Xis138 : Is Tryz.prog (fun _ _ => false) 138 9 XA138 XR138 := ⟨Tryz.f138, Tryz.func138, rfl, by kernel_rfl, by kernel_rfl, Tryz.call138⟩
def fi138 : FI := .code 9 XA138 XR138
theorem ok138 : FI.ok Tryz.prog 138 fi138 := ⟨_, Xis138⟩
def tabX : List (Nat × FI) := [(8, fi8), (9, fi9), (10, fi10), (11, fi11), (13, fi13), (18, fi18), (19, fi19), (20, fi20), (26, fi26), (27, fi27), (28, fi28), (29, fi29), (30, fi30), (31, fi31), (32, fi32), (35, fi35), (37, fi37), (39, fi39), (40, fi40), (41, fi41), (42, fi42), (43, fi43), (47, fi47), (53, fi53), (54, fi54), (55, fi55), (56, fi56), (61, fi61), (62, fi62), (63, fi63), (68, fi68), (71, fi71), (72, fi72), (73, fi73), (74, fi74), (77, fi77), (83, fi83), (84, fi84), (86, fi86), (90, fi90), (91, fi91), (93, fi93), (102, fi102), (104, fi104), (105, fi105), (106, fi106), (107, fi107), (108, fi108), (109, fi109), (110, fi110), (111, fi111), (117, fi117), (118, fi118), (121, fi121), (122, fi122), (123, fi123), (124, fi124), (125, fi125), (126, fi126), (137, fi137), (138, fi138)]
theorem tabX_ok : ∀ q ∈ tabX, FI.ok Tryz.prog q.1 q.2 := by
  intro q hq
  simp only [tabX, List.mem_cons, List.not_mem_nil, or_false] at hq
  rcases hq with rfl | rfl | rfl | rfl | rfl | rfl | rfl | rfl | rfl | rfl | rfl | rfl | rfl | rfl | rfl | rfl | rfl | rfl | rfl | rfl | rfl | rfl | rfl | rfl | rfl | rfl | rfl | rfl | rfl | rfl | rfl | rfl | rfl | rfl | rfl | rfl | rfl | rfl | rfl | rfl | rfl | rfl | rfl | rfl | rfl | rfl | rfl | rfl | rfl | rfl | rfl | rfl | rfl | rfl | rfl | rfl | rfl | rfl | rfl | rfl | rfl
  · exact ok8
  · exact ok9
  · exact ok10
  · exact ok11
  · exact ok13
  · exact ok18
  · exact ok19
  · exact ok20
  · exact ok26
  · exact ok27
  · exact ok28
  · exact ok29
  · exact ok30
  · exact ok31
  · exact ok32
  · exact ok35
  · exact ok37
  · exact ok39
  · exact ok40
  · exact ok41
  · exact ok42
  · exact ok43
  · exact ok47
  · exact ok53
  · exact ok54
  · exact ok55
  · exact ok56
  · exact ok61
  · exact ok62
  · exact ok63
  · exact ok68
  · exact ok71
  · exact ok72
  · exact ok73
  · exact ok74
  · exact ok77
  · exact ok83
  · exact ok84
  · exact ok86
  · exact ok90
  · exact ok91
  · exact ok93
  · exact ok102
  · exact ok104
  · exact ok105
  · exact ok106
  · exact ok107
  · exact ok108
  · exact ok109
  · exact ok110
  · exact ok111
  · exact ok117
  · exact ok118
  · exact ok121
  · exact ok122
  · exact ok123
  · exact ok124
  · exact ok125
  · exact ok126
  · exact ok137
  · exact ok138
end Go.Proofs.YtdmjloieldhlnaaGreatDoor
