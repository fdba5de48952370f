/- What is let in, and how large it is: the second form's bound. -/
import Derived.Test.YtgeieafamocnhaaGreatDoorGQ
import Derived.Test.YtgeieafamocnhaaGreatDoorRows
import Derived.Test.YtgeieafamocnhaaGreatDoorCards
import Derived.Test.YtgeieafamocnhaaGreatDoorTie
import Derived.WalkKit
import Derived.OpenShut
import Derived.ShutString
import Derived.ChangeOld
import Derived.Below
import Derived.FnData
import Derived.LaidLaws
import Derived.Deep.DeepHandedRow
import Derived.Deep.DeepWitnessRowRef
namespace Go.Ab
open Go.RowKit Go.ChangeShapes Go.Proofs.YtgeieafamocnhaaGreatDoor.Rows
set_option linter.unusedVariables false
set_option linter.unusedSimpArgs false
mutual
def avz : AV → Nat
  | .str s => s.length + 1
  | .lst _ es => avzLL es + 1
  | .agg cs => avzL cs + 1
  | .tup cs => avzL cs + 1
  | .fp cs => avzL cs + 1
  | _ => 1
def avzL : List AV → Nat
  | [] => 0
  | x :: r => avz x + avzL r
def avzLL : List (List AV) → Nat
  | [] => 0
  | x :: r => avzL x + avzLL r
end
theorem avzL_app : ∀ a b : List AV, avzL (a ++ b) = avzL a + avzL b
  | [], b => by simp [avzL]
  | x :: a, b => by simp only [List.cons_append, avzL, avzL_app a b]; omega
theorem bulk_all {H : Type} : ∀ (es : List (List AV)) (ps : List (DataW H)), es.length = ps.length → (∀ (i : Nat) x d, es[i]? = some x → ps[i]? = some d → avzL x ≤ uptoBulk d) → avzLL es ≤ uptoBulkAll ps
  | [], _, _, _ => by simp [avzLL]
  | x :: es, [], h, _ => by simp at h
  | x :: es, d :: ps, h, hb => by
    have h1 := hb 0 x d rfl rfl
    have h2 := bulk_all es ps (by simpa using h) fun i y e hy he => hb (i + 1) y e (by simpa using hy) (by simpa using he)
    simp only [avzLL, uptoBulkAll]; omega
section
variable {H : Type} {enc : TypeId × Value → H} {P : Program} {K : Wd} {base : Nat} {spare : Nat → Bool} {held : Bool}
theorem openedU {S : List TypeId} (hS : okS P S = true) (hK : Old K) : ∀ (fuel : Nat) (t : TypeId) (cs : List Value) (x : DataW H × List MemPlace), t ∈ S → DataW.trod enc P K.w base spare held fuel t cs = some x →
    ∃ xs, AT P fuel t xs ∧ CR K 0 xs cs ∧ avzL xs ≤ uptoBulk x.1 := by
  intro fuel
  induction fuel with
  | zero => intro t cs x _ h; simp [DataW.trod] at h
  | succ n ih =>
    intro t cs x ht h
    have hok := List.all_eq_true.1 hS t ht
    have fields : ∀ (ts : List (TypeId × Nat)) (ps : List (DataW H × List MemPlace)) (cs : List Value) (o : Nat), (∀ q ∈ ts, q.1 ∈ S ∧ q.2 = P.cellsOf q.1) → ps.length = ts.length → cs.length = o + (ts.map (·.2)).sum →
        (∀ i q, ts[i]? = some q → DataW.trod enc P K.w base spare held n q.1 ((cs.drop (o + ((ts.take i).map (·.2)).sum)).take q.2) = ps[i]?) → ∃ xs, ATl (AT P n) (ts.map (·.1)) xs ∧ CR K 0 xs (cs.drop o) ∧ avzL xs ≤ uptoBulkAll (ps.map (·.1)) := by
      intro ts
      induction ts with
      | nil =>
        intro ps cs o _ _ hl _
        refine ⟨[], rfl, ?_, by simp [avzL]⟩
        rw [List.drop_of_length_le (by simp at hl; omega)]; exact .nil _ _
      | cons q ts ihs =>
        intro ps cs o hq hu hl hf
        match ps, hu with
        | y :: ps, hu =>
        have hy := hf 0 q rfl
        simp only [List.take_zero, List.map_nil, List.sum_nil, Nat.add_zero, List.getElem?_cons_zero] at hy
        obtain ⟨ys, h1, h2, h2b⟩ := ih _ _ _ (hq q List.mem_cons_self).1 hy
        obtain ⟨zs, h3, h4, h4b⟩ := ihs ps cs (o + q.2) (fun r hr => hq r (List.mem_cons_of_mem _ hr)) (by simpa using hu) (by rw [hl]; simp; omega) (fun i r hr => by
          have hy' := hf (i + 1) r (by simpa using hr)
          rw [List.getElem?_cons_succ] at hy'
          rw [← hy']
          simp only [List.take_succ_cons, List.map_cons, List.sum_cons, Nat.add_assoc])
        refine ⟨ys ++ zs, ⟨ys, zs, rfl, h1, h3⟩, ?_, by rw [avzL_app, List.map_cons, uptoBulkAll]; omega⟩
        have : cs.drop o = (cs.drop o).take q.2 ++ cs.drop (o + q.2) := by
          rw [← List.drop_drop, List.take_append_drop]
        rw [this]
        exact h2.append h4
    simp only [AT]
    cases hu : P.underlying t with
    | none => simp [hu] at hok
    | some d =>
      simp only [hu] at hok
      cases d <;> simp only at hok <;> first | (cases hok; done) | skip
      case bool =>
        obtain ⟨b, rfl, rfl⟩ := DataW.trod_bool hu h
        exact ⟨[.bool b], ⟨b, rfl⟩, .single (.bool b) rfl, by simp [avzL, avz, uptoBulk]⟩
      case int k =>
        obtain ⟨i, rfl, rfl, hw⟩ := DataW.trod_int hu h
        exact ⟨[.int k i], ⟨i, rfl, hw⟩, .single (.int k i) rfl, by simp [avzL, avz, uptoBulk]⟩
      case string =>
        obtain ⟨s, rfl, rfl, hw⟩ := DataW.trod_string hu h
        exact ⟨[.str s.data.toList], ⟨_, rfl, by simpa using hw⟩, .single (.str _ s rfl) rfl, by simp [avzL, avz, uptoBulk]⟩
      case pointer e =>
        have he : e ∈ S := by simpa using hok
        rcases DataW.trod_pointer hu h with ⟨rfl, rfl⟩ | ⟨a, cs', y, m, hm, rfl, rfl, hc, hy⟩
        · exact ⟨[.nilP], .inl rfl, .single .nilP rfl, by simp [avzL, avz, uptoBulk]⟩
        · obtain rfl : m = n := by omega
          obtain ⟨ys, h1, h2, h2b⟩ := ih e cs' y he hy
          obtain ⟨h3, h4⟩ := cells_at hc
          refine ⟨[.fp ys], .inr ⟨ys, rfl, h1⟩, .single (.fp ys a (fun k => cs'.getD k undef) h2.one (fun k hk => ?_) fun j x hx => ?_) rfl, by simp only [avzL, avz, uptoBulk]; omega⟩
          · have hkl : k < cs'.length := by rw [h2.len]; exact hk
            have := h4 k (by omega)
            rw [List.getElem?_eq_getElem hkl] at this
            refine ⟨by simp only [this, List.getD_eq_getElem?_getD, List.getElem?_eq_getElem hkl, Option.getD_some], hK _ _ ?_⟩
            exact cell_lt this
          · have hj := (List.getElem?_eq_some_iff.1 hx).1
            have hjl : j < cs'.length := by rw [h2.len]; exact hj
            refine h2.at_ j x _ hx ?_
            simp only [List.getD_eq_getElem?_getD, List.getElem?_eq_getElem hjl, Option.getD_some]
      case slice e =>
        have he : e ∈ S := by simpa using hok
        rcases DataW.trod_slice hu h with ⟨rfl, rfl⟩ | ⟨a, len, cap, elems, rest, m, hm, rfl, hx, _, hlc, hcap, hlen, hel, _, _⟩
        · exact ⟨[.lst (P.cellsOf e) []], ⟨[], rfl, by simp, fun x hx => by simp at hx⟩, .single (.lst0 _ _ _ _ _ rfl rfl fun _ => rfl) rfl, by simp [avzL, avz, avzLL, uptoBulk]⟩
        · obtain rfl : m = n := by omega
          obtain ⟨es, h1, h2⟩ := exists_list (α := List AV) (p := fun i xs => AT P m e xs ∧ ∃ cs, K.w.cells? base (a.add (i * P.cellsOf e)) (P.cellsOf e) = some cs ∧ CR K 0 xs cs ∧ ∀ d, elems[i]? = some d → avzL xs ≤ uptoBulk d.1) len fun i hi => by
            have h3 := hel i hi
            have hy : elems[i]? = some (elems[i]'(by omega)) := List.getElem?_eq_getElem (by omega)
            rw [hy] at h3
            obtain ⟨cs, h4, h5⟩ := Option.bind_eq_some_iff.1 h3
            obtain ⟨xs, h6, h7, h8⟩ := ih e cs _ he h5
            exact ⟨xs, h6, cs, h4, h7, fun d hd => by rw [hy] at hd; injection hd with hd; subst hd; exact h8⟩
          have hlenE : ∀ (i : Nat) (x : List AV), es[i]? = some x → x.length = P.cellsOf e := fun i x hx => by
            obtain ⟨_, cs, h4, h5, _⟩ := h2 i x hx
            rw [← h5.len]; exact (cells_at h4).1
          have hbk : avzLL es ≤ uptoBulkAll (elems.map (·.1)) := bulk_all es _ (by rw [List.length_map, hlen, h1]) fun i x d hx hd => by
            rw [List.getElem?_map] at hd
            cases hel : elems[i]? with
            | none => rw [hel] at hd; cases hd
            | some y =>
              rw [hel] at hd; simp only [Option.map_some, Option.some.injEq] at hd; subst hd
              obtain ⟨_, _, _, _, h6⟩ := h2 i x hx
              exact h6 y hel
          refine ⟨[.lst (P.cellsOf e) es], ⟨es, rfl, by omega, fun x hx => ?_⟩, .single ?_ rfl, by rw [hx]; simp only [avzL, avz, uptoBulk]; omega⟩
          · obtain ⟨i, hi⟩ := List.getElem?_of_mem hx
            exact ⟨hlenE i x hi, (h2 i x hi).1⟩
          · refine .lst _ es a len cap (fun k => (K.w.cell? (a.add k)).getD undef) h1.symm hlc hcap hlenE (fun i x hx j y hy => ?_) (fun k hk => ?_) fun i x hx j y hy => ?_
            · obtain ⟨_, cs, h4, h5, _⟩ := h2 i x hx
              exact h5.one j y hy
            · have hpos : 0 < P.cellsOf e := by
                rcases Nat.eq_zero_or_pos (P.cellsOf e) with h | h
                · rw [h] at hk; simp at hk
                · exact h
              have hi : k / P.cellsOf e < len := by rw [Nat.div_lt_iff_lt_mul hpos]; exact hk
              have hx : es[k / P.cellsOf e]? = some (es[k / P.cellsOf e]'(by omega)) := List.getElem?_eq_getElem (by omega)
              obtain ⟨_, cs, h4, h5, _⟩ := h2 _ _ hx
              obtain ⟨h6, h7⟩ := cells_at h4
              have hmod : k % P.cellsOf e < P.cellsOf e := Nat.mod_lt _ hpos
              have h8 := h7 (k % P.cellsOf e) hmod
              rw [List.getElem?_eq_getElem (by omega)] at h8
              have h9 := add_add _ _ _ _ _ h8
              rw [Nat.mul_comm, Nat.div_add_mod] at h9
              exact ⟨by rw [h9]; rfl, hK _ _ (cell_lt h9)⟩
            · obtain ⟨_, cs, h4, h5, _⟩ := h2 i x hx
              obtain ⟨h6, h7⟩ := cells_at h4
              have hj := (List.getElem?_eq_some_iff.1 hy).1
              have hjl : j < cs.length := by rw [h5.len]; exact hj
              have h8 := h7 j (by omega)
              rw [List.getElem?_eq_getElem hjl] at h8
              have h9 := add_add _ _ _ _ _ h8
              rw [h9]
              exact h5.at_ j y _ hy (List.getElem?_eq_getElem hjl)
      case struct fs =>
        simp only [Bool.and_eq_true, List.all_eq_true, beq_iff_eq] at hok
        obtain ⟨hmem, htile⟩ := hok
        obtain ⟨ys, m, hm, rfl, hl, hyl, hf⟩ := DataW.trod_struct hu h
        obtain rfl : m = n := by omega
        have off : ∀ (l : List Field) (o r : Nat), tiles P o l = some r → r = o + (l.map fun f => P.cellsOf f.type).sum ∧ ∀ i f, l[i]? = some f → f.offset = o + ((l.take i).map fun f => P.cellsOf f.type).sum := by
          intro l
          induction l with
          | nil => intro o r h; simp only [tiles, Option.some.injEq] at h; subst h; exact ⟨by simp, fun i f h => by simp at h⟩
          | cons f l ihl =>
            intro o r h
            simp only [tiles] at h
            split at h
            · rename_i ho
              obtain ⟨h1, h2⟩ := ihl _ _ h
              refine ⟨by rw [h1]; simp; omega, fun i g hg => ?_⟩
              cases i with
              | zero => simp at hg; subst hg; simpa using ho
              | succ i => rw [h2 i g (by simpa using hg)]; simp; omega
            · cases h
        obtain ⟨h1, h2⟩ := off fs.toList 0 _ htile
        have hmm : ∀ (l : List Field), (l.map fun f => (f.type, P.cellsOf f.type)).map (·.1) = l.map (·.type) := fun l => by simp
        obtain ⟨xs, h3, h4, h4b⟩ := fields (fs.toList.map fun f => (f.type, P.cellsOf f.type)) ys cs 0 (fun q hq => by
            obtain ⟨f, hf, rfl⟩ := List.mem_map.1 hq
            exact ⟨by simpa using hmem f hf, rfl⟩) (by rw [List.length_map, hyl]; simp) (by rw [hl, h1, List.map_map]; rfl) (fun i q hq => by
            rw [List.getElem?_map] at hq
            cases hfi : fs.toList[i]? with
            | none => rw [hfi] at hq; cases hq
            | some f =>
              rw [hfi] at hq
              simp only [Option.map_some, Option.some.injEq] at hq; subst hq
              have hfi' : fs[i]? = some f := by simpa using hfi
              have h5 := hf i f hfi'
              rw [← h5, h2 i f hfi, ← List.map_take, List.map_map]; rfl)
        rw [hmm] at h3
        exact ⟨xs, h3, by simpa using h4, by simp only [uptoBulk]; omega⟩
      case array m e =>
        simp only [Bool.and_eq_true, beq_iff_eq] at hok
        obtain ⟨hmem, hsz⟩ := hok
        obtain ⟨ys, m', hm, rfl, hl, hyl, hf⟩ := DataW.trod_array hu h
        obtain rfl : m' = n := by omega
        have hsum : ∀ k, ((List.replicate k (e, P.cellsOf e)).map (·.2)).sum = k * P.cellsOf e := fun k => by simp
        obtain ⟨xs, h3, h4, h4b⟩ := fields (List.replicate m (e, P.cellsOf e)) ys cs 0 (fun q hq => by
            have : q = (e, P.cellsOf e) := (List.mem_replicate.1 hq).2
            subst this
            exact ⟨by simpa using hmem, rfl⟩) (by rw [List.length_replicate]; exact hyl) (by rw [hl, hsz, hsum]; omega) (fun i q hq => by
            have hi : i < m := by have := (List.getElem?_eq_some_iff.1 hq).1; simpa using this
            have : q = (e, P.cellsOf e) := (List.mem_replicate.1 (List.mem_of_getElem? hq)).2
            subst this
            have h5 := hf i hi
            rw [← h5, List.take_replicate, hsum, Nat.min_eq_left (by omega), Nat.zero_add])
        refine ⟨xs, ?_, by simpa using h4, by simp only [uptoBulk]; omega⟩
        simpa using h3
theorem arg_oneU {S : List TypeId} (hS : okS P S = true) {W : World} {t : TypeId} {v : Value} {d : DataW H} {p : List MemPlace} (ht : t ∈ S) (hone : ∀ c, v ≠ .agg c) (h : DataW.Trod enc P W base spare held t v d p) :
    ∃ n x, AT P n t [x] ∧ VR (wd0 W) 0 x v ∧ avz x ≤ uptoBulk d := by
  obtain ⟨fuel, hf⟩ := h
  obtain ⟨xs, h1, h2, h3⟩ := openedU (K := wd0 W) hS (Old.wd0 W) fuel t _ _ ht hf
  have hc : v.cells.toList = [v] := by cases v <;> first | rfl | exact absurd rfl (hone _)
  rw [hc] at h2
  have hl := h2.len
  match xs, hl with
  | [x], _ => exact ⟨fuel, x, h1, h2.at_ 0 x v rfl rfl, by simpa [avzL] using h3⟩
theorem arg_aggU {S : List TypeId} (hS : okS P S = true) {W : World} {t : TypeId} {c : Array Value} {d : DataW H} {p : List MemPlace} (ht : t ∈ S) (h : DataW.Trod enc P W base spare held t (.agg c) d p) :
    ∃ n xs, AT P n t xs ∧ VR (wd0 W) 0 (.agg xs) (.agg c) ∧ avzL xs ≤ uptoBulk d := by
  obtain ⟨fuel, hf⟩ := h
  obtain ⟨xs, h1, h2, h3⟩ := openedU (K := wd0 W) hS (Old.wd0 W) fuel t _ _ ht hf
  exact ⟨fuel, xs, h1, h2.toAgg', h3⟩
end
end Go.Ab
namespace Go.Proofs.YtgeieafamocnhaaGreatDoor
open Go Go.Ab Go.Proofs
open Go.ChangeShapes Go.WideShapes Go.ChangeAt Go.RowKit
set_option linter.unusedVariables false
set_option maxRecDepth 100000
theorem ownK : ownKnob Tryz.prog.godebug = none := by kernel_rfl
theorem laidOut : laidOutB Tryz.prog = true := by kernel_rfl
theorem at_int {n : Nat} {y : List AV} {t : TypeId} {k : IntKind} (hu : Tryz.prog.underlying t = some (.int k)) (h : AT Tryz.prog n t y) : ∃ a : Int, y = [.int k a] := by
  cases n with
  | zero => exact h.elim
  | succ n =>
    simp only [AT, hu] at h
    obtain ⟨a, h1, h2⟩ := h
    exact ⟨a, h1⟩
theorem at_str {n : Nat} {y : List AV} (h : AT Tryz.prog n 9 y) : ∃ s : Nm, y = [.str s] := by
  cases n with
  | zero => exact h.elim
  | succ n =>
    simp only [AT, Tryz.underlying9] at h
    obtain ⟨s, h1, h2⟩ := h
    exact ⟨s, h1⟩
theorem at_slice {n : Nat} {y : List AV} {t e : TypeId} {sz : Nat} (hu : Tryz.prog.underlying t = some (.slice e)) (hc : Tryz.prog.cellsOf e = sz) (h : AT Tryz.prog (n + 1) t y) : ∃ es, y = [.lst sz es] ∧ ∀ x ∈ es, AT Tryz.prog n e x := by
  simp only [AT, hu] at h
  obtain ⟨es, h1, h2, h3⟩ := h
  rw [hc] at h1
  exact ⟨es, h1, fun x hx => (h3 x hx).2⟩
theorem list_of {α : Type} {f : α → List AV} : ∀ (es : List (List AV)), (∀ x ∈ es, ∃ a, x = f a) → ∃ l : List α, es = l.map f
  | [], _ => ⟨[], rfl⟩
  | e :: es, h => by
    obtain ⟨l, hl⟩ := list_of es fun x hx => h x (List.mem_cons_of_mem _ hx)
    obtain ⟨a, ha⟩ := h e List.mem_cons_self
    exact ⟨a :: l, by rw [hl, ha]; rfl⟩
theorem at_exs : ∀ n : Nat, (∀ y, AT Tryz.prog n 29 y → ∃ x : Ex, y = exE x) ∧ (∀ y, AT Tryz.prog n 27 y → ∃ l : List Ex, y = [exsA l])
  | 0 => ⟨fun y h => h.elim, fun y h => h.elim⟩
  | n + 1 => by
    obtain ⟨ih1, ih2⟩ := at_exs n
    refine ⟨fun y h => ?_, fun y h => ?_⟩
    · simp only [AT, Tryz.underlying29] at h
      obtain ⟨y1, z1, rfl, h1, y2, z2, rfl, h2, y3, z3, rfl, h3, y4, z4, rfl, h4, y5, z5, rfl, h5, y6, z6, rfl, h6, h7⟩ := h
      subst h7
      obtain ⟨k, rfl⟩ := at_int Tryz.underlying5 h1
      obtain ⟨w, rfl⟩ := at_int Tryz.underlying3 h2
      obtain ⟨b, rfl⟩ := at_int Tryz.underlying26 h3
      obtain ⟨nm, rfl⟩ := at_str h4
      obtain ⟨o, rfl⟩ := at_int Tryz.underlying5 h5
      obtain ⟨l, rfl⟩ := ih2 _ h6
      exact ⟨.mk k w b nm o l, by rw [ex_mk]; rfl⟩
    · obtain ⟨es, rfl, hes⟩ := at_slice Tryz.underlying27 (show Tryz.prog.cellsOf 29 = 6 by kernel_rfl) h
      obtain ⟨l, rfl⟩ := list_of (f := exE) es fun x hx => ih1 x (hes x hx)
      exact ⟨l, rfl⟩
theorem at_sms : ∀ n : Nat, (∀ y, AT Tryz.prog n 106 y → ∃ x : Sm, y = smE x) ∧ (∀ y, AT Tryz.prog n 60 y → ∃ l : List Sm, y = [smsA l])
  | 0 => ⟨fun y h => h.elim, fun y h => h.elim⟩
  | n + 1 => by
    obtain ⟨ih1, ih2⟩ := at_sms n
    refine ⟨fun y h => ?_, fun y h => ?_⟩
    · simp only [AT, Tryz.underlying106] at h
      obtain ⟨y1, z1, rfl, h1, y2, z2, rfl, h2, y3, z3, rfl, h3, y4, z4, rfl, h4, y5, z5, rfl, h5, y6, z6, rfl, h6, y7, z7, rfl, h7, h8⟩ := h
      subst h8
      obtain ⟨k, rfl⟩ := at_int Tryz.underlying5 h1
      obtain ⟨nm, rfl⟩ := at_str h2
      obtain ⟨fn, rfl⟩ := at_str h3
      obtain ⟨w, rfl⟩ := at_int Tryz.underlying3 h4
      obtain ⟨l, rfl⟩ := (at_exs n).2 _ h5
      obtain ⟨b, rfl⟩ := ih2 _ h6
      obtain ⟨e, rfl⟩ := ih2 _ h7
      exact ⟨.mk k nm fn w l b e, by rw [sm_mk]; rfl⟩
    · obtain ⟨es, rfl, hes⟩ := at_slice Tryz.underlying60 (show Tryz.prog.cellsOf 106 = 7 by kernel_rfl) h
      obtain ⟨l, rfl⟩ := list_of (f := smE) es fun x hx => ih1 x (hes x hx)
      exact ⟨l, rfl⟩
theorem at_pm {n : Nat} {y : List AV} (h : AT Tryz.prog n 64 y) : ∃ v : Pm, y = pmE v := by
  cases n with
  | zero => exact h.elim
  | succ n =>
    simp only [AT, Tryz.underlying64] at h
    obtain ⟨y1, z1, rfl, h1, y2, z2, rfl, h2, h3⟩ := h
    subst h3
    obtain ⟨nm, rfl⟩ := at_str h1
    obtain ⟨w, rfl⟩ := at_int Tryz.underlying3 h2
    exact ⟨(nm, w), rfl⟩
theorem at_ar {n : Nat} {y : List AV} (h : AT Tryz.prog n 58 y) : ∃ v : Ar, y = arE v := by
  cases n with
  | zero => exact h.elim
  | succ n =>
    simp only [AT, Tryz.underlying58] at h
    obtain ⟨y1, z1, rfl, h1, y2, z2, rfl, h2, y3, z3, rfl, h3, h4⟩ := h
    subst h4
    obtain ⟨nm, rfl⟩ := at_str h1
    obtain ⟨w, rfl⟩ := at_int Tryz.underlying3 h2
    obtain ⟨l, rfl⟩ := at_int Tryz.underlying3 h3
    exact ⟨⟨nm, w, l⟩, rfl⟩
theorem at_sl {n : Nat} {y : List AV} {t e : TypeId} {sz : Nat} {α : Type} {f : α → List AV} (hu : Tryz.prog.underlying t = some (.slice e)) (hc : Tryz.prog.cellsOf e = sz) (hf : ∀ (n : Nat) (x : List AV), AT Tryz.prog n e x → ∃ a, x = f a) (h : AT Tryz.prog n t y) : ∃ l : List α, y = [.lst sz (l.map f)] := by
  cases n with
  | zero => exact h.elim
  | succ n =>
    obtain ⟨es, rfl, hes⟩ := at_slice hu hc h
    obtain ⟨l, rfl⟩ := list_of (f := f) es fun x hx => hf n x (hes x hx)
    exact ⟨l, rfl⟩
theorem at_fu {n : Nat} {y : List AV} (h : AT Tryz.prog n 62 y) : ∃ v : Fu, y = fuE v := by
  cases n with
  | zero => exact h.elim
  | succ n =>
    simp only [AT, Tryz.underlying62] at h
    obtain ⟨y1, z1, rfl, h1, y2, z2, rfl, h2, y3, z3, rfl, h3, y4, z4, rfl, h4, h5⟩ := h
    subst h5
    obtain ⟨nm, rfl⟩ := at_str h1
    obtain ⟨ps, rfl⟩ := at_sl (f := pmE) Tryz.underlying59 (show Tryz.prog.cellsOf 64 = 2 by kernel_rfl) (fun n x => at_pm) h2
    obtain ⟨r, rfl⟩ := at_int Tryz.underlying3 h3
    obtain ⟨b, rfl⟩ := (at_sms n).2 _ h4
    exact ⟨⟨nm, ps, r, b⟩, rfl⟩
theorem open_pr {n : Nat} {y : List AV} (h : AT Tryz.prog n 25 y) : ∃ p : Pr, y = prE p := by
  cases n with
  | zero => exact h.elim
  | succ n =>
    simp only [AT, Tryz.underlying25] at h
    obtain ⟨y1, z1, rfl, h1, y2, z2, rfl, h2, h3⟩ := h
    subst h3
    obtain ⟨ars, rfl⟩ := at_sl (f := arE) Tryz.underlying22 (show Tryz.prog.cellsOf 58 = 3 by kernel_rfl) (fun n x => at_ar) h1
    obtain ⟨fus, rfl⟩ := at_sl (f := fuE) Tryz.underlying23 (show Tryz.prog.cellsOf 62 = 4 by kernel_rfl) (fun n x => at_fu) h2
    exact ⟨⟨ars, fus⟩, rfl⟩
theorem open_ex {n : Nat} {y : List AV} (h : AT Tryz.prog n 29 y) : ∃ x : Ex, y = exE x := (at_exs n).1 y h
theorem open_int {n : Nat} {x : AV} (h : AT Tryz.prog n 3 [x]) : ∃ a : Int, x = .int .i64 a := by
  obtain ⟨a, h1⟩ := at_int Tryz.underlying3 h
  exact ⟨a, by simpa using h1⟩
mutual
theorem av_ex : ∀ x : Ex, szE x ≤ avzL (exE x)
  | .mk k w b n o s => by
    have := av_exs s
    simp only [exE, szE, avzL, avz]; omega
theorem av_exs : ∀ l : List Ex, szEL l ≤ avzLL (exsE l)
  | [] => by simp [szEL]
  | x :: r => by
    have := av_ex x
    have := av_exs r
    simp only [exsE, szEL, avzLL]; omega
end
mutual
theorem av_sm : ∀ x : Sm, szS x ≤ avzL (smE x)
  | .mk k n f w l b e => by
    have := av_exs l
    have := av_sms b
    have := av_sms e
    simp only [smE, szS, avzL, avz]; omega
theorem av_sms : ∀ l : List Sm, szSL l ≤ avzLL (smsE l)
  | [] => by simp [szSL]
  | x :: r => by
    have := av_sm x
    have := av_sms r
    simp only [smsE, szSL, avzLL]; omega
end
theorem av_ars : ∀ l : List Ar, szAL l ≤ avzLL (l.map arE)
  | [] => by simp [szAL]
  | x :: r => by
    have := av_ars r
    simp only [List.map_cons, szAL, avzLL, arE, avzL, avz]; omega
theorem av_pms : ∀ l : List Pm, szML l ≤ avzLL (l.map pmE)
  | [] => by simp [szML]
  | x :: r => by
    have := av_pms r
    simp only [List.map_cons, szML, avzLL, pmE, avzL, avz]; omega
theorem av_fus : ∀ l : List Fu, szFL l ≤ avzLL (l.map fuE)
  | [] => by simp [szFL]
  | x :: r => by
    have := av_fus r
    have h1 := av_pms x.params
    have h2 := av_sms x.body
    rw [smsE_map] at h2
    simp only [List.map_cons, szFL, szF, avzLL, fuE, pmsA, smsA, avzL, avz]; omega
theorem av_pr (p : Pr) : szP p ≤ avzL (prE p) := by
  have h1 := av_ars p.arrays
  have h2 := av_fus p.funcs
  simp only [szP, prE, arsA, fusA, avzL, avz]; omega
theorem gWords : Tryz.prog.globalNamed "retarget/retargetref20.words" = some 0 := by kernel_rfl
theorem gWordsType : (Tryz.prog.globals[0]?).map (·.type) = some 125 := by kernel_rfl
theorem cellsS : Tryz.prog.cellsOf 9 = 1 := by kernel_rfl
theorem texts {K : Wd} (hK : Old K) {base : Nat} {spare : Nat → Bool} {held : Bool} {fuel : Nat} {cs : List Value} {bs : List Nm} {rest : List (DataW Unit)} {ps : List MemPlace}
    (h : DataW.trod (fun _ => ()) Tryz.prog K.w base spare held fuel 125 cs = some (.slice (bs.map fun b => .lit (.string b)) rest, ps)) :
    ∃ v, cs = [v] ∧ VR K 0 (.lst 1 (bs.map fun b => [AV.str b])) v := by
  rcases DataW.trod_slice Tryz.underlying125 h with ⟨_, hx⟩ | ⟨a, len, cap, elems, rst, m, hm, hcs, hx, _, hlc, hcap, hlen, hel, _, _⟩
  · simp at hx
  · simp only [Prod.mk.injEq, DataW.slice.injEq] at hx
    obtain ⟨⟨he, _⟩, _⟩ := hx
    rw [cellsS] at hel
    have key : ∀ (i : Nat) (b : Nm), bs[i]? = some b → i < len ∧ ∃ s : ByteArray, K.w.cell? (a.add i) = some (.string s) ∧ s.data.toList = b := by
      intro i b hb
      have h1 : (elems.map (·.1))[i]? = some (.lit (.string b)) := by rw [← he, List.getElem?_map, hb]; rfl
      rw [List.getElem?_map] at h1
      cases hy : elems[i]? with
      | none => rw [hy] at h1; cases h1
      | some y =>
        rw [hy] at h1
        simp only [Option.map_some, Option.some.injEq] at h1
        have hi : i < len := by rw [← hlen]; exact (List.getElem?_eq_some_iff.1 hy).1
        have h2 := hel i hi
        rw [hy, Nat.mul_one] at h2
        obtain ⟨c, h3, h4⟩ := Option.bind_eq_some_iff.1 h2
        obtain ⟨s, rfl, hys, _⟩ := DataW.trod_string Tryz.underlying9 h4
        rw [hys] at h1
        simp only [DataW.lit.injEq, Lit.string.injEq] at h1
        obtain ⟨_, h6⟩ := cells_at h3
        have h7 := h6 0 (by omega)
        refine ⟨hi, s, ?_, h1⟩
        have h8 := add_add a i 0 (.string s) K.w (by simpa using h7)
        simpa using h8
    have hlb : bs.length = len := by
      have := congrArg List.length he
      simp only [List.length_map] at this
      omega
    refine ⟨_, hcs, .lst 1 _ a len cap (fun k => (K.w.cell? (a.add k)).getD undef) (by simp [hlb]) hlc hcap (fun i e hi => ?_) (fun i e hi j x hx => ?_) (fun k hk => ?_) (fun i e hi j x hx => ?_)⟩
    · rw [List.getElem?_map] at hi
      cases hb : bs[i]? with
      | none => rw [hb] at hi; cases hi
      | some b => rw [hb] at hi; simp only [Option.map_some, Option.some.injEq] at hi; subst hi; rfl
    · rw [List.getElem?_map] at hi
      cases hb : bs[i]? with
      | none => rw [hb] at hi; cases hi
      | some b =>
        rw [hb] at hi; simp only [Option.map_some, Option.some.injEq] at hi; subst hi
        match j, hx with
        | 0, hx => simp at hx; subst hx; rfl
    · have hk' : k < bs.length := by omega
      obtain ⟨_, s, h1, _⟩ := key k _ (List.getElem?_eq_getElem hk')
      exact ⟨by rw [h1]; rfl, hK _ _ (cell_lt h1)⟩
    · rw [List.getElem?_map] at hi
      cases hb : bs[i]? with
      | none => rw [hb] at hi; cases hi
      | some b =>
        rw [hb] at hi; simp only [Option.map_some, Option.some.injEq] at hi; subst hi
        match j, hx with
        | 0, hx =>
          simp at hx; subst hx
          obtain ⟨_, s, h1, h2⟩ := key i b hb
          rw [Nat.mul_one, Nat.add_zero, h1]
          exact .str b s h2
theorem laid_gl {W : World} (h : laidMet Tryz.prog Rows.lowerTermsUptoRow.laid W) : GlR (wd0 W) 0 := by
  obtain ⟨ps, ⟨g', t', cs, fuel, p, q, hg', ht', hvar, hd, _, _⟩, _⟩ := h
  obtain rfl := Option.some.inj (gWords.symm.trans hg')
  obtain rfl := Option.some.inj (gWordsType.symm.trans ht')
  obtain ⟨v, hv1, hv2⟩ := texts (K := wd0 W) (Old.wd0 W) (bs := [[97, 114, 114, 97, 121], [102, 117, 110, 99], [118, 97, 114], [105, 102], [101, 108, 115, 101], [119, 104, 105, 108, 101], [98, 114, 101, 97, 107], [116, 101, 108, 108], [114, 101, 116, 117, 114, 110], [115, 105, 103, 110, 101, 100], [98, 105, 116], [98, 121, 116, 101], [104, 97, 108, 102], [119, 111, 114, 100]]) hd
  intro g gcs hgl
  unfold GL at hgl
  split at hgl
  · rename_i hg0
    subst hg0
    simp only [Option.some.injEq] at hgl
    subst hgl
    have hc := World.var?_cell gWords hvar 0
    have hc0 : cs[0]? = some v := by
      have : cs.toList[0]? = some v := by rw [hv1]; rfl
      simpa using this
    rw [hc0] at hc
    refine .fp _ _ (fun _ => v) (fun j x hx => ?_) (fun k hk => ?_) (fun j x hx => ?_)
    · match j, hx with
      | 0, hx => simp at hx; subst hx; rfl
    · have hk0 : k = 0 := by simp at hk; exact hk
      subst hk0
      exact ⟨hc, Old.wd0 W _ _ (cell_lt hc)⟩
    · match j, hx with
      | 0, hx => simp at hx; subst hx; exact hv2
  · cases hgl
end Go.Proofs.YtgeieafamocnhaaGreatDoor
