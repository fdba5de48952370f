/- Running the steps of a region as far as they can be. -/
import Derived.Test.YtdmjloieldhlnaaGreatDoorGC
import Derived.Laws.BitsLemmas
import Derived.Laws.Bits64
import Derived.Laws.BitsAllLaws
import Derived.OpenShut
import Derived.ChangeOld
import Derived.Carry
import Derived.SizedLaws
import Derived.ProofKit
namespace Go.Ab
open Go.RowKit
set_option linter.unusedVariables false
set_option linter.unusedSimpArgs false
end Go.Ab
namespace Go.Ab
open Go.RowKit
set_option linter.unusedVariables false
set_option linter.unusedSimpArgs false
section
variable {P : Program} {f : FuncId} {xs : List AV} {h : Heap} {nx : Nat} {Q : AE → Heap → Nat → Prop}
theorem AC.sub {Q1 : AE → Heap → Nat → Prop} (hc : AC P f xs h nx Q1) (hq : ∀ y h' n', nx ≤ n' → Q1 y h' n' → ∃ h'', (∀ b o, hget h'' b = some o → hget h' b = some o) ∧ Q y h'' n') : AC P f xs h nx Q := by
  refine ⟨hc.1, fun w0 K args hg ha => (hc.2 w0 K args hg ha).mono ?_⟩
  rintro e w' ⟨K', h', nx', y, rfl, hext, hgood, her, hq1⟩
  obtain ⟨h'', h1, h2⟩ := hq y h' nx' hext.le hq1
  exact ⟨K', h'', nx', y, rfl, hext, hgood.weaken (Nat.le_refl _) h1, her, h2⟩
theorem AC.pre {h0 : Heap} (hc : AC P f xs h0 nx Q) (hh : ∀ b o, hget h0 b = some o → hget h b = some o) : AC P f xs h nx Q :=
  ⟨hc.1, fun w0 K args hg ha => hc.2 w0 K args (hg.weaken (Nat.le_refl _) hh) ha⟩
theorem AC.live (h1 : ∀ args w, (callFunc f args).run P w = .ok (.enter f args) w) (hc : (∀ b o, hget h b = some o → b < nx) → AC P f xs h nx Q) : AC P f xs h nx Q :=
  ⟨h1, fun w0 K args hg ha => (hc fun b o hb => (hg.live b o hb).1).2 w0 K args hg ha⟩
def Pure (P : Program) (f : FuncId) (xs : List AV) (r : AV) : Prop := ∀ h nx, AC P f xs h nx fun y h' n' => y = .ret r ∧ h' = h ∧ nx ≤ n'
theorem Pure.of {r : AV} (hc : ∀ nx, AC P f xs [] nx fun y _ _ => y = .ret r) : Pure P f xs r := fun h nx =>
  (((hc nx).sub (Q := fun y h' n' => y = .ret r ∧ h' = []) fun y h' n' hle hy => ⟨[], fun b o hb => by simp [hget] at hb, hy, rfl⟩).frame h).sub
    fun y h' n' hle ⟨h1, e, _, _, hy, e1⟩ => ⟨h', fun b o hb => hb, hy, by rw [e, e1]; rfl, hle⟩
theorem AC.pure {R : AV → Prop} (hc : AC P f xs [] nx fun y _ _ => ∃ r, y = .ret r ∧ R r) (h : Heap) : AC P f xs h nx fun y h' n' => (∃ r, y = .ret r ∧ R r) ∧ h' = h ∧ nx ≤ n' :=
  ((hc.sub (Q := fun y h' n' => (∃ r, y = .ret r ∧ R r) ∧ h' = []) fun y h' n' hle hy => ⟨[], fun b o hb => by simp [hget] at hb, hy, rfl⟩).frame h).sub
    fun y h' n' hle ⟨h1, e, _, _, hy, e1⟩ => ⟨h', fun b o hb => hb, hy, by rw [e, e1]; rfl, hle⟩
end
theorem flat_at {sz : Nat} : ∀ {es : List (List AV)}, (∀ e ∈ es, e.length = sz) → ∀ (i : Nat) (e : List AV), es[i]? = some e → ∀ (j : Nat) (x : AV), e[j]? = some x → es.flatten[i * sz + j]? = some x
  | [], _, i, e, h, _, _, _ => by simp at h
  | e0 :: es, hs, i, e, h, j, x, hj => by
    have h0 := hs e0 List.mem_cons_self
    cases i with
    | zero =>
      simp only [List.getElem?_cons_zero, Option.some.injEq] at h; subst h
      have hjl : j < e0.length := (List.getElem?_eq_some_iff.1 hj).1
      simp only [Nat.zero_mul, Nat.zero_add, List.flatten_cons]
      rw [List.getElem?_append, if_pos hjl]; exact hj
    | succ i =>
      simp only [List.getElem?_cons_succ] at h
      have := flat_at (fun e he => hs e (List.mem_cons_of_mem _ he)) i e h j x hj
      simp only [List.flatten_cons]
      rw [List.getElem?_append, if_neg (by rw [h0, Nat.succ_mul]; omega)]
      rw [← this]; congr 1; rw [h0, Nat.succ_mul]; omega
theorem flat_len {sz : Nat} : ∀ {es : List (List AV)}, (∀ e ∈ es, e.length = sz) → es.flatten.length = es.length * sz
  | [], _ => by simp
  | e0 :: es, hs => by
    simp only [List.flatten_cons, List.length_append, List.length_cons, hs e0 List.mem_cons_self, flat_len fun e he => hs e (List.mem_cons_of_mem _ he), Nat.succ_mul]; omega
theorem os_ice {w0 : World} {K : Wd} {h : Heap} {nx b sz : Nat} {e : TypeId} {es : List (List AV)} {v : Value} (g : Good w0 K h nx) (hb : hget h b = some (.cells es.flatten)) (hs : ∀ x ∈ es, x.length = sz) (hv : VR K nx (.os b 0 e sz es.length) v) :
    VR (K.ice1 b) nx (.lst sz es) v := by
  have he := Ext.ice1 g hb
  obtain ⟨h1, h2, h3, ob, h4, h5⟩ := g.live b _ hb
  cases hv with
  | os _ _ _ _ _ a n cap hn hlt hc hcap hA hroom =>
    subst hn
    rcases Nat.eq_zero_or_pos cap with h0 | h0
    · have : es = [] := List.length_eq_zero_iff.1 (by omega)
      exact .lst0 sz es (some a) _ cap this (by rw [this]; rfl) (fun h => by cases h)
    · have ha := hA h0; subst ha
      obtain ⟨c, hrow, hsize⟩ := hroom
      rw [hrow] at h4; injection h4 with h4; subst h4
      cases h5 with
      | cells _ _ _ hcs hc1 hcc =>
        have hfl := flat_len hs
        rw [hfl] at hcs
        refine .lst sz es _ _ cap (fun k => c.getD k undef) rfl hc hcap (fun i x hx => hs x (List.mem_of_getElem? hx)) (fun i x hx j y hy => hc1 _ y (flat_at hs i x hx j y hy)) (fun k hk => ⟨?_, ?_⟩) fun i x hx j y hy => ?_
        · rw [add_eq]
          show K.w.cell? _ = _
          rw [cell_row hrow]
          have : 0 + k < c.size := by omega
          simp [this, Array.getD_eq_getD_getElem?]
          rw [Nat.zero_add] at this
          simp [this]
        · rw [add_eq]; exact .inr rfl
        · have hf := flat_at hs i x hx j y hy
          have hl := (List.getElem?_eq_some_iff.1 hf).1
          have hlc : i * sz + j < c.size := by omega
          refine (hcc _ y _ hf ?_).mono he
          simp [Array.getD_eq_getD_getElem?, hlc]
def Frz (h : Heap) (x : AV) (h' : Heap) (x' : AV) : Prop := ∀ (w0 : World) (K : Wd) (nx : Nat) (v : Value), Good w0 K h nx → VR K nx x v → ∃ K', K'.w = K.w ∧ Ext K nx K' nx ∧ Good w0 K' h' nx ∧ VR K' nx x' v
theorem Frz.refl (h : Heap) (x : AV) : Frz h x h x := fun w0 K nx v g hv => ⟨K, rfl, Ext.refl _ _, g, hv⟩
theorem Frz.os {h : Heap} {b sz n : Nat} {e : TypeId} {es : List (List AV)} (hb : hget h b = some (.cells es.flatten)) (hs : ∀ x ∈ es, x.length = sz) (hn : n = es.length) : Frz h (.os b 0 e sz n) (hdel h b) (.lst sz es) :=
  fun w0 K nx v g hv => by subst hn; exact ⟨K.ice1 b, rfl, Ext.ice1 g hb, g.ice1 hb, os_ice g hb hs hv⟩
theorem Frz.nilS (h : Heap) (sz : Nat) : Frz h .nilS h (.lst sz []) := fun w0 K nx v g hv => ⟨K, rfl, Ext.refl _ _, g, by cases hv; exact .lst0 _ _ _ _ _ rfl rfl fun _ => rfl⟩
theorem Frz.emp (h : Heap) (sz : Nat) : Frz h .emp h (.lst sz []) := fun w0 K nx v g hv => ⟨K, rfl, Ext.refl _ _, g, by cases hv; exact .lst0 _ _ _ _ _ rfl rfl fun _ => rfl⟩
theorem Frz.head {h h' : Heap} {x x' : AV} {r : List AV} (hf : Frz h x h' x') : Frz h (.tup (x :: r)) h' (.tup (x' :: r)) := fun w0 K nx v g hv => by
  cases hv with
  | tup _ c hs hc =>
    have h0 : 0 < c.size := by simp at hs; omega
    obtain ⟨K', h1, h2, h3, h4⟩ := hf w0 K nx c[0] g (hc 0 x _ rfl (Array.getElem?_eq_getElem h0))
    refine ⟨K', h1, h2, h3, .tup _ c (by simpa using hs) fun i y u hi hu => ?_⟩
    cases i with
    | zero =>
      simp only [List.getElem?_cons_zero, Option.some.injEq] at hi; subst hi
      rw [Array.getElem?_eq_getElem h0] at hu; injection hu with hu; subst hu; exact h4
    | succ i => exact (hc (i + 1) y u (by simpa using hi) hu).mono h2
section
variable {P : Program} {f : FuncId} {xs : List AV} {h : Heap} {nx : Nat} {Q : AE → Heap → Nat → Prop}
theorem AC.frz (hc : AC P f xs h nx fun y h' n' => match y with
    | .ret x => ∃ h'' x', Frz h' x h'' x' ∧ Q (.ret x') h'' n'
    | .panic x => Q (.panic x) h' n') : AC P f xs h nx Q := by
  refine ⟨hc.1, fun w0 K args hg ha => (hc.2 w0 K args hg ha).mono ?_⟩
  rintro e w' ⟨K', h', nx', y, rfl, hext, hgood, her, hq⟩
  cases y with
  | ret x =>
    obtain ⟨h'', x', hf, hq⟩ := hq
    cases e <;> simp only [AER] at her <;> first | exact her.elim | skip
    obtain ⟨K2, e1, e2, e3, e4⟩ := hf w0 K' nx' _ hgood her
    exact ⟨K2, h'', nx', .ret x', e1, hext.trans e2, e3, e4, hq⟩
  | panic x => exact ⟨K', h', nx', .panic x, rfl, hext, hgood, her, hq⟩
end
def Is (P : Program) (own : Nat → Nat → Bool) (f : FuncId) (N : Nat) (ac : ACode) (rs : List RV) : Prop :=
  ∃ fn, P.funcs[f]? = some fn ∧ fn.ntmps = N ∧ (fn.body.bind fun c => compile P own N c) = some ac ∧ compileRes P fn.results.toList = some rs ∧ ∀ args w, (callFunc f args).run P w = .ok (.enter f args) w
def Fin (rs : List RV) (Q : AE → Heap → Nat → Prop) (x : AX) (st : ASt) : Prop :=
  dmOk st.heap st.dm ∧ match x with
      | .normal => ∃ ys, rvsEv st.env (dels st.heap st.dm) rs = some ys ∧ Q (.ret (resV ys)) (dels st.heap st.dm) st.nx
      | .ret => ∃ ys, rvsEv st.env (dels st.heap st.dm) rs = some ys ∧ Q (.ret (resV ys)) (dels st.heap st.dm) st.nx
      | .panic v => Q (.panic v) (dels st.heap st.dm) st.nx
      | .exit _ => False
theorem AC.is {P : Program} {own : Nat → Nat → Bool} {f : FuncId} {N : Nat} {ac : ACode} {rs : List RV} {xs : List AV} {h : Heap} {nx : Nat} {Q : AE → Heap → Nat → Prop} (hi : Is P own f N ac rs) (hl : xs.length ≤ N)
    (hw : AW P own none N ac (Fin rs Q) { env := penv 0 xs, heap := h, nx := nx }) : AC P f xs h nx Q := by
  obtain ⟨fn, h1, h2, h3, h4, h5⟩ := hi
  obtain ⟨c, hb, hc⟩ := Option.bind_eq_some_iff.1 h3
  exact AC_body h1 hb h2 h5 hc h4 hl hw
theorem Fin.ret {rs : List RV} {Q : AE → Heap → Nat → Prop} {st : ASt} {ys : List AV} (hd : st.dm = []) (hy : rvsEv st.env st.heap rs = some ys) (hq : Q (.ret (resV ys)) st.heap st.nx) : Fin rs Q .ret st := by
  unfold Fin
  rw [hd]
  exact ⟨trivial, ys, hy, hq⟩
theorem AW.ice {P : Program} {own : Nat → Nat → Bool} {ro : Option Nat} {N : Nat} {Q : AX → ASt → Prop} {st : ASt} {ac : ACode} {t : Tmp} {x x' : AV} {h' : Heap} (ht : eget st.env t = some x) (hf : Frz st.heap x h' x')
    (h : AW P own ro N ac Q { st with env := (t, x') :: st.env, heap := h' }) : AW P own ro N ac Q st := by
  intro c hc w0 K a hs
  obtain ⟨v, h1, h2⟩ := hs.env t x ht
  obtain ⟨K', e1, e2, e3, e4⟩ := hf w0 K st.nx v hs.good h2
  have hs' : StR w0 N K' { st with env := (t, x') :: st.env, heap := h' } a := by
    refine ⟨e3, fun u y hy => ?_, hs.size, by rw [hs.defers]; exact (marks_ext e2 hs.dm).symm, hs.dm⟩
    rw [eget_cons] at hy
    split at hy
    · rename_i e; subst e
      injection hy with hy; subst hy
      exact ⟨v, h1, e4⟩
    · obtain ⟨u', h3, h4⟩ := hs.env u y hy
      exact ⟨u', h3, h4.mono e2⟩
  have := h c hc w0 K' a hs'
  rw [e1] at this
  exact wpIn_mono this fun e a w hp => hp.of_ext e2
end Go.Ab
namespace Go.Ab
open Go.RowKit
set_option linter.unusedVariables false
set_option linter.unusedSimpArgs false
theorem w64 {n : Int} (h0 : -9223372036854775808 ≤ n) (h1 : n < 9223372036854775808) : IntKind.i64.wrap n = n := by rw [IntKind.wrap_i64]; omega
theorem wu64 {n : Int} (h0 : 0 ≤ n) (h1 : n < 18446744073709551616) : IntKind.u64.wrap n = n := by rw [IntKind.wrap_u64]; omega
variable (k : IntKind) (a b : Int)
theorem b_add : binA .add (.int k a) (.int k b) = some (.int k (k.wrap (a + b))) := by simp [binA, numA]
theorem b_sub : binA .sub (.int k a) (.int k b) = some (.int k (k.wrap (a - b))) := by simp [binA, numA]
theorem b_mul : binA .mul (.int k a) (.int k b) = some (.int k (k.wrap (a * b))) := by simp [binA, numA]
theorem b_quo (h : b ≠ 0) : binA .quo (.int k a) (.int k b) = some (.int k (k.wrap (a.tdiv b))) := by simp [binA, numA, h]
theorem b_eql : binA .eql (.int k a) (.int k b) = some (.bool (decide (a = b))) := by simp [binA, numA, cmpA]
theorem b_neq : binA .neq (.int k a) (.int k b) = some (.bool (!decide (a = b))) := by simp [binA, numA, cmpA]
theorem b_lss : binA .lss (.int k a) (.int k b) = some (.bool (decide (a < b))) := by simp [binA, numA, cmpA]
theorem b_leq : binA .leq (.int k a) (.int k b) = some (.bool (decide (a ≤ b))) := by simp [binA, numA, cmpA]
theorem b_gtr : binA .gtr (.int k a) (.int k b) = some (.bool (decide (b < a))) := by simp [binA, numA, cmpA]
theorem b_geq : binA .geq (.int k a) (.int k b) = some (.bool (decide (b ≤ a))) := by simp [binA, numA, cmpA]
theorem b_and : binA .and (.int k a) (.int k b) = (bitsA .and k a b).map (.int k) := by simp [binA, numA]
theorem b_shr (k' : IntKind) (h : 0 ≤ b) : binA .shr (.int k a) (.int k' b) = some (.int k (a.fdiv (2 ^ (min b.toNat k.bits)))) := by
  have : ¬ b < 0 := by omega
  simp [binA, shA, this]
theorem bt1 : (true == true) = true := rfl
theorem bt2 : (true == false) = false := rfl
theorem bt3 : (false == true) = false := rfl
theorem bt4 : (false == false) = true := rfl
theorem idxA_lst {sz : Nat} {es : List (List AV)} {n : Nat} {e : List AV} (h : es[n]? = some e) : idxA sz (.lst sz es) (n : Int) = some (.fp e) := by simp [idxA, h]
theorem idxA_map {α : Type} {f : α → List AV} {sz : Nat} {l : List α} {n : Nat} {r : α} (h : l[n]? = some r) : idxA sz (.lst sz (l.map f)) (n : Int) = some (.fp (f r)) := idxA_lst (by simp [h])
theorem ptr_fp (h : Heap) (cs : List AV) : ptrCells h (.fp cs) = some cs := rfl
theorem rel_fp (h : Heap) (sz : Nat) (ag : Bool) (cs : List AV) : reload h sz ag (.fp cs) = takeV sz ag cs := rfl
theorem take1 (sz : Nat) (x : AV) (r : List AV) : takeV sz false (x :: r) = some x := rfl
theorem len_map {α : Type} (f : α → List AV) (sz : Nat) (l : List α) : lenA (.lst sz (l.map f)) = some l.length := by simp [lenA]
theorem ofV_int : ofV (.int k a) = some (.int k a) := rfl
theorem ofV_str (s : ByteArray) : ofV (.string s) = some (.str s.data.toList) := rfl
theorem ofV_nilS : ofV (.slice none 0 0) = some .nilS := rfl
theorem ofV_nilP : ofV (.pointer none) = some .nilP := rfl
theorem ofV_nilM : ofV (.map none) = some .nilM := rfl
theorem ofV_nilF : ofV .nilFunc = some .nilF := rfl
theorem ofV_nilI : ofV .nilIface = some .nilI := rfl
theorem ofV_bool (c : Bool) : ofV (.bool c) = some (.bool c) := rfl
end Go.Ab
namespace Go.Ab
open Go.RowKit
set_option linter.unusedVariables false
set_option linter.unusedSimpArgs false
theorem append2_sound {P : Program} {w0 : World} {K : Wd} {h : Heap} {nx : Nat} (g : Good w0 K h nx) {t ty e : TypeId} {i : TypeInfo} {z : Value} (ht : P.underlying t = some (.slice e)) (hi : P.info? e = some i) (hz : i.zero = some z)
    (hzs : z.cells.size = i.size) (hpos : 0 < i.size) {b off n : Nat} {cs new : List AV} {u v : Value} (hb : hget h b = some (.cells cs)) (hcl : cs.length = off + n * i.size) (hby : (n + 1) * i.bytes ≤ 140737488355328) (hmx : n + 1 ≤ maxLen)
    (hn : new.length = i.size) (hu : VR K nx (.os b off e i.size n) u) (hv : VR K nx (.lst i.size [new]) v) :
    ∃ K' y, (Builtin.append_ #[t, t] ty #[u, v]).run P K.w = .ok y K'.w ∧
      ((Ext K nx K' nx ∧ Good w0 K' (hset h b (.cells (cs ++ new))) nx ∧ VR K' nx (.os b off e i.size (n + 1)) y) ∨
       (Ext K nx K' (nx + 1) ∧ Good w0 K' ((nx, .cells (cs.drop off ++ new)) :: hdel h b) (nx + 1) ∧ VR K' (nx + 1) (.os nx 0 e i.size (n + 1)) y)) := by
  obtain ⟨B, c', nv, rfl, hmc, hmm, hcr, hnl, hcell, _⟩ := sliceCells_sound (x := .lst i.size [new]) (s := i.size) (m := 1) (cs := new) g (by simp [sliceCells]) (by simp [slSz]) hv
  have hnvl : nv.length = 1 * i.size := by rw [hcr.len, hnl]
  obtain ⟨ax, rfl, hc⟩ := hcell (by omega)
  cases hu with
  | os _ _ _ _ _ a _ cap hn' hlt hnc hcap hA hroom =>
    subst hn'
    obtain ⟨c, hrow, hsize⟩ := hroom
    obtain ⟨l1, l2, l3, ob, l4, l5⟩ := g.live b _ hb
    rw [hrow] at l4; injection l4 with l4; subst l4
    cases l5 with
    | cells _ _ _ hs h1 hcc =>
      rename_i n
      have hcr0 : CR K nx cs (c.toList.take cs.length) := ⟨by simp; omega, h1, fun i x v hx hv => by
        have hi : i < cs.length := (List.getElem?_eq_some_iff.1 hx).1
        exact hcc i x v hx (by simpa [List.getElem?_take, hi] using hv)⟩
      by_cases hroom2 : n + 1 ≤ cap
      · have ha := hA (by omega); subst ha
        have hmul : (n + 1) * i.size ≤ cap * i.size := Nat.mul_le_mul_right _ hroom2
        rw [Nat.add_mul] at hmul
        obtain ⟨K', hst, hext, hg⟩ := write_sound2 (P := P) g hb (off := cs.length) (xs := new) (Nat.le_refl _) (fun c2 e2 h2 => by
          rw [hrow] at h2; injection h2 with h2; injection h2 with h2; subst h2; omega) hcr
        have hf := run_firstCells_some (P := P) K.w i.size 1 ax 1 c' nv hnvl hc
        have hspl : splice cs cs.length new = cs ++ new := by simp [splice]
        rw [hspl] at hg
        refine ⟨K', .slice (some ⟨K.m b, off, none⟩) (n + 1) cap, ?_, .inl ⟨hext, hg, ?_⟩⟩
        · rw [hcl] at hst
          simp [Builtin.append_, run_underlying ht, sizeOf, typeInfo, hi, Builtin.lenOf, hroom2, hf, Addr.add_lit, hst]
        · exact VR.mono hext (.os b off e i.size (n + 1) _ (n + 1) cap rfl hlt hroom2 hcap (fun _ => rfl) ⟨c, hrow, hsize⟩)
      · have hlo : ((c.toList.take cs.length).drop off).length = n * i.size := by simp; omega
        have hold : ∀ (j : Nat) (v : Value), ((c.toList.take cs.length).drop off)[j]? = some v → K.w.cell? (a.add j) = some v := by
          intro j v hv
          rcases Nat.eq_zero_or_pos cap with h0 | h0
          · have : ((c.toList.take cs.length).drop off)[j]? = none := by
              apply List.getElem?_eq_none
              rw [hlo]
              have : n = 0 := by omega
              rw [this]; omega
            rw [this] at hv; cases hv
          · have ha := hA h0; subst ha
            rw [add_eq, cell_row hrow]
            rw [List.getElem?_drop, List.getElem?_take] at hv
            split at hv
            · simpa using hv
            · cases hv
        have h63 : n + 1 ≤ 9223372036854775807 := by simp only [maxLen] at hmx; omega
        have hge := grownCap_ge K.w (n + 1) cap e
        have hcm := grownCap_le_maxLen K.w (n + 1) cap e hmx
        obtain ⟨cap2, hcapd⟩ : ∃ cap2, cap2 = grownCap K.w (n + 1) cap e := ⟨_, rfl⟩
        rw [← hcapd] at hge hcm
        have hrun := run_append_grow K.w t ty e i z ht hi hz a n cap _ hlo hold ax 1 c' nv hnvl hc (by omega) (by omega) (growslice_fits (by omega) hby)
        rw [← hcapd] at hrun
        obtain ⟨blk, hblk⟩ : ∃ blk, blk = ((c.toList.take cs.length).drop off).toArray ++ nv.toArray ++ Builtin.zeroCells z.cells (cap2 - (n + 1)) := ⟨_, rfl⟩
        rw [← hblk] at hrun
        have gw := g.weaken (h' := hdel h b) (Nat.le_refl nx) (fun k o hk => by rw [hget_hdel] at hk; split at hk; cases hk; exact hk)
        have gd : Good w0 { K with w := K.w.drew } (hdel h b) nx := gw.drew (K.w.drawn + 1)
        have ed : Ext K nx { K with w := K.w.drew } nx := Ext.of_heap rfl
        have hbs : blk.size = cap2 * i.size := by
          rw [hblk]; simp only [Array.size_append, List.size_toArray, size_zeroCells, hzs, hnvl, hlo, ← Nat.add_mul]
          congr 1; omega
        have hdl : (cs.drop off).length = n * i.size := by simp; omega
        have hlen : (cs.drop off ++ new).length ≤ blk.size := by
          rw [hbs, List.length_append, hdl, hn]
          have := Nat.mul_le_mul_right i.size hge
          rw [Nat.add_mul] at this; omega
        have hcrd := hcr0.drop off
        have htake : blk.toList.take (cs.drop off ++ new).length = (c.toList.take cs.length).drop off ++ nv := by
          rw [hblk]
          have hl0 : (cs.drop off ++ new).length = ((c.toList.take cs.length).drop off ++ nv).length := by rw [List.length_append, List.length_append, hcr.len, hcrd.len]
          rw [hl0]
          have e0 : ∀ (l r : List Value), List.take l.length (l ++ r) = l := fun l r => List.take_left
          rw [Array.toList_append, Array.toList_append]
          exact e0 _ _
        have gn := new_sound (K := { K with w := K.w.drew }) gd (cs := cs.drop off ++ new) (c := blk) hlen (by rw [htake]; exact (hcrd.append hcr).mono ed) e
        refine ⟨Wd.alloc { K with w := K.w.drew } nx (.cells blk e (0, 0)), _, hrun, .inr ⟨ed.trans (Ext.alloc gd _), gn, ?_⟩⟩
        refine .os nx 0 e i.size (n + 1) _ (n + 1) cap2 rfl (by omega) hge hcm (fun _ => by simp [Wd.alloc]) ⟨blk, ?_, by omega⟩
        have hmn : (Wd.alloc { K with w := K.w.drew } nx (.cells blk e (0, 0))).m nx = K.w.heap.size := by simp [Wd.alloc]
        rw [hmn]
        exact alloc_new K.w.drew _
def ap2 (s : AStep) (st : ASt) : Option ((AV × Heap × Nat) × (AV × Heap × Nat)) := match s.act with
  | .op (.app e sz bytes x y) => (match oev st.env x, oev st.env y with
    | some (.os b off e' sz' n), some (.lst sz2 [new]) => (match hget st.heap b with
      | some (.cells cs) => if e' = e ∧ sz' = sz ∧ sz2 = sz ∧ new.length = sz ∧ cs.length = off + n * sz ∧ (n + 1) * bytes ≤ 140737488355328 ∧ n + 1 ≤ maxLen then
          some ((.os b off e sz (n + 1), hset st.heap b (.cells (cs ++ new)), st.nx), (.os st.nx 0 e sz (n + 1), (st.nx, .cells (cs.drop off ++ new)) :: hdel st.heap b, st.nx + 1)) else none
      | _ => none)
    | _, _ => none)
  | _ => none
theorem app_is {P : Program} {own : Bool} {o : Oper} {e sz bytes : Nat} {x y : Operand} (hc : compileOp P own o = some (.app e sz bytes x y)) :
    ∃ (t : TypeId) (i : TypeInfo) (z : Value), o.op = .call { callee := .builtin .append, args := #[x, y], argTypes := #[t, t] } ∧ P.underlying t = some (.slice e) ∧ P.info? e = some i ∧ i.zero = some z ∧ z.cells.size = i.size ∧ 0 < i.size ∧ sz = i.size ∧ bytes = i.bytes := by
  have keq : ∀ n t a b, compileEq P n t a b ≠ some (.app e sz bytes x y) := by
    intro n t a b h
    unfold compileEq at h
    (repeat' split at h) <;> (try simp only [Option.map_eq_some_iff, Option.bind_eq_some_iff] at h) <;> first | (cases h; done) | skip
    all_goals first
      | (obtain ⟨_, _, h⟩ := h; cases h; done)
      | (obtain ⟨_, _, h⟩ := h; (repeat' split at h) <;> cases h)
  have key : ∀ c, o.op = .call c → compileCall P c = some (.app e sz bytes x y) → ∃ (t : TypeId) (i : TypeInfo) (z : Value), o.op = .call { callee := .builtin .append, args := #[x, y], argTypes := #[t, t] } ∧ P.underlying t = some (.slice e) ∧ P.info? e = some i ∧ i.zero = some z ∧ z.cells.size = i.size ∧ 0 < i.size ∧ sz = i.size ∧ bytes = i.bytes := by
    rintro ⟨callee, args, tys⟩ ho hc
    unfold compileCall at hc
    simp only at hc
    have harr : ∀ {α : Type} {xs : Array α} {l : List α}, xs.toList = l → xs = l.toArray := by
      intro α xs l h
      rw [← h]
    split at hc
    case h_4 h1 h2 =>
      rw [harr h1, harr h2] at ho
      split at hc
      · rename_i ht; subst ht
        split at hc
        · rename_i hu
          simp only [Option.bind_eq_some_iff] at hc
          obtain ⟨i, hi, z, hz, hc⟩ := hc
          split at hc
          · rename_i hh
            cases hc
            exact ⟨_, i, z, ho, hu, hi, hz, hh.1, hh.2, rfl, rfl⟩
          · cases hc
        · cases hc
      · split at hc
        · simp only [Option.bind_eq_some_iff] at hc
          obtain ⟨i, hi, z, hz, hc⟩ := hc
          split at hc <;> cases hc
        · cases hc
    all_goals (repeat' split at hc) <;> first | (cases hc; done) | (simp only [Option.map_eq_some_iff] at hc; obtain ⟨_, _, hc⟩ := hc; cases hc; done) | skip
  unfold compileOp at hc
  split at hc
  · rename_i hh
    cases hc
    unfold compileOp0 at hh
    split at hh
    all_goals first
      | (exact absurd hh (keq _ _ _ _))
      | (rename_i h0; exact key _ h0 hh)
      | ((repeat' split at hh) <;> (try simp only [Option.map_eq_some_iff, Option.bind_eq_some_iff] at hh) <;> first
          | (cases hh; done)
          | (obtain ⟨_, _, hh⟩ := hh; cases hh; done)
          | (obtain ⟨_, _, _, _, hh⟩ := hh; cases hh; done)
          | (obtain ⟨_, _, hh⟩ := hh; (repeat' split at hh) <;> first | (cases hh; done) | (obtain ⟨_, _, hh⟩ := hh; cases hh; done) | (obtain ⟨_, _, hh⟩ := hh; split at hh <;> cases hh)))
  · split at hc
    · cases hc
    · (repeat' split at hc) <;> cases hc
section
variable {P : Program} {own : Nat → Bool} {ro : Option Nat} {N : Nat} {Q : AX → ASt → Prop} {st : ASt}
theorem AWs_app2 {s : AStep} {ss : List AStep} {o1 o2 : AV × Heap × Nat} (hg : guardOk st.env s.guard = some true) (hap : ap2 s st = some (o1, o2))
    (h1 : AWs P own ro N ss Q { st with env := setE s.dst o1.1 st.env, heap := o1.2.1, nx := o1.2.2 }) (h2 : AWs P own ro N ss Q { st with env := setE s.dst o2.1 st.env, heap := o2.2.1, nx := o2.2.2 }) : AWs P own ro N (s :: ss) Q st := by
  obtain ⟨d, g, act⟩ := s
  cases act <;> simp only [ap2] at hap <;> first | (cases hap; done) | skip
  rename_i ao
  cases ao <;> simp only at hap <;> first | (cases hap; done) | skip
  rename_i e sz bytes x y
  split at hap <;> first | (cases hap; done) | skip
  rename_i b off e' sz' n sz2 new hx hy
  split at hap <;> first | (cases hap; done) | skip
  rename_i cs hb
  split at hap
  case isFalse => cases hap
  rename_i hcond
  cases hap
  obtain ⟨rfl, rfl, rfl, hnew, hcl, hby, hmx⟩ := hcond
  intro ops i os hc w0 K a hs
  obtain ⟨o, r, rfl, c1, c2, c3, c4, c5⟩ := inv_step hc
  have hw := wanted_of hs.env c2 hg
  have hop := act_op c3
  obtain ⟨t, ti, z, ho, ht, hi, hz, hzs, hpos, rfl, rfl⟩ := app_is hop
  obtain ⟨_, hnd⟩ := op_sound hop
  obtain ⟨K', v, hrun, hout⟩ := append2_sound (P := P) (ty := o.type) hs.good ht hi hz hzs hpos hb hcl hby hmx hnew (oev_sound hs.env hx) (oev_sound hs.env hy)
  have hrun' : (execOp a.eval o).run P K.w = .ok (.value v) K'.w := by simp [execOp, ho, resolve, invoke, builtin, hrun]
  simp only [wpListIn, hw, if_true, Oper.wpIn]
  refine ⟨fun f _ => trivial, ?_⟩
  rw [Oper.semAt_eq _ _ _ hnd, hrun']
  simp only [Oper.uponIn, c4]
  rcases hout with ⟨hext, hgood, hv⟩ | ⟨hext, hgood, hv⟩
  · have := h1 ops _ r c1 w0 K' _ (put_StR (st' := { st with env := setE d (.os b off e' ti.size (n + 1)) st.env, heap := hset st.heap b (.cells (cs ++ new)), nx := st.nx }) hs hext hgood c5 hv rfl rfl)
    exact wpListIn_mono (fun e a w hp => Post.of_ext hext hp) _ _ _ this
  · have := h2 ops _ r c1 w0 K' _ (put_StR (st' := { st with env := setE d (.os st.nx 0 e' ti.size (n + 1)) st.env, heap := (st.nx, .cells (cs.drop off ++ new)) :: hdel st.heap b, nx := st.nx + 1 }) hs hext hgood c5 hv rfl rfl)
    exact wpListIn_mono (fun e a w hp => Post.of_ext hext hp) _ _ _ this
end
end Go.Ab
namespace Go.Ab
open Go.RowKit
set_option linter.unusedVariables false
set_option linter.unusedSimpArgs false
def nxP (args : List Operand) (b : Nat) (st : ASt) (d : Option Tmp) (k : ASt → Prop) : Prop :=
  args = [nxM] ∧ ∃ (mb since last ck : Nat) (seen sts : List Nat) (es : List (AV × AV)), hget st.heap b = some (.mit mb since seen last) ∧ hget st.heap mb = some (.map es sts ck) ∧ (∀ s ∈ sts, s < since) ∧ since ≤ last ∧
    ((∀ s ∈ sts, s ∈ seen) → k { st with env := setE d (.tup [.bool false]) st.env }) ∧
    ∀ (i : Nat) (q x : AV) (s : Nat), es[i]? = some (q, x) → sts[i]? = some s → s ∉ seen → k { st with env := setE d (.tup [.bool true, q, x]) st.env, heap := hset st.heap b (.mit mb since (seen ++ [s]) ck) }
section
variable (P : Program) (own : Nat → Nat → Bool) (ro : Option Nat) (N : Nat)
def wpR (Q : AX → ASt → Prop) : List AStep → ASt → Prop
  | [], st => Q .normal st
  | s :: r, st => match guardOk st.env s.guard with
    | none => False
    | some c => (c = true → match s.act with
        | .op ao => (match opEv ao st.env st.heap st.nx with
          | some (.val x, h, n) => wpR Q r { st with env := setE s.dst x st.env, heap := h, nx := n }
          | some (.skip, h, n) => wpR Q r { st with env := dropE s.dst st.env, heap := h, nx := n }
          | none => (match ap2 s st with
            | some (o1, o2) => wpR Q r { st with env := setE s.dst o1.1 st.env, heap := o1.2.1, nx := o1.2.2 } ∧ wpR Q r { st with env := setE s.dst o2.1 st.env, heap := o2.2.1, nx := o2.2.2 }
            | none => False))
        | .call f args => (match oev st.env f, oevs st.env args with
          | some (.fn (.func fid) caps), some xs => AC P fid (xs ++ caps) st.heap st.nx fun y h' n' => match y with
            | .ret x => wpR Q r { st with env := setE s.dst x st.env, heap := h', nx := n' }
            | .panic x => Q (.panic x) { st with heap := h', nx := n' }
          | some (.bm (.func fid) fs caps), some xs => AC P fid (fs ++ (xs ++ caps)) st.heap st.nx fun y h' n' => match y with
            | .ret x => wpR Q r { st with env := setE s.dst x st.env, heap := h', nx := n' }
            | .panic x => Q (.panic x) { st with heap := h', nx := n' }
          | some (.yl b), some xs => AY P b xs st.heap st.nx fun y h' n' => match y with
            | .ret x => wpR Q r { st with env := setE s.dst x st.env, heap := h', nx := n' }
            | .panic x => Q (.panic x) { st with heap := h', nx := n' }
          | some (.op b 0), none => nxP args b st s.dst fun st' => wpR Q r st'
          | _, _ => False)
        | .callZ _ _ => False) ∧
      (c = false → wpR Q r { st with env := dropE s.dst st.env })
def wpD (Q : AX → ASt → Prop) : List DStep → Pend → ASt → Prop
  | [], _, st => Q .normal st
  | d :: r, pd, st => match guardOk st.env d.s.guard with
    | none => False
    | some c => (c = true → match d.s.act with
        | .op ao => if ao.quiet = true then (match opEv ao st.env st.heap st.nx with
            | some (.val x, _, _) => wpD Q r pd { st with env := setE d.s.dst x st.env }
            | _ => False)
          else match ao with
            | .load sz ag o => (match oev st.env o with
              | some p => (match reload st.heap sz ag p with
                | some x => wpD Q r (if p.isFp = true then pd else (d.i, sz, ag, p, x) :: pd) { st with env := setE d.s.dst x st.env }
                | none => False)
              | none => False)
            | ao => (match opEv ao st.env st.heap st.nx with
              | some (.val x, h', n') => pendOk h' (pendKeep d.late pd) ∧ wpD Q r (pendKeep d.late pd) { st with env := setE d.s.dst x st.env, heap := h', nx := n' }
              | some (.skip, h', n') => pendOk h' (pendKeep d.late pd) ∧ wpD Q r (pendKeep d.late pd) { st with env := dropE d.s.dst st.env, heap := h', nx := n' }
              | none => False)
        | .call f args => (match oev st.env f, oevs st.env args with
          | some (.fn (.func fid) caps), some xs => AC P fid (xs ++ caps) st.heap st.nx fun y h' n' => pendOk h' (pendKeep d.late pd) ∧ match y with
            | .ret x => wpD Q r (pendKeep d.late pd) { st with env := setE d.s.dst x st.env, heap := h', nx := n' }
            | .panic x => Q (.panic x) { env := [], heap := h', nx := n', dm := st.dm }
          | some (.bm (.func fid) fs caps), some xs => AC P fid (fs ++ (xs ++ caps)) st.heap st.nx fun y h' n' => pendOk h' (pendKeep d.late pd) ∧ match y with
            | .ret x => wpD Q r (pendKeep d.late pd) { st with env := setE d.s.dst x st.env, heap := h', nx := n' }
            | .panic x => Q (.panic x) { env := [], heap := h', nx := n', dm := st.dm }
          | _, _ => False)
        | .callZ f args => (match oev st.env f, oevs st.env args with
          | some (.fn (.func fid) caps), some xs => AC P fid (xs ++ caps) [] st.nx fun y h' n' => (∀ c o, hget st.heap c = some o → hget h' c = none) → pendOk (h' ++ st.heap) (pendKeep d.late pd) ∧ match y with
            | .ret x => wpD Q r (pendKeep d.late pd) { st with env := setE d.s.dst x st.env, heap := h' ++ st.heap, nx := n' }
            | .panic x => Q (.panic x) { env := [], heap := h' ++ st.heap, nx := n', dm := st.dm }
          | _, _ => False)) ∧
      (c = false → wpD Q r pd { st with env := dropE d.s.dst st.env })
def wpA : ACode → (AX → ASt → Prop) → ASt → Prop
  | .skip, Q, st => Q .normal st
  | .label, Q, st => Q .normal st
  | .exit i, Q, st => Q (.exit i) st
  | .ret, Q, st => Q .ret st
  | .region ss, Q, st => wpR P Q ss st
  | .dregion L, Q, st => wpD P Q L [] st
  | .tregion t, Q, st => ADT P Q t [] st
  | .seq a b, Q, st => wpA a (AX.then (fun s => wpA b Q s) Q) st
  | .cond o a b, Q, st => (match oev st.env o with
    | some (.bool c) => (c = true → wpA a Q st) ∧ (c = false → wpA b Q st)
    | _ => False)
  | .block i b, Q, st => wpA b (AX.inBlock i Q) st
  | .loop b, Q, st => AW P own ro N (.loop b) Q st
  | .rangeF g ps a b, Q, st => AW P own ro N (.rangeF g ps a b) Q st
end
section
variable {P : Program} {own : Nat → Nat → Bool} {ro : Option Nat} {N : Nat}
theorem AWs_of {own : Nat → Bool} {Q : AX → ASt → Prop} : ∀ (ss : List AStep) (st : ASt), wpR P Q ss st → AWs P own ro N ss Q st
  | [], st, h => AWs_nil h
  | s :: r, st, h => by
    unfold wpR at h
    split at h
    · exact h.elim
    · rename_i c hg
      cases c with
      | false => exact AWs_skip hg (AWs_of r _ (h.2 rfl))
      | true =>
        have h := h.1 rfl
        obtain ⟨d, g, act⟩ := s
        cases act with
        | op ao =>
          simp only at h hg
          split at h
          · rename_i hev; exact AWs_val hg hev (AWs_of r _ h)
          · rename_i hev; exact AWs_skp hg hev (AWs_of r _ h)
          · split at h
            · rename_i hap; exact AWs_app2 hg hap (AWs_of r _ h.1) (AWs_of r _ h.2)
            · exact h.elim
        | call f args =>
          simp only at h hg
          split at h
          · rename_i hf hx
            refine AWs_call hg hf hx (h.mono fun y h' n' hy => ?_)
            cases y with
            | ret x => exact AWs_of r _ hy
            | panic x => exact hy
          · rename_i hf hx
            refine AWs_callB hg hf hx (h.mono fun y h' n' hy => ?_)
            cases y with
            | ret x => exact AWs_of r _ hy
            | panic x => exact hy
          · rename_i hf hx
            refine AWs_yield hg hf hx (h.mono fun y h' n' hy => ?_)
            cases y with
            | ret x => exact AWs_of r _ hy
            | panic x => exact hy
          · rename_i hf hx
            obtain ⟨rfl, mb, since, last, ck, seen, sts, es, h1, h2, h3, h4, h5, h6⟩ := h
            exact AWs_next hg hf h1 h2 h3 h4 (fun ha => AWs_of r _ (h5 ha)) fun i q x s k1 k2 k3 => AWs_of r _ (h6 i q x s k1 k2 k3)
          · exact h.elim
        | callZ f args => exact h.elim
theorem AD_of {Q : AX → ASt → Prop} : ∀ (l : List DStep) (pd : Pend) (st : ASt), wpD P Q l pd st → AD P Q l pd st
  | [], pd, st, h => h
  | d :: r, pd, st, h => by
    unfold wpD at h
    unfold AD
    cases hg : guardOk st.env d.s.guard with
    | none => simp only [hg] at h
    | some c =>
      simp only [hg] at h
      cases c with
      | false => exact AD_of r _ _ (h.2 rfl)
      | true =>
        have h := h.1 rfl
        simp only
        cases hact : d.s.act with
        | call f args =>
          simp only [hact] at h
          simp only
          split at h
          · rename_i hf hx
            simp only [hf, hx]
            refine h.mono fun y h' n' hy => ⟨hy.1, ?_⟩
            cases y with
            | ret x => exact AD_of r _ _ hy.2
            | panic x => exact hy.2
          · rename_i hf hx
            simp only [hf, hx]
            refine h.mono fun y h' n' hy => ⟨hy.1, ?_⟩
            cases y with
            | ret x => exact AD_of r _ _ hy.2
            | panic x => exact hy.2
          · exact h.elim
        | callZ f args =>
          simp only [hact] at h
          simp only
          split at h
          · rename_i hf hx
            simp only [hf, hx]
            refine h.mono fun y h' n' hz hd => ?_
            have hy := hz hd
            refine ⟨hy.1, ?_⟩
            cases y with
            | ret x => exact AD_of r _ _ hy.2
            | panic x => exact hy.2
          · exact h.elim
        | op ao =>
          simp only [hact] at h
          simp only
          by_cases hq : ao.quiet = true
          · simp only [hq, if_true] at h ⊢
            split at h
            · rename_i hev
              simp only [hev]
              exact AD_of r _ _ h
            · exact h.elim
          · simp only [hq] at h ⊢
            simp only [Bool.false_eq_true, if_false] at h ⊢
            cases ao <;> simp only at h ⊢
            case load sz ag o =>
              split at h
              · rename_i p hp
                simp only [hp]
                split at h
                · rename_i x hx
                  simp only [hx]
                  exact AD_of r _ _ h
                · exact h.elim
              · exact h.elim
            all_goals
              first
              | (exact absurd rfl hq)
              | (split at h
                 · rename_i hev; simp only [hev]; exact ⟨h.1, AD_of r _ _ h.2⟩
                 · rename_i hev; simp only [hev]; exact ⟨h.1, AD_of r _ _ h.2⟩
                 · exact h.elim)
theorem AW_of' (hm : P.follows .mixedOrders = true) : ∀ (ac : ACode) (Q : AX → ASt → Prop) (st : ASt), wpA P own ro N ac Q st → AW P own ro N ac Q st := by
  intro ac
  induction ac with
  | skip => intro Q st h; exact AW_skip h
  | label => intro Q st h; exact AW_label h
  | exit i => intro Q st h; exact AW_exit h
  | ret => intro Q st h; exact AW_ret h
  | region ss => intro Q st h; exact AW_region fun id => AWs_of ss st h
  | dregion L => intro Q st h; exact AW_dregion hm (AD_of L [] st h)
  | tregion t => intro Q st h; exact AW_tregion hm h
  | seq a b iha ihb =>
    intro Q st h
    refine AW_seq fun K hK => iha _ _ ?_
    unfold wpA at h
    have : ∀ (x : AX) (s : ASt), AX.then (fun s => wpA P own ro N b Q s) Q x s → AX.then K Q x s := by
      intro x s hx
      cases x with
      | normal => exact hK s (ihb _ _ hx)
      | _ => exact hx
    exact wpA_mono this h
  | cond o a b iha ihb =>
    intro Q st h
    unfold wpA at h
    split at h
    · rename_i c hc
      exact AW_cond_split hc (fun e => iha _ _ (h.1 e)) (fun e => ihb _ _ (h.2 e))
    · exact h.elim
  | block i b ih => intro Q st h; exact AW_block (ih _ _ h)
  | loop b ih => intro Q st h; exact h
  | rangeF g ps a b iha ihb => intro Q st h; exact h
where
  wpA_mono {ac : ACode} {Q Q' : AX → ASt → Prop} {st : ASt} (hq : ∀ x s, Q x s → Q' x s) (h : wpA P own ro N ac Q st) : wpA P own ro N ac Q' st := by
    induction ac generalizing Q Q' st with
    | skip => exact hq _ _ h
    | label => exact hq _ _ h
    | exit i => exact hq _ _ h
    | ret => exact hq _ _ h
    | region ss => exact wpR_mono hq ss st h
    | dregion L => exact wpD_mono hq L [] st h
    | tregion t => exact ADT_mono hq t [] st h
    | seq a b iha ihb =>
      unfold wpA at h ⊢
      refine iha (fun x s hx => ?_) h
      cases x with
      | normal => exact ihb hq hx
      | _ => exact hq _ _ hx
    | cond o a b iha ihb =>
      unfold wpA at h ⊢
      split
      · rename_i c hc
        (try simp only [hc] at h)
        exact ⟨fun e => iha hq (h.1 e), fun e => ihb hq (h.2 e)⟩
      · rename_i hn
        split at h
        · rename_i c hc; exact absurd hc (hn c)
        · exact h
    | block i b ih =>
      unfold wpA at h ⊢
      refine ih (fun x s hx => ?_) h
      cases x with
      | exit j => simp only [AX.inBlock] at hx ⊢; split <;> rename_i e <;> simp only [e, if_true, if_false] at hx <;> exact hq _ _ hx
      | _ => exact hq _ _ hx
    | loop b ih => exact AW.mono h hq
    | rangeF g ps a b iha ihb => exact AW.mono h hq
  wpR_mono {Q Q' : AX → ASt → Prop} (hq : ∀ x s, Q x s → Q' x s) : ∀ (ss : List AStep) (st : ASt), wpR P Q ss st → wpR P Q' ss st
    | [], st, h => hq _ _ h
    | s :: r, st, h => by
      unfold wpR at h ⊢
      split at h
      · exact h.elim
      · rename_i c hg
        refine ⟨fun e => ?_, fun e => wpR_mono hq r _ (h.2 e)⟩
        have h := h.1 e
        cases hact : s.act with
        | op ao =>
          simp only [hact] at h ⊢
          split at h
          · rename_i hev; (try simp only [hev]); exact wpR_mono hq r _ h
          · rename_i hev; (try simp only [hev]); exact wpR_mono hq r _ h
          · split at h
            · rename_i hev _ _ _ hap; (try simp only [hev, hap]); exact ⟨wpR_mono hq r _ h.1, wpR_mono hq r _ h.2⟩
            · exact h.elim
        | call f args =>
          simp only [hact] at h ⊢
          split at h
          · rename_i hf hx
            (try simp only [hf, hx])
            refine h.mono fun y h' n' hy => ?_
            cases y with
            | ret x => exact wpR_mono hq r _ hy
            | panic x => exact hq _ _ hy
          · rename_i hf hx
            (try simp only [hf, hx])
            refine h.mono fun y h' n' hy => ?_
            cases y with
            | ret x => exact wpR_mono hq r _ hy
            | panic x => exact hq _ _ hy
          · rename_i hf hx
            (try simp only [hf, hx])
            refine h.mono fun y h' n' hy => ?_
            cases y with
            | ret x => exact wpR_mono hq r _ hy
            | panic x => exact hq _ _ hy
          · rename_i hf hx
            (try simp only [hf, hx])
            obtain ⟨e0, mb, since, last, ck, seen, sts, es, h1, h2, h3, h4, h5, h6⟩ := h
            exact ⟨e0, mb, since, last, ck, seen, sts, es, h1, h2, h3, h4, fun ha => wpR_mono hq r _ (h5 ha), fun i q x s k1 k2 k3 => wpR_mono hq r _ (h6 i q x s k1 k2 k3)⟩
          · exact h.elim
        | callZ f args => simp only [hact] at h
  wpD_mono {Q Q' : AX → ASt → Prop} (hq : ∀ x s, Q x s → Q' x s) : ∀ (l : List DStep) (pd : Pend) (st : ASt), wpD P Q l pd st → wpD P Q' l pd st
    | [], pd, st, h => hq _ _ h
    | d :: r, pd, st, h => by
      unfold wpD at h ⊢
      split at h
      · exact h.elim
      · rename_i c hg
        refine ⟨fun e => ?_, fun e => wpD_mono hq r _ _ (h.2 e)⟩
        have h := h.1 e
        cases hact : d.s.act with
        | call f args =>
          simp only [hact] at h ⊢
          split at h
          · rename_i hf hx
            (try simp only [hf, hx])
            refine h.mono fun y h' n' hy => ⟨hy.1, ?_⟩
            cases y with
            | ret x => exact wpD_mono hq r _ _ hy.2
            | panic x => exact hq _ _ hy.2
          · rename_i hf hx
            (try simp only [hf, hx])
            refine h.mono fun y h' n' hy => ⟨hy.1, ?_⟩
            cases y with
            | ret x => exact wpD_mono hq r _ _ hy.2
            | panic x => exact hq _ _ hy.2
          · exact h.elim
        | callZ f args =>
          simp only [hact] at h ⊢
          split at h
          · rename_i hf hx
            (try simp only [hf, hx])
            refine h.mono fun y h' n' hz hd => ?_
            have hy := hz hd
            refine ⟨hy.1, ?_⟩
            cases y with
            | ret x => exact wpD_mono hq r _ _ hy.2
            | panic x => exact hq _ _ hy.2
          · exact h.elim
        | op ao =>
          simp only [hact] at h ⊢
          by_cases hqt : ao.quiet = true
          · simp only [hqt, if_true] at h ⊢
            split at h
            · rename_i hev; (try simp only [hev]); exact wpD_mono hq r _ _ h
            · exact h.elim
          · simp only [hqt] at h ⊢
            simp only [Bool.false_eq_true, if_false] at h ⊢
            cases ao <;> simp only at h ⊢
            case load sz ag o =>
              split at h
              · rename_i p hp
                split at h
                · rename_i x hx
                  (try simp only [hp, hx])
                  exact wpD_mono hq r _ _ h
                · exact h.elim
              · exact h.elim
            all_goals
              first
              | (exact absurd rfl hqt)
              | (split at h
                 · rename_i hev; (try simp only [hev]); exact ⟨h.1, wpD_mono hq r _ _ h.2⟩
                 · rename_i hev; (try simp only [hev]); exact ⟨h.1, wpD_mono hq r _ _ h.2⟩
                 · exact h.elim)
end
theorem AW_of {P : Program} {own : Nat → Nat → Bool} {ro : Option Nat} {N : Nat} {ac : ACode} {Q : AX → ASt → Prop} {st : ASt} (hm : P.follows .mixedOrders = true) (h : wpA P own ro N ac Q st) : AW P own ro N ac Q st := AW_of' hm ac Q st h
theorem Pure.use {P : Program} {f : FuncId} {xs : List AV} {r : AV} {h : Heap} {nx : Nat} {Q : AE → Heap → Nat → Prop} (hp : Pure P f xs r) (hq : ∀ n', nx ≤ n' → Q (.ret r) h n') : AC P f xs h nx Q :=
  (hp h nx).mono fun y h' n' ⟨e1, e2, hle⟩ => by subst e1; subst e2; exact hq n' hle
end Go.Ab
namespace Go.Ab
open Go.RowKit
set_option linter.unusedVariables false
set_option linter.unusedSimpArgs false
inductive Fr where
  | seq (b : ACode)
  | blk (i : Nat)
section
variable (P : Program) (own : Nat → Nat → Bool) (ro : Option Nat) (N : Nat)
def post (Q : AX → ASt → Prop) : List Fr → AX → ASt → Prop
  | [] => Q
  | .seq b :: F => AX.then (fun s => wpA P own ro N b (post Q F) s) (post Q F)
  | .blk i :: F => AX.inBlock i (post Q F)
variable (F : List Fr) (Q : AX → ASt → Prop)
def go (c : ACode) (st : ASt) : Prop := wpA P own ro N c (post P own ro N Q F) st
def fin (x : AX) (st : ASt) : Prop := post P own ro N Q F x st
def cK (a b : ACode) (st : ASt) : Option AV → Prop
  | some (.bool c) => (c = true → go P own ro N F Q a st) ∧ (c = false → go P own ro N F Q b st)
  | _ => False
def rg (ss : List AStep) (st : ASt) : Prop := wpR P (post P own ro N Q F) ss st
def rK (s : AStep) (r : List AStep) (st : ASt) (y : AE) (h : Heap) (n : Nat) : Prop := match y with
  | .ret x => rg P own ro N F Q r { st with env := setE s.dst x st.env, heap := h, nx := n }
  | .panic x => fin P own ro N F Q (.panic x) { st with heap := h, nx := n }
def oK (s : AStep) (r : List AStep) (st : ASt) : Option (Out × Heap × Nat) → Prop
  | some (.val x, h, n) => rg P own ro N F Q r { st with env := setE s.dst x st.env, heap := h, nx := n }
  | some (.skip, h, n) => rg P own ro N F Q r { st with env := dropE s.dst st.env, heap := h, nx := n }
  | none => (match ap2 s st with
    | some (o1, o2) => rg P own ro N F Q r { st with env := setE s.dst o1.1 st.env, heap := o1.2.1, nx := o1.2.2 } ∧ rg P own ro N F Q r { st with env := setE s.dst o2.1 st.env, heap := o2.2.1, nx := o2.2.2 }
    | none => False)
def nK (s : AStep) (r : List AStep) (st : ASt) (b : Nat) : Prop := match s.act with
  | .call _ args => nxP args b st s.dst fun st' => rg P own ro N F Q r st'
  | _ => False
def fK (s : AStep) (r : List AStep) (st : ASt) : Option AV → Option (List AV) → Prop
  | some (.fn (.func fid) caps), some xs => AC P fid (xs ++ caps) st.heap st.nx (rK P own ro N F Q s r st)
  | some (.bm (.func fid) fs caps), some xs => AC P fid (fs ++ (xs ++ caps)) st.heap st.nx (rK P own ro N F Q s r st)
  | some (.yl b), some xs => AY P b xs st.heap st.nx (rK P own ro N F Q s r st)
  | some (.op b 0), none => nK P own ro N F Q s r st b
  | _, _ => False
def aK (s : AStep) (r : List AStep) (st : ASt) : AAct → Prop
  | .op ao => oK P own ro N F Q s r st (opEv ao st.env st.heap st.nx)
  | .call f args => fK P own ro N F Q s r st (oev st.env f) (oevs st.env args)
  | .callZ _ _ => False
def gK (s : AStep) (r : List AStep) (st : ASt) : Option Bool → Prop
  | none => False
  | some c => (c = true → aK P own ro N F Q s r st s.act) ∧ (c = false → rg P own ro N F Q r { st with env := dropE s.dst st.env })
theorem go_skip (st : ASt) : go P own ro N F Q .skip st = fin P own ro N F Q .normal st := rfl
theorem go_label (st : ASt) : go P own ro N F Q .label st = fin P own ro N F Q .normal st := rfl
theorem go_exit (i : Nat) (st : ASt) : go P own ro N F Q (.exit i) st = fin P own ro N F Q (.exit i) st := rfl
theorem go_ret (st : ASt) : go P own ro N F Q .ret st = fin P own ro N F Q .ret st := rfl
theorem go_seq (a b : ACode) (st : ASt) : go P own ro N F Q (.seq a b) st = go P own ro N (.seq b :: F) Q a st := rfl
theorem go_block (i : Nat) (b : ACode) (st : ASt) : go P own ro N F Q (.block i b) st = go P own ro N (.blk i :: F) Q b st := rfl
theorem go_cond (o : Operand) (a b : ACode) (st : ASt) : go P own ro N F Q (.cond o a b) st = cK P own ro N F Q a b st (oev st.env o) := by
  unfold go cK
  simp only [wpA]
  cases oev st.env o with
  | none => rfl
  | some v => cases v <;> rfl
theorem go_region (ss : List AStep) (st : ASt) : go P own ro N F Q (.region ss) st = rg P own ro N F Q ss st := rfl
theorem go_loop (b : ACode) (st : ASt) : go P own ro N F Q (.loop b) st = AW P own ro N (.loop b) (post P own ro N Q F) st := rfl
theorem fin_nil (x : AX) (st : ASt) : fin P own ro N [] Q x st = Q x st := rfl
theorem fin_seq_n (b : ACode) (st : ASt) : fin P own ro N (.seq b :: F) Q .normal st = go P own ro N F Q b st := rfl
theorem fin_seq_e (b : ACode) (i : Nat) (st : ASt) : fin P own ro N (.seq b :: F) Q (.exit i) st = fin P own ro N F Q (.exit i) st := rfl
theorem fin_seq_r (b : ACode) (st : ASt) : fin P own ro N (.seq b :: F) Q .ret st = fin P own ro N F Q .ret st := rfl
theorem fin_seq_p (b : ACode) (x : AV) (st : ASt) : fin P own ro N (.seq b :: F) Q (.panic x) st = fin P own ro N F Q (.panic x) st := rfl
theorem fin_blk_n (i : Nat) (st : ASt) : fin P own ro N (.blk i :: F) Q .normal st = fin P own ro N F Q .normal st := rfl
theorem fin_blk_e (i j : Nat) (st : ASt) : fin P own ro N (.blk i :: F) Q (.exit j) st = if j = i then fin P own ro N F Q .normal st else fin P own ro N F Q (.exit j) st := rfl
theorem fin_blk_r (i : Nat) (st : ASt) : fin P own ro N (.blk i :: F) Q .ret st = fin P own ro N F Q .ret st := rfl
theorem fin_blk_p (i : Nat) (x : AV) (st : ASt) : fin P own ro N (.blk i :: F) Q (.panic x) st = fin P own ro N F Q (.panic x) st := rfl
theorem post_fin (x : AX) (st : ASt) : post P own ro N Q F x st = fin P own ro N F Q x st := rfl
theorem rg_nil (st : ASt) : rg P own ro N F Q [] st = fin P own ro N F Q .normal st := rfl
theorem rg_cons (s : AStep) (r : List AStep) (st : ASt) : rg P own ro N F Q (s :: r) st = gK P own ro N F Q s r st (guardOk st.env s.guard) := by
  unfold rg gK
  rw [wpR]
  cases guardOk st.env s.guard with
  | none => rfl
  | some c =>
    obtain ⟨d, g, act⟩ := s
    cases act <;> rfl
variable (s : AStep) (r : List AStep) (st : ASt)
theorem gK_t : gK P own ro N F Q s r st (some true) = aK P own ro N F Q s r st s.act := by simp [gK]
theorem gK_f : gK P own ro N F Q s r st (some false) = rg P own ro N F Q r { st with env := dropE s.dst st.env } := by simp [gK]
theorem aK_op (ao : AOp) : aK P own ro N F Q s r st (.op ao) = oK P own ro N F Q s r st (opEv ao st.env st.heap st.nx) := rfl
theorem aK_call (f : Operand) (args : List Operand) : aK P own ro N F Q s r st (.call f args) = fK P own ro N F Q s r st (oev st.env f) (oevs st.env args) := rfl
theorem oK_val (x : AV) (h : Heap) (n : Nat) : oK P own ro N F Q s r st (some (.val x, h, n)) = rg P own ro N F Q r { st with env := setE s.dst x st.env, heap := h, nx := n } := rfl
theorem oK_skip (h : Heap) (n : Nat) : oK P own ro N F Q s r st (some (.skip, h, n)) = rg P own ro N F Q r { st with env := dropE s.dst st.env, heap := h, nx := n } := rfl
theorem fK_go (fid : FuncId) (caps xs : List AV) : fK P own ro N F Q s r st (some (.fn (.func fid) caps)) (some xs) = AC P fid (xs ++ caps) st.heap st.nx (rK P own ro N F Q s r st) := rfl
theorem fK_bm (fid : FuncId) (fs caps xs : List AV) : fK P own ro N F Q s r st (some (.bm (.func fid) fs caps)) (some xs) = AC P fid (fs ++ (xs ++ caps)) st.heap st.nx (rK P own ro N F Q s r st) := rfl
theorem fK_nx (b : Nat) : fK P own ro N F Q s r st (some (.op b 0)) none = nK P own ro N F Q s r st b := rfl
theorem nK_go (d : Option Tmp) (g : Option (Tmp × Bool)) (f : Operand) (args : List Operand) (b : Nat) : nK P own ro N F Q ⟨d, g, .call f args⟩ r st b = nxP args b st d fun st' => rg P own ro N F Q r st' := rfl
theorem rK_ret (x : AV) (h : Heap) (n : Nat) : rK P own ro N F Q s r st (.ret x) h n = rg P own ro N F Q r { st with env := setE s.dst x st.env, heap := h, nx := n } := rfl
theorem cK_t (a b : ACode) : cK P own ro N F Q a b st (some (.bool true)) = go P own ro N F Q a st := by simp [cK]
theorem cK_f (a b : ACode) : cK P own ro N F Q a b st (some (.bool false)) = go P own ro N F Q b st := by simp [cK]
def dg (l : List DStep) (pd : Pend) (st : ASt) : Prop := wpD P (post P own ro N Q F) l pd st
def dOK (d : DStep) (r : List DStep) (pd : Pend) (st : ASt) : Option (Out × Heap × Nat) → Prop
  | some (.val x, h, n) => pendOk h (pendKeep d.late pd) ∧ dg P own ro N F Q r (pendKeep d.late pd) { st with env := setE d.s.dst x st.env, heap := h, nx := n }
  | some (.skip, h, n) => pendOk h (pendKeep d.late pd) ∧ dg P own ro N F Q r (pendKeep d.late pd) { st with env := dropE d.s.dst st.env, heap := h, nx := n }
  | none => False
def dQK (d : DStep) (r : List DStep) (pd : Pend) (st : ASt) : Option (Out × Heap × Nat) → Prop
  | some (.val x, _, _) => dg P own ro N F Q r pd { st with env := setE d.s.dst x st.env }
  | _ => False
def dLK2 (d : DStep) (r : List DStep) (pd : Pend) (st : ASt) (sz : Nat) (ag : Bool) (p : AV) : Option AV → Prop
  | some x => dg P own ro N F Q r (if p.isFp = true then pd else (d.i, sz, ag, p, x) :: pd) { st with env := setE d.s.dst x st.env }
  | none => False
def dLK (d : DStep) (r : List DStep) (pd : Pend) (st : ASt) (sz : Nat) (ag : Bool) : Option AV → Prop
  | some p => dLK2 P own ro N F Q d r pd st sz ag p (reload st.heap sz ag p)
  | none => False
def dRK (d : DStep) (r : List DStep) (pd : Pend) (st : ASt) (y : AE) (h : Heap) (n : Nat) : Prop := pendOk h (pendKeep d.late pd) ∧ match y with
  | .ret x => dg P own ro N F Q r (pendKeep d.late pd) { st with env := setE d.s.dst x st.env, heap := h, nx := n }
  | .panic x => fin P own ro N F Q (.panic x) { env := [], heap := h, nx := n, dm := st.dm }
def dFK (d : DStep) (r : List DStep) (pd : Pend) (st : ASt) : Option AV → Option (List AV) → Prop
  | some (.fn (.func fid) caps), some xs => AC P fid (xs ++ caps) st.heap st.nx (dRK P own ro N F Q d r pd st)
  | some (.bm (.func fid) fs caps), some xs => AC P fid (fs ++ (xs ++ caps)) st.heap st.nx (dRK P own ro N F Q d r pd st)
  | _, _ => False
def dRZ (d : DStep) (r : List DStep) (pd : Pend) (st : ASt) (y : AE) (h : Heap) (n : Nat) : Prop := (∀ c o, hget st.heap c = some o → hget h c = none) → pendOk (h ++ st.heap) (pendKeep d.late pd) ∧ match y with
  | .ret x => dg P own ro N F Q r (pendKeep d.late pd) { st with env := setE d.s.dst x st.env, heap := h ++ st.heap, nx := n }
  | .panic x => fin P own ro N F Q (.panic x) { env := [], heap := h ++ st.heap, nx := n, dm := st.dm }
def dZK (d : DStep) (r : List DStep) (pd : Pend) (st : ASt) : Option AV → Option (List AV) → Prop
  | some (.fn (.func fid) caps), some xs => AC P fid (xs ++ caps) [] st.nx (dRZ P own ro N F Q d r pd st)
  | _, _ => False
def dAK (d : DStep) (r : List DStep) (pd : Pend) (st : ASt) : AAct → Prop
  | .op (.load sz ag o) => dLK P own ro N F Q d r pd st sz ag (oev st.env o)
  | .op ao => if ao.quiet = true then dQK P own ro N F Q d r pd st (opEv ao st.env st.heap st.nx) else dOK P own ro N F Q d r pd st (opEv ao st.env st.heap st.nx)
  | .call f args => dFK P own ro N F Q d r pd st (oev st.env f) (oevs st.env args)
  | .callZ f args => dZK P own ro N F Q d r pd st (oev st.env f) (oevs st.env args)
def dGK (d : DStep) (r : List DStep) (pd : Pend) (st : ASt) : Option Bool → Prop
  | none => False
  | some c => (c = true → dAK P own ro N F Q d r pd st d.s.act) ∧ (c = false → dg P own ro N F Q r pd { st with env := dropE d.s.dst st.env })
theorem go_dregion (L : List DStep) (st : ASt) : go P own ro N F Q (.dregion L) st = dg P own ro N F Q L [] st := rfl
theorem dg_nil (pd : Pend) (st : ASt) : dg P own ro N F Q [] pd st = fin P own ro N F Q .normal st := rfl
theorem dg_cons (d : DStep) (r : List DStep) (pd : Pend) (st : ASt) : dg P own ro N F Q (d :: r) pd st = dGK P own ro N F Q d r pd st (guardOk st.env d.s.guard) := by
  unfold dg dGK
  rw [wpD]
  cases guardOk st.env d.s.guard with
  | none => rfl
  | some c =>
    simp only
    congr 1
    apply propext
    refine imp_congr_right fun _ => ?_
    cases hact : d.s.act with
    | op ao =>
      unfold dAK
      by_cases hq : ao.quiet = true
      · simp only [hq, if_true]
        cases ao <;> first | (simp [AOp.quiet] at hq; done) | skip
        all_goals
          simp only [dQK]
          try rw [if_pos hq]
          generalize opEv _ st.env st.heap st.nx = o
          rcases o with _ | ⟨o, h, n⟩
          · exact Iff.rfl
          · cases o <;> exact Iff.rfl
      · simp only [hq]
        simp only [Bool.false_eq_true, if_false]
        cases ao
        case load sz ag o =>
          simp only [dLK, dLK2]
          cases oev st.env o with
          | none => exact Iff.rfl
          | some p =>
            simp only
            cases reload st.heap sz ag p with
            | none => exact Iff.rfl
            | some x => exact Iff.rfl
        all_goals first | (exact absurd rfl hq) | skip
        all_goals
          simp only [dOK]
          try rw [if_neg hq]
          generalize opEv _ st.env st.heap st.nx = o
          rcases o with _ | ⟨o, h, n⟩
          · exact Iff.rfl
          · cases o <;> exact Iff.rfl
    | call f args =>
      simp only [dAK, dFK]
      cases oev st.env f with
      | none => exact Iff.rfl
      | some v =>
        cases v <;> exact Iff.rfl
    | callZ f args =>
      simp only [dAK, dZK]
      cases oev st.env f with
      | none => exact Iff.rfl
      | some v =>
        cases v <;> exact Iff.rfl
variable (d : DStep) (r : List DStep) (pd : Pend)
theorem dGK_t : dGK P own ro N F Q d r pd st (some true) = dAK P own ro N F Q d r pd st d.s.act := by simp [dGK]
theorem dGK_f : dGK P own ro N F Q d r pd st (some false) = dg P own ro N F Q r pd { st with env := dropE d.s.dst st.env } := by simp [dGK]
def dS (ao : AOp) : Bool → Bool → Prop
  | true, _ => dQK P own ro N F Q d r pd st (opEv ao st.env st.heap st.nx)
  | false, true => (match ao with
    | .load sz ag o => dLK P own ro N F Q d r pd st sz ag (oev st.env o)
    | _ => False)
  | false, false => dOK P own ro N F Q d r pd st (opEv ao st.env st.heap st.nx)
theorem dAK_op (ao : AOp) : dAK P own ro N F Q d r pd st (.op ao) = dS P own ro N F Q st d r pd ao ao.quiet ao.isLoad := by
  cases ao
  case m o => cases o <;> rfl
  all_goals rfl
theorem dS_q (ao : AOp) (b : Bool) : dS P own ro N F Q st d r pd ao true b = dQK P own ro N F Q d r pd st (opEv ao st.env st.heap st.nx) := rfl
theorem dS_l (sz : Nat) (ag : Bool) (o : Operand) : dS P own ro N F Q st d r pd (.load sz ag o) false true = dLK P own ro N F Q d r pd st sz ag (oev st.env o) := rfl
theorem dS_w (ao : AOp) : dS P own ro N F Q st d r pd ao false false = dOK P own ro N F Q d r pd st (opEv ao st.env st.heap st.nx) := rfl
theorem dAK_call (f : Operand) (args : List Operand) : dAK P own ro N F Q d r pd st (.call f args) = dFK P own ro N F Q d r pd st (oev st.env f) (oevs st.env args) := rfl
theorem dAK_callZ (f : Operand) (args : List Operand) : dAK P own ro N F Q d r pd st (.callZ f args) = dZK P own ro N F Q d r pd st (oev st.env f) (oevs st.env args) := rfl
theorem dZK_go (fid : FuncId) (caps xs : List AV) : dZK P own ro N F Q d r pd st (some (.fn (.func fid) caps)) (some xs) = AC P fid (xs ++ caps) [] st.nx (dRZ P own ro N F Q d r pd st) := rfl
theorem dRZ_ret (x : AV) (h : Heap) (n : Nat) : dRZ P own ro N F Q d r pd st (.ret x) h n = ((∀ c o, hget st.heap c = some o → hget h c = none) → pendOk (h ++ st.heap) (pendKeep d.late pd) ∧ dg P own ro N F Q r (pendKeep d.late pd) { st with env := setE d.s.dst x st.env, heap := h ++ st.heap, nx := n }) := rfl
theorem dLK_go (sz : Nat) (ag : Bool) (p : AV) : dLK P own ro N F Q d r pd st sz ag (some p) = dLK2 P own ro N F Q d r pd st sz ag p (reload st.heap sz ag p) := rfl
theorem dLK2_fp (sz : Nat) (ag : Bool) (cs : List AV) (x : AV) : dLK2 P own ro N F Q d r pd st sz ag (.fp cs) (some x) = dg P own ro N F Q r pd { st with env := setE d.s.dst x st.env } := rfl
theorem dLK2_op (sz : Nat) (ag : Bool) (b o : Nat) (x : AV) : dLK2 P own ro N F Q d r pd st sz ag (.op b o) (some x) = dg P own ro N F Q r ((d.i, sz, ag, .op b o, x) :: pd) { st with env := setE d.s.dst x st.env } := rfl
theorem dQK_val (x : AV) (h : Heap) (n : Nat) : dQK P own ro N F Q d r pd st (some (.val x, h, n)) = dg P own ro N F Q r pd { st with env := setE d.s.dst x st.env } := rfl
theorem dOK_val (x : AV) (h : Heap) (n : Nat) : dOK P own ro N F Q d r pd st (some (.val x, h, n)) = (pendOk h (pendKeep d.late pd) ∧ dg P own ro N F Q r (pendKeep d.late pd) { st with env := setE d.s.dst x st.env, heap := h, nx := n }) := rfl
theorem dOK_skip (h : Heap) (n : Nat) : dOK P own ro N F Q d r pd st (some (.skip, h, n)) = (pendOk h (pendKeep d.late pd) ∧ dg P own ro N F Q r (pendKeep d.late pd) { st with env := dropE d.s.dst st.env, heap := h, nx := n }) := rfl
theorem dFK_bm (fid : FuncId) (fs caps xs : List AV) : dFK P own ro N F Q d r pd st (some (.bm (.func fid) fs caps)) (some xs) = AC P fid (fs ++ (xs ++ caps)) st.heap st.nx (dRK P own ro N F Q d r pd st) := rfl
theorem dFK_go (fid : FuncId) (caps xs : List AV) : dFK P own ro N F Q d r pd st (some (.fn (.func fid) caps)) (some xs) = AC P fid (xs ++ caps) st.heap st.nx (dRK P own ro N F Q d r pd st) := rfl
theorem dRK_ret (x : AV) (h : Heap) (n : Nat) : dRK P own ro N F Q d r pd st (.ret x) h n = (pendOk h (pendKeep d.late pd) ∧ dg P own ro N F Q r (pendKeep d.late pd) { st with env := setE d.s.dst x st.env, heap := h, nx := n }) := rfl
end
section
variable {P : Program} {own : Nat → Nat → Bool} {ro : Option Nat} {N : Nat} {F : List Fr} {Q : AX → ASt → Prop}
theorem AW_go {ac : ACode} {st : ASt} (hm : P.follows .mixedOrders = true) (h : go P own ro N [] Q ac st) : AW P own ro N ac Q st := AW_of hm h
theorem go_rounds {b : ACode} {st : ASt} (I : Nat → ASt → Prop) {n : Nat} (hm : P.follows .mixedOrders = true) (h0 : I n st)
    (round : ∀ n s, I n s → go P own ro N [] (AX.then (fun s' => ∃ m, m < n ∧ I m s') (post P own ro N Q F)) b s) : AW P own ro N (.loop b) (post P own ro N Q F) st :=
  AW_loop I h0 fun n s hi => AW_go hm (round n s hi)
theorem AC.go {P : Program} {own : Nat → Nat → Bool} {f : FuncId} {N : Nat} {ac : ACode} {rs : List RV} {xs : List AV} {h : Heap} {nx : Nat} {Q : AE → Heap → Nat → Prop} (hm : P.follows .mixedOrders = true) (hi : Is P own f N ac rs) (hl : xs.length ≤ N)
    (hw : go P own none N [] (Fin rs Q) ac { env := penv 0 xs, heap := h, nx := nx }) : AC P f xs h nx Q := AC.is hi hl (AW_go hm hw)
end
theorem then_n (K : ASt → Prop) (Q : AX → ASt → Prop) (st : ASt) : AX.then K Q .normal st = K st := rfl
theorem then_e (K : ASt → Prop) (Q : AX → ASt → Prop) (i : Nat) (st : ASt) : AX.then K Q (.exit i) st = Q (.exit i) st := rfl
theorem then_r (K : ASt → Prop) (Q : AX → ASt → Prop) (st : ASt) : AX.then K Q .ret st = Q .ret st := rfl
theorem then_p (K : ASt → Prop) (Q : AX → ASt → Prop) (x : AV) (st : ASt) : AX.then K Q (.panic x) st = Q (.panic x) st := rfl
theorem Fin_ret (rs : List RV) (Q : AE → Heap → Nat → Prop) (env : Env) (h : Heap) (n : Nat) : Fin rs Q .ret ⟨env, h, n, []⟩ = (∃ ys, rvsEv env h rs = some ys ∧ Q (.ret (resV ys)) h n) := by simp [Fin, dmOk, dels]
theorem Fin_normal (rs : List RV) (Q : AE → Heap → Nat → Prop) (env : Env) (h : Heap) (n : Nat) : Fin rs Q .normal ⟨env, h, n, []⟩ = (∃ ys, rvsEv env h rs = some ys ∧ Q (.ret (resV ys)) h n) := by simp [Fin, dmOk, dels]
theorem ex_some {α : Type} (x : α) (p : α → Prop) : (∃ y, some x = some y ∧ p y) = p x := by simp
end Go.Ab
namespace Go.Ab
open Go.RowKit
set_option linter.unusedVariables false
set_option linter.unusedSimpArgs false
end Go.Ab
namespace Go.Ab
open Go.RowKit Go.ChangeShapes
set_option linter.unusedVariables false
set_option linter.unusedSimpArgs false
def ATl (A : TypeId → List AV → Prop) : List TypeId → List AV → Prop
  | [], xs => xs = []
  | t :: ts, xs => ∃ y z, xs = y ++ z ∧ A t y ∧ ATl A ts z
def AT (P : Program) : Nat → TypeId → List AV → Prop
  | 0, _, _ => False
  | n + 1, t, xs => match P.underlying t with
    | some .bool => ∃ b, xs = [.bool b]
    | some (.int k) => ∃ i, xs = [.int k i] ∧ (Lit.int k i).wf = true
    | some .string => ∃ s, xs = [.str s] ∧ s.length ≤ maxLen
    | some (.slice e) => ∃ es, xs = [.lst (P.cellsOf e) es] ∧ es.length ≤ maxLen ∧ ∀ x ∈ es, x.length = P.cellsOf e ∧ AT P n e x
    | some (.struct fs) => ATl (AT P n) (fs.toList.map (·.type)) xs
    | some (.array m e) => ATl (AT P n) (List.replicate m e) xs
    | some (.pointer e) => xs = [.nilP] ∨ ∃ cs, xs = [.fp cs] ∧ AT P n e cs
    | _ => False
def tiles (P : Program) : Nat → List Field → Option Nat
  | o, [] => some o
  | o, f :: fs => if f.offset = o then tiles P (o + P.cellsOf f.type) fs else none
def okS (P : Program) (S : List TypeId) : Bool := S.all fun t => match P.underlying t with
  | some .bool => true
  | some (.int _) => true
  | some .string => true
  | some (.slice e) => S.contains e
  | some (.struct fs) => fs.toList.all (fun f => S.contains f.type) && tiles P 0 fs.toList == some (P.cellsOf t)
  | some (.array m e) => S.contains e && P.cellsOf t == m * P.cellsOf e
  | some (.pointer e) => S.contains e
  | _ => false
theorem mapM_get {α β : Type} {f : α → Option β} : ∀ {l : List α} {r : List β}, l.mapM f = some r → r.length = l.length ∧ ∀ (i : Nat) (a : α), l[i]? = some a → f a = r[i]?
  | [], r, h => by simp at h; subst h; simp
  | a :: l, r, h => by
    simp only [List.mapM_cons, Option.bind_eq_bind, Option.bind_eq_some_iff, Option.pure_def, Option.some.injEq] at h
    obtain ⟨x, hx, ys, hys, rfl⟩ := h
    obtain ⟨h1, h2⟩ := mapM_get hys
    refine ⟨by simp [h1], fun i b hb => ?_⟩
    cases i with
    | zero => simp at hb; subst hb; simpa using hx
    | succ i => simp at hb; simpa using h2 i b hb
theorem cells_at {w : World} {base : Nat} {a : Addr} {n : Nat} {cs : List Value} (h : w.cells? base a n = some cs) : cs.length = n ∧ ∀ j, j < n → w.cell? (a.add j) = cs[j]? := by
  unfold World.cells? at h
  split at h
  · obtain ⟨h1, h2⟩ := mapM_get h
    exact ⟨by simpa using h1, fun j hj => h2 j j (by simp [hj])⟩
  · cases h
theorem add_add (a : Addr) (i j : Nat) (v : Value) (w : World) (h : w.cell? ((a.add i).add j) = some v) : w.cell? (a.add (i + j)) = some v := by
  unfold Addr.add at h ⊢
  by_cases hi : i = 0
  · subst hi; simpa using h
  · by_cases hj : j = 0
    · subst hj; simpa [hi] using h
    · have : i + j ≠ 0 := by omega
      simp only [hi, hj, this, if_false] at h ⊢
      rw [← h]; congr 2; omega
theorem exists_list {α : Type} {p : Nat → α → Prop} : ∀ (n : Nat), (∀ i, i < n → ∃ x, p i x) → ∃ l : List α, l.length = n ∧ ∀ (i : Nat) (x : α), l[i]? = some x → p i x
  | 0, _ => ⟨[], rfl, fun i x h => by simp at h⟩
  | n + 1, h => by
    obtain ⟨l, h1, h2⟩ := exists_list n fun i hi => h i (by omega)
    obtain ⟨x, hx⟩ := h n (by omega)
    refine ⟨l ++ [x], by simp [h1], fun i y hy => ?_⟩
    rw [List.getElem?_append] at hy
    split at hy
    · exact h2 i y hy
    · have : i = n := by
        have := (List.getElem?_eq_some_iff.1 hy).1
        simp at this; omega
      subst this
      simp [h1] at hy; subst hy; exact hx
theorem cell_lt {w : World} {a : Addr} {v : Value} (h : w.cell? a = some v) : a.block < w.heap.size := by
  unfold World.cell? at h
  split at h
  · rename_i hb; exact lt_of_row hb
  · cases h
section
variable {H : Type} {enc : TypeId × Value → H} {P : Program} {K : Wd} {base : Nat} {spare : Nat → Bool} {held : Bool}
def Old (K : Wd) : Prop := ∀ b o, b < K.w.heap.size → K.Z b o
def wd0 (W : World) : Wd := { w := W, m := fun _ => 0, Z := fun b _ => b < W.heap.size, lo := W.heap.size }
theorem Old.wd0 (W : World) : Old (wd0 W) := fun b o h => h
theorem Good.wd0 (W : World) (hgl : GlR (wd0 W) 0) : Good W (wd0 W) [] 0 := ⟨fun b o hb => by simp [hget] at hb, fun b b' o o' hb => by simp [hget] at hb, Below.refl _ _, fun b off h => h, rfl, hgl⟩
theorem below_all (hl : laidOutB P = true) {W W' : World} (hb : Below W.heap.size W W') : ∀ (ts : List TypeId) (vs : List Value) (ds : List (DataW H)) (ps : List MemPlace), ts.all (fun t => P.readableRec t && decide (t < P.types.size)) = true →
    DataW.TrodAll enc P W 0 (fun _ => true) true ts vs ds ps → DataW.TrodAll enc P W' 0 (fun b => decide (b < W.heap.size)) true ts vs ds ps
  | [], [], [], ps, _, h => h
  | t :: ts, v :: vs, d :: ds, ps, hr, ⟨p, q, h1, h2, h3⟩ => by
    simp only [List.all_cons, Bool.and_eq_true, decide_eq_true_eq] at hr
    refine ⟨p, q, Below.trod hl hr.1.1 hr.1.2 h1 hb (by obtain ⟨m, hm⟩ := h1; exact DataW.trod_lt m _ _ _ hm), below_all hl hb ts vs ds q hr.2 h2, h3⟩
  | [], _ :: _, _, _, _, h => by simp [DataW.TrodAll] at h
  | [], [], _ :: _, _, _, h => by simp [DataW.TrodAll] at h
  | _ :: _, [], _, _, _, h => by simp [DataW.TrodAll] at h
  | _ :: _, _ :: _, [], _, _, h => by simp [DataW.TrodAll] at h
theorem argR_nil {K : Wd} {nx : Nat} : ArgR K nx [] #[] := ⟨rfl, fun i x v hx => by simp at hx⟩
theorem argR_cons {K : Wd} {nx : Nat} {x : AV} {xs : List AV} {v : Value} {vs : List Value} (h : VR K nx x v) (hr : ArgR K nx xs vs.toArray) : ArgR K nx (x :: xs) (v :: vs).toArray := by
  refine ⟨by have := hr.1; simp at this ⊢; exact this, fun i y u hy hu => ?_⟩
  cases i with
  | zero => simp at hy hu; subst hy; subst hu; exact h
  | succ i => exact hr.2 i y u (by simpa using hy) (by simpa using hu)
theorem law_calls {f : FuncId} {xs : List AV} {W : World} {args : Array Value} (hc : AC P f xs [] 0 fun y _ _ => y = .ret (.bool true)) (ha : ArgR (wd0 W) 0 xs args) (hgl : GlR (wd0 W) 0 := by intro g cs h; cases h) : Calls P f args W fun e W' => e = .returned (.bool true) ∧ Below W.heap.size W W' := by
  refine (hc.2 W (wd0 W) args (Good.wd0 W hgl) ha).mono ?_
  rintro e w' ⟨K', h', nx', y, rfl, hext, hgood, her, rfl⟩
  cases e <;> simp only [AER] at her
  cases her
  exact ⟨rfl, hgood.below⟩
end
end Go.Ab
namespace Go.Ab
open Go.RowKit Go.ChangeShapes
set_option linter.unusedVariables false
set_option linter.unusedSimpArgs false
end Go.Ab
namespace Go.Ab
open Go.RowKit
set_option linter.unusedVariables false
set_option linter.unusedSimpArgs false
def OwnSl (e sz : Nat) (h : Heap) (nx : Nat) (x : AV) (es : List (List AV)) : Prop :=
  (x = .nilS ∧ es = []) ∨ ∃ b, x = .os b 0 e sz es.length ∧ hget h b = some (.cells es.flatten) ∧ b < nx
theorem OwnSl.mono {e sz : Nat} {h : Heap} {nx nx' : Nat} {x : AV} {es : List (List AV)} (ho : OwnSl e sz h nx x es) (hle : nx ≤ nx') : OwnSl e sz h nx' x es := by
  rcases ho with ho | ⟨b, h1, h2, h3⟩
  · exact .inl ho
  · exact .inr ⟨b, h1, h2, by omega⟩
theorem OwnSl.len {e sz : Nat} {h : Heap} {nx : Nat} {x : AV} {es : List (List AV)} (ho : OwnSl e sz h nx x es) : lenA x = some es.length := by
  rcases ho with ⟨rfl, rfl⟩ | ⟨b, rfl, _, _⟩ <;> rfl
theorem OwnSl.frz {e sz : Nat} {h : Heap} {nx : Nat} {x : AV} {es : List (List AV)} (ho : OwnSl e sz h nx x es) (hs : ∀ z ∈ es, z.length = sz) : ∃ h', Frz h x h' (.lst sz es) := by
  rcases ho with ⟨rfl, rfl⟩ | ⟨b, rfl, hb, _⟩
  · exact ⟨h, Frz.nilS h sz⟩
  · exact ⟨hdel h b, Frz.os hb hs rfl⟩
theorem OwnSl.idx {e sz : Nat} {h : Heap} {nx : Nat} {x : AV} {es : List (List AV)} (ho : OwnSl e sz h nx x es) (hs : ∀ z ∈ es, z.length = sz) {i : Nat} {r : List AV} (hr : es[i]? = some r) :
    ∃ b off, idxA sz x (i : Int) = some (.op b off) ∧ ∃ cs, ptrCells h (.op b off) = some cs ∧ cs.take sz = r ∧ ∀ (j : Nat), j < sz → cs[j]? = r[j]? := by
  have hi := (List.getElem?_eq_some_iff.1 hr).1
  rcases ho with ⟨rfl, rfl⟩ | ⟨b, rfl, hb, _⟩
  · simp at hi
  · have hp : ptrCells h (.op b (0 + i * sz)) = some (es.flatten.drop (0 + i * sz)) := by simp only [ptrCells, hb]
    refine ⟨b, 0 + i * sz, ?_, es.flatten.drop (0 + i * sz), hp, ?_, fun j hj => ?_⟩
    · have : (i : Int) < (es.length : Int) := by omega
      simp [idxA, this]
    · have hrl := hs r (List.mem_of_getElem? hr)
      apply List.ext_getElem?
      intro j
      rw [List.getElem?_take, List.getElem?_drop]
      split
      · rename_i hj
        have : r[j]? = some (r[j]'(by omega)) := List.getElem?_eq_getElem (by omega)
        rw [this, Nat.zero_add]
        exact flat_at hs i r hr j _ this
      · rw [List.getElem?_eq_none (by omega)]
    · have hrl := hs r (List.mem_of_getElem? hr)
      have : r[j]? = some (r[j]'(by omega)) := List.getElem?_eq_getElem (by omega)
      rw [List.getElem?_drop, this, Nat.zero_add]
      exact flat_at hs i r hr j _ this
theorem OwnSl.app {e sz bytes : Nat} {h : Heap} {nx : Nat} {x : AV} {es ns : List (List AV)} (ho : OwnSl e sz h nx x es) (hs : ∀ z ∈ es, z.length = sz) (hn : ∀ z ∈ ns, z.length = sz)
    (h1 : (es.length + ns.length) * bytes ≤ 140737488355328) (h2 : es.length + ns.length ≤ maxLen) :
    ∃ x' h' n', appA e sz bytes h nx x (.lst sz ns) = some (x', h', n') ∧ OwnSl e sz h' n' x' (es ++ ns) ∧ nx ≤ n' ∧ (∀ c o, c < nx → hget h c = some o → (∀ y, x ≠ .os c 0 e sz y) → hget h' c = some o) ∧ ∀ c y, x' = .os c 0 e sz y → nx ≤ c ∨ ∃ y', x = .os c 0 e sz y' := by
  have hsc : sliceCells h (.lst sz ns) = some (ns.length, ns.flatten) := rfl
  have hsz : slSz (.lst sz ns) sz = true := by simp [slSz]
  have hf : (es ++ ns).flatten = es.flatten ++ ns.flatten := by simp
  rcases ho with ⟨rfl, rfl⟩ | ⟨b, rfl, hb, hlt⟩
  · simp only [List.length_nil, Nat.zero_add] at h1 h2
    simp only [appA, hsc, hsz, if_true]
    by_cases h0 : ns.length = 0
    · rw [if_pos h0]
      exact ⟨_, _, _, rfl, .inl ⟨rfl, by simpa using h0⟩, Nat.le_refl _, fun c o _ hc _ => hc, fun c y h => by cases h⟩
    · rw [if_neg h0, if_pos ⟨h1, h2⟩]
      refine ⟨_, _, _, rfl, .inr ⟨nx, by simp, by simp [hget_cons], by omega⟩, by omega, fun c o hlt hc _ => ?_, fun c y h => by cases h; exact .inl (Nat.le_refl _)⟩
      rw [hget_cons, if_neg (by omega)]; exact hc
  · simp only [appA, hsc, hsz, if_true, hb]
    rw [if_pos ⟨trivial, trivial, trivial, flat_len hs, h1, h2⟩]
    by_cases h0 : ns.length = 0
    · rw [if_pos h0]
      have : ns = [] := by simpa using h0
      subst this
      exact ⟨_, _, _, rfl, .inr ⟨b, by simp, by simpa using hb, hlt⟩, Nat.le_refl _, fun c o _ hc _ => hc, fun c y h => .inr ⟨y, h⟩⟩
    · rw [if_neg h0]
      refine ⟨_, _, _, rfl, .inr ⟨nx, by simp, by simp [hget_cons], by omega⟩, by omega, fun c o hlt hc hne => ?_, fun c y h => by cases h; exact .inl (Nat.le_refl _)⟩
      rw [hget_cons, if_neg (by omega), hget_hdel, if_neg]
      · exact hc
      · intro e; subst e; exact hne _ rfl
theorem AC.own {P : Program} {f : FuncId} {xs : List AV} {e sz : Nat} {es : List (List AV)} (hc : ∀ nx, AC P f xs [] nx fun y h' n' => ∃ v, y = .ret v ∧ OwnSl e sz h' n' v es) (h : Heap) (nx : Nat) :
    AC P f xs h nx fun y h'' n' => ∃ v h', y = .ret v ∧ h'' = h' ++ h ∧ nx ≤ n' ∧ (∀ c o, hget h c = some o → hget h' c = none) ∧ OwnSl e sz h' n' v es :=
  ((hc nx).frame h).mono fun y h'' n' ⟨h', e1, e2, e3, v, e4, e5⟩ => ⟨v, h', e4, e1, e2, e3, e5⟩
theorem Pure.own {P : Program} {f : FuncId} {xs : List AV} {e sz : Nat} {es : List (List AV)} (hs : ∀ x ∈ es, x.length = sz) (hc : ∀ nx, AC P f xs [] nx fun y h' n' => ∃ v, y = .ret v ∧ OwnSl e sz h' n' v es) : Pure P f xs (.lst sz es) :=
  Pure.of fun nx => AC.frz ((hc nx).mono fun y h' n' ⟨v, e1, ho⟩ => by
    subst e1
    obtain ⟨h2, hf⟩ := ho.frz hs
    exact ⟨h2, _, hf, rfl⟩)
theorem Frz.trans {h h1 h2 : Heap} {x x1 x2 : AV} (f1 : Frz h x h1 x1) (f2 : Frz h1 x1 h2 x2) : Frz h x h2 x2 := fun w0 K nx v g hv => by
  obtain ⟨K1, a1, a2, a3, a4⟩ := f1 w0 K nx v g hv
  obtain ⟨K2, b1, b2, b3, b4⟩ := f2 w0 K1 nx v a3 a4
  exact ⟨K2, b1.trans a1, a2.trans b2, b3, b4⟩
theorem Good.short {w0 : World} {K : Wd} {h : Heap} {nx b : Nat} {cs rest : List AV} (g : Good w0 K h nx) (hb : hget h b = some (.cells (cs ++ rest))) : Good w0 K (hset h b (.cells cs)) nx := by
  have old : ∀ k o, hget (hset h b (.cells cs)) k = some o → ∃ o', hget h k = some o' := by
    intro k o hk
    rw [hget_hset] at hk
    split at hk
    · rename_i e; subst e; exact ⟨_, hb⟩
    · exact ⟨o, hk⟩
  refine ⟨fun k o hk => ?_, fun k k' o o' hk hk' e => ?_, g.below, g.zin, g.lo, g.gl⟩
  · rw [hget_hset] at hk
    split at hk
    · rename_i e; subst e
      injection hk with hk; subst hk
      obtain ⟨h1, h2, h3, ob, h4, h5⟩ := g.live _ _ hb
      refine ⟨h1, h2, h3, ob, h4, ?_⟩
      cases h5 with
      | cells _ c e hs h1 hc =>
        refine .cells cs c e (by simp at hs; omega) (fun i x hx => h1 i x ?_) fun i x v hx hv => hc i x v ?_ hv
        · rw [List.getElem?_append_left (List.getElem?_eq_some_iff.1 hx).1]; exact hx
        · rw [List.getElem?_append_left (List.getElem?_eq_some_iff.1 hx).1]; exact hx
    · exact g.live k o hk
  · obtain ⟨p, hp⟩ := old k o hk
    obtain ⟨q, hq⟩ := old k' o' hk'
    exact g.inj k k' p q hp hq e
theorem Frz.short {h : Heap} {b : Nat} {cs rest : List AV} (hb : hget h b = some (.cells (cs ++ rest))) (x : AV) : Frz h x (hset h b (.cells cs)) x := fun w0 K nx v g hv => ⟨K, rfl, Ext.refl _ _, g.short hb, hv⟩
section
variable {P : Program} {f : FuncId} {h h' : Heap} {nx : Nat} {Q : AE → Heap → Nat → Prop} {x x' : AV}
theorem AC.ice (pre post : List AV) (hf : Frz h x h' x') (hc : AC P f (pre ++ x' :: post) h' nx Q) : AC P f (pre ++ x :: post) h nx Q := by
  refine ⟨hc.1, fun w0 K args hg ha => ?_⟩
  have hlen := ha.1
  have hi : pre.length < args.size := by rw [hlen]; simp
  have hx : (pre ++ x :: post)[pre.length]? = some x := by simp
  obtain ⟨K', e1, e2, e3, e4⟩ := hf w0 K nx args[pre.length] hg (ha.2 _ x _ hx (Array.getElem?_eq_getElem hi))
  have ha' : ArgR K' nx (pre ++ x' :: post) args := by
    refine ⟨by rw [hlen]; simp, fun i y v hy hv => ?_⟩
    by_cases h : i = pre.length
    · subst h
      simp at hy; subst hy
      rw [Array.getElem?_eq_getElem hi] at hv; injection hv with hv; subst hv
      exact e4
    · refine (ha.2 i y v ?_ hv).mono e2
      rw [← hy]
      rw [List.getElem?_append, List.getElem?_append]
      split
      · rfl
      · rename_i h2
        obtain ⟨j, hj⟩ : ∃ j, i - pre.length = j + 1 := ⟨i - pre.length - 1, by omega⟩
        rw [hj]; rfl
  have := hc.2 w0 K' args e3 ha'
  rw [e1] at this
  exact this.mono fun e w' ⟨K2, h2, n2, y, a1, a2, a3, a4, a5⟩ => ⟨K2, h2, n2, y, a1, e2.trans a2, a3, a4, a5⟩
theorem AC.ice1 {y : AV} {r : List AV} (hf : Frz h x h' x') (hc : AC P f (y :: x' :: r) h' nx Q) : AC P f (y :: x :: r) h nx Q := AC.ice [y] r hf hc
end
end Go.Ab
namespace Go.Ab
open Go.RowKit
set_option linter.unusedVariables false
set_option linter.unusedSimpArgs false
theorem OwnSl.set {e sz : Nat} {h : Heap} {nx : Nat} {x : AV} {es : List (List AV)} (ho : OwnSl e sz h nx x es) (hs : ∀ z ∈ es, z.length = sz) {i : Nat} {z : List AV} (hz : z.length = sz) (hi : i < es.length) :
    ∃ p h', idxA sz x (i : Int) = some p ∧ p.isFp = false ∧ storeH h p z = some h' ∧ OwnSl e sz h' nx x (es.set i z) ∧ ∀ c o, hget h c = some o → (∀ y, x ≠ .os c 0 e sz y) → hget h' c = some o := by
  rcases ho with ⟨rfl, rfl⟩ | ⟨b, rfl, hb, hlt⟩
  · simp at hi
  · have hfl : es.flatten.length = es.length * sz := flat_len hs
    have hle : i * sz + sz ≤ es.length * sz := by
      have := Nat.mul_le_mul_right sz (show i + 1 ≤ es.length by omega)
      rw [Nat.add_mul, Nat.one_mul] at this; exact this
    refine ⟨.op b (0 + i * sz), hset h b (.cells (splice es.flatten (0 + i * sz) z)), ?_, rfl, ?_, .inr ⟨b, by simp, ?_, hlt⟩, fun c o hc hne => ?_⟩
    · have : (i : Int) < (es.length : Int) := by omega
      simp [idxA, this]
    · simp only [storeH, hb]
      rw [if_pos (by omega)]
    · rw [hget_hset, if_pos rfl, flatten_set es i z hs hz hi, Nat.zero_add]
    · rw [hget_hset, if_neg]
      · exact hc
      · intro e; subst e; exact hne _ rfl
theorem Pure.frz {P : Program} {f : FuncId} {xs : List AV} {r : AV} (hc : ∀ nx, AC P f xs [] nx fun y h' n' => ∃ v h2, y = .ret v ∧ Frz h' v h2 r) : Pure P f xs r :=
  Pure.of fun nx => AC.frz ((hc nx).mono fun y h' n' ⟨v, h2, e1, hf⟩ => by subst e1; exact ⟨h2, _, hf, rfl⟩)
end Go.Ab
namespace Go.Ab
open Go.RowKit
set_option linter.unusedVariables false
set_option linter.unusedSimpArgs false
def bindP : List Tmp → List AV → Env → Env
  | p :: ps, x :: xs, env => bindP ps xs ((p, x) :: env)
  | _, _, env => env
theorem bindP_sound {K : Wd} {nx : Nat} : ∀ (ps : List Tmp) (xs : List AV) (args : List Value) (env : Env) (tmps : Array Value), xs.length = args.length → (∀ p ∈ ps, p < tmps.size) → (∀ (i : Nat) (x : AV) (v : Value), xs[i]? = some x → args[i]? = some v → VR K nx x v) →
    EnvR K nx env tmps → EnvR K nx (bindP ps xs env) ((ps.zip args).foldl (fun t (p : Tmp × Value) => t.setIfInBounds p.1 p.2) tmps) ∧ ((ps.zip args).foldl (fun t (p : Tmp × Value) => t.setIfInBounds p.1 p.2) tmps).size = tmps.size
  | [], xs, args, env, tmps, _, _, _, he => ⟨he, rfl⟩
  | p :: ps, [], [], env, tmps, _, _, _, he => ⟨he, rfl⟩
  | p :: ps, x :: xs, v :: args, env, tmps, hl, hp, hx, he => by
    have := bindP_sound ps xs args ((p, x) :: env) (tmps.setIfInBounds p v) (by simpa using hl) (fun q hq => by simpa using hp q (by simp [hq])) (fun i y u h1 h2 => hx (i + 1) y u (by simpa using h1) (by simpa using h2)) (by
      intro t y hy
      rw [eget_cons] at hy
      split at hy
      · rename_i e; subst e
        injection hy with hy; subst hy
        exact ⟨v, by rw [Array.getElem?_setIfInBounds]; simp [hp p (by simp)], hx 0 x v rfl rfl⟩
      · rename_i e
        obtain ⟨u, h1, h2⟩ := he t y hy
        exact ⟨u, by rw [Array.getElem?_setIfInBounds, if_neg e]; exact h1, h2⟩)
    simpa [bindP] using this
  | p :: ps, [], v :: args, env, tmps, hl, _, _, he => by simp at hl
  | p :: ps, x :: xs, [], env, tmps, hl, _, _, he => by simp at hl
def goesOn : AX → Bool
  | .normal => true
  | _ => false
def rndO (o : AO) : AX → AO
  | .normal => o
  | .exit k => .left (some k)
  | _ => .left none
def jmpX : Option Nat → AX
  | none => .ret
  | some k => .exit k
section
variable {P : Program} {own : Nat → Nat → Bool} {N : Nat}
theorem AY_fresh {b : Nat} {xs : List AV} {h : Heap} {nx : Nat} {Q : AE → Heap → Nat → Prop} (h2 : ∀ (w0 : World) (K : Wd) (args : Array Value), K.ds = [] → Good w0 K h nx → ArgR K nx xs args →
    YieldAt Fence.wide 0 P (K.m b) args K.w fun e w' => ∃ K' h' nx' y, K'.w = w' ∧ Ext K nx K' nx' ∧ Good w0 K' h' nx' ∧ AER K' nx' y e ∧ Q y h' nx') : AY P b xs h nx Q := by
  intro w0 K args hg ha
  obtain ⟨fn, tmps, as, bd, hy, hR⟩ := h2 w0 { K with ds := [] } args rfl (hg.ds _) (ha.ds _)
  refine ⟨fn, tmps, as, bd, hy, hR.mono ?_⟩
  rintro e w' ⟨K', h', nx', y, rfl, hext, hgood, her, hq⟩
  exact ⟨{ K' with ds := K.ds }, h', nx', y, rfl, hext.ds', hgood.ds _, her.ds _, hq⟩
theorem AY_round {b : Nat} {fn : FuncId} {env : Env} {ps : Array Tmp} {as bd : Code} {dm : Nat} {aa ab : ACode} {xs : List AV} {h : Heap} {nx : Nat} {Q : AE → Heap → Nat → Prop}
    (ha : compile P own N as = some aa) (hb : compile P own N bd = some ab) (hl : hget h b = some (.loop false fn N env ps as bd dm)) (hsz : xs.length = ps.size) (hps : ∀ p ∈ ps.toList, p < N)
    (h1 : ∀ l, AW P own (some l) N aa (fun x s => x = .normal ∧ s.dm = [] ∧ hget s.heap b = some (.loop false fn N env ps as bd dm) ∧
      AW P own (some l) N ab (fun x s' => (∀ v, x ≠ .panic v) ∧ s'.dm = [] ∧ hget s'.heap b = some (.loop true fn N env ps as bd dm) ∧ Q (.ret (.bool (goesOn x))) (hset s'.heap b (rndO (.loop false fn N env ps as bd dm) x)) s'.nx)
        { s with heap := hset s.heap b (.loop true fn N env ps as bd dm) }) { env := bindP ps.toList xs env, heap := h, nx := nx }) : AY P b xs h nx Q := by
  refine AY_fresh fun w0 K args hds g har => ?_
  obtain ⟨hlt, _, _, ob, hob, hor⟩ := g.live b _ hl
  cases hor with
  | loop _ _ _ _ _ _ _ _ hdlt tmps hts D hD hen =>
  have hasz : args.size = ps.size := by rw [har.1, hsz]
  have hy := run_yield (P := P) (args := args) hob (by simpa using hasz)
  have hf : (fun (x1 : Array Value) (x2 : Tmp × Value) => x1.setIfInBounds x2.1 x2.2) = (fun t (p : Tmp × Value) => t.setIfInBounds p.1 p.2) := rfl
  refine ⟨fn, _, as, bd, hy, roundIn_of_wpIn trivial ?_⟩
  have hfold : (ps.zip args).foldl (fun tmps (x : Tmp × Value) => match x with | (t, a) => tmps.setIfInBounds t a) tmps = (ps.toList.zip args.toList).foldl (fun t (p : Tmp × Value) => t.setIfInBounds p.1 p.2) tmps := by
    rw [← Array.foldl_toList, Array.toList_zip]
  obtain ⟨e1, e2⟩ := bindP_sound (K := K) (nx := nx) ps.toList xs args.toList env tmps (by simpa using har.1.symm) (fun p hp => by rw [hts]; exact hps p hp) (fun i x v hx hv => har.2 i x v hx (by simpa using hv)) hen
  simp only [Bool.false_eq_true, if_false] at hob
  simp only [hfold]
  have hs : StR w0 N K { env := bindP ps.toList xs env, heap := h, nx := nx } { tmps := (ps.toList.zip args.toList).foldl (fun t (p : Tmp × Value) => t.setIfInBounds p.1 p.2) tmps, defers := [] } :=
    ⟨g, e1, by rw [e2, hts], by simp [marks, hds], fun b hb => by simp at hb⟩
  refine wpIn_mono (h1 (K.m b) as ha w0 K _ hs) ?_
  rintro e a1 w1 ⟨K1, st1, x, rfl, hx1, hs1, hxr, rfl, hdm1, hl1, hbody⟩
  cases e <;> simp only [AXR] at hxr <;> first | exact hxr.elim | skip
  obtain ⟨_, _, _, ob1, hob1, hor1⟩ := hs1.good.live b _ hl1
  cases hor1 with
  | loop _ _ _ _ _ _ _ _ hdlt1 tmps1 hts1 D1 hD1 hen1 =>
  simp only [Bool.false_eq_true, if_false] at hob1
  have hm1 : K1.m b = K.m b := hx1.m b hlt
  have hns1 : ∀ c e, K1.w.heap[K1.m b]? = some (.cells c e (0, 0)) → ∃ c' : Array Value, (Obj.loop { state := .busy, pending := none, fn := fn, tmps := tmps1, params := ps, assign := as, body := bd, defers := D1 }) = .cells c' e (0, 0) ∧ c'.size = c.size := by
    intro c e h; rw [hob1] at h; cases h
  have hb1 := run_beginRound (P := P) hob1 rfl
  rw [hm1] at hb1
  simp only [Exit.then]
  refine ⟨_, hb1, ?_⟩
  have he2 := Ext.putObj (ob := Obj.loop { state := .busy, pending := none, fn := fn, tmps := tmps1, params := ps, assign := as, body := bd, defers := D1 }) hs1.good hl1 hns1
  have hg2 := Good.putObj (o' := .loop true fn N env ps as bd dm) (ob := Obj.loop { state := .busy, pending := none, fn := fn, tmps := tmps1, params := ps, assign := as, body := bd, defers := D1 }) hs1.good hl1 hns1
    (by
      have := OR.loop (K := K1.putObj b (Obj.loop { state := .busy, pending := none, fn := fn, tmps := tmps1, params := ps, assign := as, body := bd, defers := D1 })) (nx := st1.nx) true fn N env ps as bd dm hdlt1 tmps1 hts1 D1 hD1 (fun t x hx => let ⟨v, h1, h2⟩ := hen1 t x hx; ⟨v, h1, h2.mono he2⟩)
      simpa using this)
  have hs2 : StR w0 N (K1.putObj b (Obj.loop { state := .busy, pending := none, fn := fn, tmps := tmps1, params := ps, assign := as, body := bd, defers := D1 })) { st1 with heap := hset st1.heap b (.loop true fn N env ps as bd dm) } a1 := by
    refine ⟨hg2, hs1.env.mono he2, hs1.size, ?_, hs1.dm⟩
    rw [hs1.defers]; simp only [marks, hdm1, List.map_nil]; rfl
  have hw2 : (K1.putObj b (Obj.loop { state := .busy, pending := none, fn := fn, tmps := tmps1, params := ps, assign := as, body := bd, defers := D1 })).w = K1.w.putObj (K.m b) (.loop { state := .busy, pending := none, fn := fn, tmps := tmps1, params := ps, assign := as, body := bd, defers := D1 }) := by simp [Wd.putObj, hm1]
  have := hbody bd hb w0 _ a1 hs2
  rw [hw2] at this
  refine wpIn_mono this ?_
  rintro e3 a3 w3 ⟨K3, st3, x3, rfl, hx3, hs3, hxr3, hnp, hdm3, hl3, hq⟩
  obtain ⟨_, _, _, ob3, hob3, hor3⟩ := hs3.good.live b _ hl3
  cases hor3 with
  | loop _ _ _ _ _ _ _ _ hdlt3 tmps3 hts3 D3 hD3 hen3 =>
  simp only [if_true] at hob3
  have hlt2 : b < st1.nx := Nat.lt_of_lt_of_le hlt hx1.le
  have hm3 : K3.m b = K.m b := by
    rw [hx3.m b hlt2]
    show K1.m b = K.m b
    exact hm1
  have key : ∀ (j : Option Code) (o' : AO), (∀ K4, K4 = K3.putObj b (Obj.loop { state := if j.isNone = true then .ready else .done, pending := j, fn := fn, tmps := tmps3, params := ps, assign := as, body := bd, defers := D3 }) → Ext K3 st3.nx K4 st3.nx →
      OR K4 st3.nx o' (Obj.loop { state := if j.isNone = true then .ready else .done, pending := j, fn := fn, tmps := tmps3, params := ps, assign := as, body := bd, defers := D3 })) → Q (.ret (.bool j.isNone)) (hset st3.heap b o') st3.nx →
      ∃ v w', (Instr.endRound (K.m b) j).run P K3.w = .ok v w' ∧ ∃ K' h' nx' y, K'.w = w' ∧ Ext K nx K' nx' ∧ Good w0 K' h' nx' ∧ AER K' nx' y (.returned v) ∧ Q y h' nx' := by
    intro j o' ho hq
    have hns3 : ∀ c e, K3.w.heap[K3.m b]? = some (.cells c e (0, 0)) → ∃ c' : Array Value, (Obj.loop { state := if j.isNone = true then .ready else .done, pending := j, fn := fn, tmps := tmps3, params := ps, assign := as, body := bd, defers := D3 }) = .cells c' e (0, 0) ∧ c'.size = c.size := by
      intro c e h; rw [hob3] at h; cases h
    have hb3 := run_endRound (P := P) j hob3
    rw [hm3] at hb3
    have he4 := Ext.putObj (ob := Obj.loop { state := if j.isNone = true then .ready else .done, pending := j, fn := fn, tmps := tmps3, params := ps, assign := as, body := bd, defers := D3 }) hs3.good hl3 hns3
    have hg4 := Good.putObj (o' := o') (ob := Obj.loop { state := if j.isNone = true then .ready else .done, pending := j, fn := fn, tmps := tmps3, params := ps, assign := as, body := bd, defers := D3 }) hs3.good hl3 hns3 (ho _ rfl he4)
    have hw4 : (K3.putObj b (Obj.loop { state := if j.isNone = true then .ready else .done, pending := j, fn := fn, tmps := tmps3, params := ps, assign := as, body := bd, defers := D3 })).w = K3.w.putObj (K.m b) (.loop { state := if j.isNone = true then .ready else .done, pending := j, fn := fn, tmps := tmps3, params := ps, assign := as, body := bd, defers := D3 }) := by simp [Wd.putObj, hm3]
    exact ⟨_, _, hb3, _, _, _, .ret (.bool j.isNone), hw4, ((hx1.trans he2).trans hx3).trans he4, hg4, .bool _, hq⟩
  cases e3 with
  | normal =>
    cases x3 <;> simp only [AXR] at hxr3
    exact key none (.loop false fn N env ps as bd dm) (fun K4 hK4 he4 => by
      have := OR.loop (K := K4) (nx := st3.nx) false fn N env ps as bd dm hdlt3 tmps3 hts3 D3 (by rw [hD3, he4.m dm hdlt3]) (fun t x hx => let ⟨v, h1, h2⟩ := hen3 t x hx; ⟨v, h1, h2.mono he4⟩)
      simpa using this) hq
  | ret =>
    cases x3 <;> simp only [AXR] at hxr3
    exact key (some .ret) (.left none) (fun K4 hK4 he4 => .left none _ rfl rfl) hq
  | exit id =>
    cases x3 with
    | exit k =>
      simp only [AXR] at hxr3
      subst hxr3
      exact key (some (.exit k)) (.left (some k)) (fun K4 hK4 he4 => .left (some k) _ rfl rfl) hq
    | _ => simp only [AXR] at hxr3
  | panic ch =>
    cases x3 with
    | panic v => exact absurd rfl (hnp v)
    | _ => simp only [AXR] at hxr3
  | _ => cases x3 <;> simp only [AXR] at hxr3
theorem AW_rangeF {st : ASt} {Q : AX → ASt → Prop} {g : Operand} {ps : Array Tmp} {aa ab : ACode} {gf : FuncId} {caps : List AV} (hg : oev st.env g = some (.fn (.func gf) caps))
    (hc : ∀ fn as bd, compile P own N as = some aa → compile P own N bd = some ab →
      AC P gf (.yl (st.nx + 1) :: caps) ((st.nx + 1, .loop false fn N st.env ps as bd st.nx) :: (st.nx, .dfd) :: st.heap) (st.nx + 2) fun y h' n' =>
        (∃ x, y = .ret x) ∧ ((hget h' (st.nx + 1) = some (.loop false fn N st.env ps as bd st.nx) ∧ Q .normal { st with heap := hdel h' (st.nx + 1), nx := n', dm := st.nx :: st.dm }) ∨ ∃ j, hget h' (st.nx + 1) = some (.left j) ∧ Q (jmpX j) { st with heap := hdel h' (st.nx + 1), nx := n', dm := st.nx :: st.dm })) : AW P own none N (.rangeF g ps aa ab) Q st := by
  intro c hcc w0 K a hs
  obtain ⟨as, bd, rfl, ha, hb⟩ := inv_rangeF hcc
  refine wpIn_rangeFunc fun fn hfn => ?_
  have hcall := hc fn as bd ha hb
  have hfv := oev_sound hs.env hg
  generalize hcf : a.eval g = cf at hfv
  cases hfv with
  | fn _ _ lb hcs hcr =>
  obtain ⟨K1, hK1⟩ : ∃ K1, K1 = K.alloc st.nx (.deferred (some [])) := ⟨_, rfl⟩
  have g1 : Good w0 K1 ((st.nx, .dfd) :: st.heap) (st.nx + 1) := by rw [hK1]; exact hs.good.alloc .dfd
  have x1 : Ext K st.nx K1 (st.nx + 1) := by rw [hK1]; exact Ext.alloc hs.good _
  have hm1 : K1.m st.nx = K.w.heap.size := by rw [hK1]; simp [Wd.alloc]
  obtain ⟨rec, hrec⟩ : ∃ rec : Loop, rec = { state := .ready, pending := none, fn := fn, tmps := a.tmps, params := ps, assign := as, body := bd, defers := K.w.heap.size } := ⟨_, rfl⟩
  obtain ⟨K2, hK2⟩ : ∃ K2, K2 = K1.alloc (st.nx + 1) (.loop rec) := ⟨_, rfl⟩
  have x2 : Ext K1 (st.nx + 1) K2 (st.nx + 2) := by rw [hK2]; exact Ext.alloc g1 _
  have g2 : Good w0 K2 ((st.nx + 1, .loop false fn N st.env ps as bd st.nx) :: (st.nx, .dfd) :: st.heap) (st.nx + 2) := by
    rw [hK2]
    refine g1.alloc ?_
    have := OR.loop (K := K1.alloc (st.nx + 1) (.loop rec)) (nx := st.nx + 2) false fn N st.env ps as bd st.nx (by omega) a.tmps hs.size K.w.heap.size (by rw [← hK2, x2.m st.nx (by omega), hm1]) (fun t x hx => by
      obtain ⟨v, h1, h2⟩ := hs.env t x hx
      rw [← hK2]
      exact ⟨v, h1, (h2.mono x1).mono x2⟩)
    simpa [hrec] using this
  have hm2 : K2.m (st.nx + 1) = K.w.heap.size + 1 := by rw [hK2]; simp [Wd.alloc, hK1]
  have hw2 : K2.w = (K.w.alloc (.deferred (some []))).alloc (.loop rec) := by rw [hK2, hK1]; simp [Wd.alloc]
  have x02 := x1.trans x2
  have harg : ArgR K2 (st.nx + 2) (.yl (st.nx + 1) :: caps) (#[.func (.yield (K.w.heap.size + 1)) #[] #[]] ++ lb) := by
    refine ⟨by simp [hcs]; omega, fun i x v hx hv => ?_⟩
    cases i with
    | zero =>
      rw [Array.getElem?_append_left (by simp)] at hv
      simp at hx hv; subst hx; subst hv
      exact .yl _ (by omega) _ hm2.symm
    | succ i =>
      have h2 : lb[i]? = some v := by
        rw [Array.getElem?_append_right (by simp)] at hv
        simpa using hv
      exact (hcr i x v (by simpa using hx) h2).mono x02
  refine ⟨K.w.heap.size + 1, [{ target := .collected K.w.heap.size, args := #[] }], K2.w, { target := .fn (.func gf) lb, args := #[.func (.yield (K.w.heap.size + 1)) #[] #[]] }, K2.w, gf,
    #[.func (.yield (K.w.heap.size + 1)) #[] #[]] ++ lb, K2.w, ?_, ?_, ?_, ?_, fun hh => by simp [Fence.wide] at hh, ?_⟩
  · rw [hw2, hrec]; exact run_enterLoop_outer _ _ _ _ _
  · simp only [resolve, hcf]
    simp [go_sem]
  · intro f' hf'; trivial
  · simp [invoke, go_sem, hcall.1]
  · have hcalls := hcall.2 w0 K2 _ g2 harg
    have hcin : CallsIn Fence.wide (0 - 1) P gf (#[.func (.yield (K.w.heap.size + 1)) #[] #[]] ++ lb) K2.w _ := callsIn_wide.2 hcalls
    refine (show CallsIn { Fence.wide with round := none } (0 - 1) P gf (#[.func (.yield (K.w.heap.size + 1)) #[] #[]] ++ lb) K2.w _ from hcin).mono ?_
    rintro e w' ⟨K', h', nx', y, rfl, hext, hgood, her, ⟨x, rfl⟩, hd⟩
    cases e <;> simp only [AER] at her <;> first | exact her.elim | skip
    have hmk : K'.m (st.nx + 1) = K.w.heap.size + 1 := by rw [hext.m _ (by omega), hm2]
    have key : ∀ (o' : AO) (r3 : Loop) (x4 : AX), hget h' (st.nx + 1) = some o' → K'.w.heap[K'.m (st.nx + 1)]? = some (.loop r3) → r3.state ≠ .busy → Q x4 { st with heap := hdel h' (st.nx + 1), nx := nx', dm := st.nx :: st.dm } →
        ∃ w4, (Instr.endLoop (K.w.heap.size + 1)).run P K'.w = .ok r3.pending w4 ∧ ∀ e, (∀ K n, AXR K n x4 e) → Post w0 N K st.nx Q e { a with defers := [{ target := .collected K.w.heap.size, args := #[] }] ++ a.defers } w4 := by
      intro o' r3 x4 hl' hob3 hbu hq
      rw [hmk] at hob3
      have hend := run_endLoop (P := P) hob3 hbu
      refine ⟨_, hend, fun e he => ?_⟩
      have hns : ∀ c e, K'.w.heap[K'.m (st.nx + 1)]? = some (.cells c e (0, 0)) → ∃ c' : Array Value, (Obj.loop { r3 with state := .exhausted }) = .cells c' e (0, 0) ∧ c'.size = c.size := by
        intro c e h; rw [hmk, hob3] at h; cases h
      obtain ⟨g4, x4'⟩ := hgood.drop hl' (.loop { r3 with state := .exhausted }) hns
      have xx := (x02.trans hext).trans x4'
      have hw5 : (K'.putObj (st.nx + 1) (.loop { r3 with state := .exhausted })).w = K'.w.putObj (K.w.heap.size + 1) (.loop { r3 with state := .exhausted }) := by simp [Wd.putObj, hmk]
      refine ⟨_, _, x4, hw5, xx, ⟨g4, hs.env.mono xx, hs.size, ?_, ?_⟩, he _ _, hq⟩
      · rw [hs.defers]
        simp only [marks, List.map_cons, List.cons_append, List.nil_append, xx.ds]
        congr 1
        · have : (K'.putObj (st.nx + 1) (.loop { r3 with state := .exhausted })).m st.nx = K.w.heap.size := by
            rw [x4'.m st.nx (by have := hext.le; omega), hext.m st.nx (by omega), x2.m st.nx (by omega), hm1]
          rw [this]
        · congr 1
          apply List.map_congr_left
          intro b hb
          rw [xx.m b (hs.dm b hb)]
      · intro b hb
        have := hext.le
        rcases List.mem_cons.1 hb with rfl | hb
        · simp only; omega
        · have := hs.dm b hb; simp only; omega
    simp only [rangePost]
    rcases hd with ⟨hl', hq⟩ | ⟨j, hl', hq⟩
    · obtain ⟨_, _, _, ob3, hob3, hor3⟩ := hgood.live _ _ hl'
      cases hor3 with
      | loop _ _ _ _ _ _ _ _ hdlt3 tmps3 hts3 D3 hD3 hen3 =>
      simp only [Bool.false_eq_true, if_false] at hob3
      obtain ⟨w4, h1, h2⟩ := key _ _ .normal hl' hob3 (by simp) hq
      exact ⟨none, w4, h1, h2 .normal fun _ _ => trivial⟩
    · obtain ⟨_, _, _, ob3, hob3, hor3⟩ := hgood.live _ _ hl'
      cases hor3 with
      | left _ r3 hr1 hr2 =>
      obtain ⟨w4, h1, h2⟩ := key _ r3 (jmpX j) hl' hob3 (by rw [hr1]; simp) hq
      rw [hr2] at h1
      refine ⟨some (jmpC j), w4, h1, ?_⟩
      cases j with
      | none => exact wpIn_ret (h2 .ret fun _ _ => trivial)
      | some k => exact wpIn_exit (h2 (.exit k) fun _ _ => rfl)
end
end Go.Ab
namespace Go.Ab
open Go.RowKit
set_option linter.unusedVariables false
set_option linter.unusedSimpArgs false
def blkOf : AV → Option Nat
  | .os b _ _ _ _ => some b
  | _ => none
def apart (x y : AV) : Prop := ∀ b, blkOf x = some b → blkOf y = some b → False
theorem apart.symm {x y : AV} (h : apart x y) : apart y x := fun b h1 h2 => h b h2 h1
theorem OwnSl.blk {e sz : Nat} {h : Heap} {nx : Nat} {x : AV} {es : List (List AV)} (ho : OwnSl e sz h nx x es) {b : Nat} (hb : blkOf x = some b) : x = .os b 0 e sz es.length ∧ hget h b = some (.cells es.flatten) ∧ b < nx := by
  rcases ho with ⟨rfl, rfl⟩ | ⟨b', rfl, h1, h2⟩
  · simp [blkOf] at hb
  · simp [blkOf] at hb; subst hb; exact ⟨rfl, h1, h2⟩
theorem OwnSl.keep {e sz : Nat} {h h' : Heap} {nx nx' : Nat} {x : AV} {es : List (List AV)} (ho : OwnSl e sz h nx x es) (hle : nx ≤ nx') (hk : ∀ b o, blkOf x = some b → hget h b = some o → hget h' b = some o) : OwnSl e sz h' nx' x es := by
  rcases ho with ho | ⟨b, rfl, h1, h2⟩
  · exact .inl ho
  · exact .inr ⟨b, rfl, hk b _ rfl h1, by omega⟩
theorem flat_put {sz : Nat} : ∀ (es : List (List AV)) (i off : Nat) (v : AV) (r : List AV), (∀ z ∈ es, z.length = sz) → es[i]? = some r → off < sz → (es.set i (r.set off v)).flatten = es.flatten.set (i * sz + off) v
  | [], i, off, v, r, _, hi, _ => by simp at hi
  | z :: es, 0, off, v, r, hs, hr, ho => by
    have hz := hs z (by simp)
    simp at hr; subst hr
    simp only [List.set_cons_zero, List.flatten_cons, Nat.zero_mul, Nat.zero_add]
    rw [List.set_append_left _ _ (by omega)]
  | z :: es, i + 1, off, v, r, hs, hr, ho => by
    have hz := hs z (by simp)
    have ih := flat_put es i off v r (fun y hy => hs y (by simp [hy])) (by simpa using hr) ho
    simp only [List.set_cons_succ, List.flatten_cons, ih]
    rw [List.set_append_right _ _ (by rw [hz, Nat.succ_mul]; omega)]
    congr 2
    rw [hz, Nat.succ_mul]; omega
theorem splice_one (cs : List AV) (k : Nat) (v : AV) (hk : k < cs.length) : splice cs k [v] = cs.set k v := by
  simp only [splice, List.length_cons, List.length_nil, Nat.zero_add]
  rw [List.set_eq_take_append_cons_drop, if_pos hk]; rfl
theorem OwnSl.put {e sz : Nat} {h : Heap} {nx : Nat} {x : AV} {es : List (List AV)} (ho : OwnSl e sz h nx x es) (hs : ∀ z ∈ es, z.length = sz) {i off : Nat} {r : List AV} (hr : es[i]? = some r) (hoff : off < sz) (v : AV) :
    ∃ b o h', idxA sz x (i : Int) = some (.op b o) ∧ storeH h (.op b (o + off)) [v] = some h' ∧ OwnSl e sz h' nx x (es.set i (r.set off v)) ∧ ∀ c a, hget h c = some a → (∀ b', blkOf x = some b' → b' ≠ c) → hget h' c = some a := by
  have hi := (List.getElem?_eq_some_iff.1 hr).1
  rcases ho with ⟨rfl, rfl⟩ | ⟨b, rfl, hb, hlt⟩
  · simp at hi
  · have hfl : es.flatten.length = es.length * sz := flat_len hs
    have hle : i * sz + sz ≤ es.length * sz := by
      have := Nat.mul_le_mul_right sz (show i + 1 ≤ es.length by omega)
      rw [Nat.add_mul, Nat.one_mul] at this; exact this
    refine ⟨b, 0 + i * sz, hset h b (.cells (splice es.flatten (0 + i * sz + off) [v])), ?_, ?_, .inr ⟨b, by simp, ?_, hlt⟩, fun c a hc hne => ?_⟩
    · have : (i : Int) < (es.length : Int) := by omega
      simp [idxA, this]
    · simp only [storeH, hb]
      rw [if_pos (by show 0 + i * sz + off + 1 ≤ _; omega)]
    · rw [hget_hset, if_pos rfl, flat_put es i off v r hs hr hoff, Nat.zero_add, splice_one _ _ _ (by omega)]
    · rw [hget_hset, if_neg]
      · exact hc
      · intro e; exact hne b rfl e
theorem OwnSl.cell {e sz : Nat} {h : Heap} {nx : Nat} {x : AV} {es : List (List AV)} (ho : OwnSl e sz h nx x es) (hs : ∀ z ∈ es, z.length = sz) {i off : Nat} {r : List AV} {c : AV} (hr : es[i]? = some r) (hc : r[off]? = some c) :
    ∃ b o rest, idxA sz x (i : Int) = some (.op b o) ∧ ptrCells h (.op b (o + off)) = some (c :: rest) := by
  have hi := (List.getElem?_eq_some_iff.1 hr).1
  rcases ho with ⟨rfl, rfl⟩ | ⟨b, rfl, hb, hlt⟩
  · simp at hi
  · refine ⟨b, 0 + i * sz, es.flatten.drop (0 + i * sz + off + 1), ?_, ?_⟩
    · have : (i : Int) < (es.length : Int) := by omega
      simp [idxA, this]
    · have hat := flat_at hs i r hr off c hc
      simp only [ptrCells, hb]
      congr 1
      rw [Nat.zero_add]
      have hlt := (List.getElem?_eq_some_iff.1 hat).1
      rw [List.drop_eq_getElem_cons hlt]
      congr 1
      exact (List.getElem?_eq_some_iff.1 hat).2
theorem OwnSl.row {e sz : Nat} {h : Heap} {nx : Nat} {x : AV} {es : List (List AV)} (ho : OwnSl e sz h nx x es) (hs : ∀ z ∈ es, z.length = sz) {i : Nat} {r : List AV} (hr : es[i]? = some r) :
    ∃ b o cs, idxA sz x (i : Int) = some (.op b o) ∧ ptrCells h (.op b o) = some cs ∧ cs.take sz = r := by
  obtain ⟨b, o, h1, cs, h2, h3, _⟩ := ho.idx hs hr
  exact ⟨b, o, cs, h1, h2, h3⟩
theorem AC.split0 {P : Program} {f : FuncId} {h : Heap} {nx : Nat} {Q : AE → Heap → Nat → Prop} {sz : Nat} (pre post : List AV) (h1 : AC P f (pre ++ .nilS :: post) h nx Q) (h2 : AC P f (pre ++ .ne0 :: post) h nx Q) : AC P f (pre ++ .lst sz [] :: post) h nx Q := by
  refine ⟨h1.1, fun w0 K args hg ha => ?_⟩
  have hlen := ha.1
  have hi : pre.length < args.size := by rw [hlen]; simp
  have hv := ha.2 pre.length (.lst sz []) args[pre.length] (by simp) (Array.getElem?_eq_getElem hi)
  have key : ∀ x, VR K nx x args[pre.length] → ArgR K nx (pre ++ x :: post) args := by
    intro x hx
    refine ⟨by rw [hlen]; simp, fun i y v hy hv => ?_⟩
    by_cases h : i = pre.length
    · subst h
      simp at hy; subst hy
      rw [Array.getElem?_eq_getElem hi] at hv; injection hv with hv; subst hv
      exact hx
    · refine ha.2 i y v ?_ hv
      rw [← hy, List.getElem?_append, List.getElem?_append]
      split
      · rfl
      · obtain ⟨j, hj⟩ : ∃ j, i - pre.length = j + 1 := ⟨i - pre.length - 1, by omega⟩
        rw [hj]; rfl
  generalize args[pre.length] = u at hv key
  cases hv with
  | lst0 _ _ A n cap h0 hn hA =>
    subst hn
    cases A with
    | none =>
      obtain rfl := hA rfl
      exact h1.2 w0 K args hg (key _ .nilS)
    | some a => exact h2.2 w0 K args hg (key _ (.ne0 a cap))
  | lst _ _ a n cap c hn hc hcap hsz _ hr _ =>
    simp at hn; subst hn
    exact h2.2 w0 K args hg (key _ (.ne0 a cap))
end Go.Ab
namespace Go.Ab
open Go.RowKit
set_option linter.unusedVariables false
set_option linter.unusedSimpArgs false
def Grw (e sz : Nat) (h : Heap) (nx : Nat) (v : AV) (h' : Heap) (n' : Nat) (v' : AV) (es' : List (List AV)) : Prop :=
  OwnSl e sz h' n' v' es' ∧ nx ≤ n' ∧ (∀ c o, c < nx → hget h c = some o → blkOf v ≠ some c → hget h' c = some o) ∧ ∀ c, blkOf v' = some c → nx ≤ c ∨ blkOf v = some c
theorem Grw.refl {e sz : Nat} {h : Heap} {nx : Nat} {v : AV} {es : List (List AV)} (ho : OwnSl e sz h nx v es) {n' : Nat} (hle : nx ≤ n') : Grw e sz h nx v h n' v es :=
  ⟨ho.mono hle, hle, fun c o _ hc _ => hc, fun c hc => .inr hc⟩
theorem Grw.trans {e sz : Nat} {h h1 h2 : Heap} {nx n1 n2 : Nat} {v v1 v2 : AV} {es1 es2 : List (List AV)} (a : Grw e sz h nx v h1 n1 v1 es1) (b : Grw e sz h1 n1 v1 h2 n2 v2 es2) : Grw e sz h nx v h2 n2 v2 es2 := by
  obtain ⟨a1, a2, a3, a4⟩ := a
  obtain ⟨b1, b2, b3, b4⟩ := b
  refine ⟨b1, by omega, fun c o hc hg hv => b3 c o (by omega) (a3 c o hc hg hv) (fun h => ?_), fun c hc => ?_⟩
  · rcases a4 c h with h | h
    · omega
    · exact hv h
  · rcases b4 c hc with h | h
    · exact .inl (by omega)
    · exact a4 c h
theorem OwnSl.grw {e sz bytes : Nat} {h : Heap} {nx : Nat} {x : AV} {es ns : List (List AV)} (ho : OwnSl e sz h nx x es) (hs : ∀ z ∈ es, z.length = sz) (hn : ∀ z ∈ ns, z.length = sz)
    (h1 : (es.length + ns.length) * bytes ≤ 140737488355328) (h2 : es.length + ns.length ≤ maxLen) :
    ∃ x' h' n', appA e sz bytes h nx x (.lst sz ns) = some (x', h', n') ∧ Grw e sz h nx x h' n' x' (es ++ ns) := by
  obtain ⟨x', h', n', ea, ow, hle, fr, id⟩ := ho.app (bytes := bytes) hs hn h1 h2
  refine ⟨x', h', n', ea, ow, hle, fun c o hc hg hb => fr c o hc hg (fun y hy => hb (by rw [hy]; rfl)), fun c hc => ?_⟩
  obtain ⟨e1, _, _⟩ := ow.blk hc
  rcases id c _ e1 with h | ⟨y, h⟩
  · exact .inl h
  · exact .inr (by rw [h]; rfl)
end Go.Ab
namespace Go.Ab
open Go.RowKit
set_option linter.unusedVariables false
set_option linter.unusedSimpArgs false
end Go.Ab
namespace Go.Ab
open Go.RowKit
set_option linter.unusedVariables false
set_option linter.unusedSimpArgs false
theorem AC.oc {P : Program} {f : FuncId} {h : Heap} {nx : Nat} {Q : AE → Heap → Nat → Prop} {b off sz n : Nat} {e : TypeId} (pre post : List AV) (hn : n ≤ maxLen)
    (hc : ∀ c, n ≤ c → c ≤ maxLen → AC P f (pre ++ .oc b off e sz n c :: post) h nx Q) : AC P f (pre ++ .os b off e sz n :: post) h nx Q := by
  refine ⟨(hc n (Nat.le_refl _) hn).1, fun w0 K args hg ha => ?_⟩
  have hlen := ha.1
  have hi : pre.length < args.size := by rw [hlen]; simp
  have hv := ha.2 pre.length (.os b off e sz n) args[pre.length] (by simp) (Array.getElem?_eq_getElem hi)
  have key : ∀ x, VR K nx x args[pre.length] → ArgR K nx (pre ++ x :: post) args := by
    intro x hx
    refine ⟨by rw [hlen]; simp, fun i y v hy hv => ?_⟩
    by_cases h : i = pre.length
    · subst h
      simp at hy; subst hy
      rw [Array.getElem?_eq_getElem hi] at hv; injection hv with hv; subst hv
      exact hx
    · refine ha.2 i y v ?_ hv
      rw [← hy, List.getElem?_append, List.getElem?_append]
      split
      · rfl
      · obtain ⟨j, hj⟩ : ∃ j, i - pre.length = j + 1 := ⟨i - pre.length - 1, by omega⟩
        rw [hj]; rfl
  generalize args[pre.length] = u at hv key
  cases hv with
  | os _ _ _ _ _ a n' cap hn' hb hnc hcap hA hroom =>
    subst hn'
    exact (hc cap hnc hcap).2 w0 K args hg (key _ (.oc b off e sz n' cap a hb hnc hcap hA hroom))
theorem Frz.oc {h : Heap} {b off sz n c : Nat} {e : TypeId} : Frz h (.oc b off e sz n c) h (.os b off e sz n) := fun w0 K nx v g hv => by
  cases hv with
  | oc _ _ _ _ _ _ a hb hc hcap hA hroom => exact ⟨K, rfl, Ext.refl _ _, g, .os b off e sz n a n c rfl hb hc hcap hA hroom⟩
end Go.Ab
namespace Go.Ab
open Go.RowKit
set_option linter.defProp false
def RR := And.intro @fK_bm (And.intro @dFK_bm (And.intro @dAK_callZ (And.intro @dZK_go (And.intro @dRZ_ret (And.intro @go_skip (And.intro @go_label (And.intro @go_exit (And.intro @go_ret (And.intro @go_seq (And.intro @go_block (And.intro @go_cond (And.intro @go_region (And.intro @go_loop (And.intro @go_dregion (And.intro @fin_nil (And.intro @fin_seq_n (And.intro @fin_seq_e (And.intro @fin_seq_r (And.intro @fin_seq_p (And.intro @fin_blk_n (And.intro @fin_blk_e (And.intro @fin_blk_r (And.intro @fin_blk_p (And.intro @rg_nil (And.intro @rg_cons (And.intro @gK_t (And.intro @gK_f (And.intro @aK_op (And.intro @aK_call (And.intro @oK_val (And.intro @oK_skip (And.intro @fK_go (And.intro @rK_ret (And.intro @cK_t (And.intro @cK_f (And.intro @dg_nil (And.intro @dg_cons (And.intro @dGK_t (And.intro @dGK_f (And.intro @dAK_op (And.intro @dS_q (And.intro @dS_l (And.intro @dS_w (And.intro @dAK_call (And.intro @dLK_go (And.intro @dLK2_fp (And.intro @dLK2_op (And.intro @dQK_val (And.intro @dOK_val (And.intro @dOK_skip (And.intro @dFK_go (And.intro @dRK_ret (And.intro @then_n (And.intro @then_e (And.intro @then_r (And.intro @then_p (And.intro @ofV_int (And.intro @ofV_bool (And.intro @ofV_str (And.intro @ofV_nilS (And.intro @ofV_nilP (And.intro @ofV_nilM (And.intro @ofV_nilF (And.intro @ofV_nilI (And.intro @bt1 (And.intro @bt2 (And.intro @bt3 (And.intro @bt4 (And.intro @b_add (And.intro @b_sub (And.intro @b_mul (And.intro @b_eql (And.intro @b_neq (And.intro @b_lss (And.intro @b_leq (And.intro @b_gtr (And.intro @b_geq (And.intro @ptr_fp (And.intro @rel_fp (And.intro @take1 (And.intro @Bool.not_true (And.intro @Bool.not_false (And.intro @decide_true (And.intro @decide_false (And.intro @true_and (And.intro @and_true (And.intro @Fin_ret (And.intro @Fin_normal (And.intro @post_fin (And.intro @and_self (And.intro @Nat.zero_add (And.intro @Nat.add_zero (And.intro @Nat.le_refl (And.intro @Nat.zero_lt_one (And.intro @Bool.or_false (And.intro @Bool.or_self (And.intro @Bool.false_or (And.intro @Bool.true_or (And.intro @Bool.or_true (And.intro @fK_nx (@nK_go)))))))))))))))))))))))))))))))))))))))))))))))))))))))))))))))))))))))))))))))))))))))))))))))))))))
def RE := And.intro @guardOk.eq_1 (And.intro @guardOk.eq_2 (And.intro @opEv.eq_1 (And.intro @opEv.eq_2 (And.intro @opEv.eq_3 (And.intro @opEv.eq_4 (And.intro @opEv.eq_5 (And.intro @opEv.eq_6 (And.intro @opEv.eq_7 (And.intro @opEv.eq_8 (And.intro @opEv.eq_9 (And.intro @opEv.eq_10 (And.intro @opEv.eq_11 (And.intro @opEv.eq_12 (And.intro @opEv.eq_13 (And.intro @opEv.eq_14 (And.intro @opEv.eq_15 (And.intro @opEv.eq_16 (And.intro @opEv.eq_17 (And.intro @opEv.eq_18 (And.intro @opEv.eq_19 (And.intro @opEv.eq_20 (And.intro @opEv.eq_21 (And.intro @opEv.eq_22 (And.intro @opEv.eq_23 (And.intro @opEv.eq_24 (And.intro @opEv.eq_25 (And.intro @opEv.eq_26 (And.intro @opEv.eq_27 (And.intro @opEv.eq_28 (And.intro @opEv.eq_29 (And.intro @opEv.eq_30 (And.intro @opEv.eq_31 (And.intro @opEv.eq_32 (And.intro @opEv.eq_33 (And.intro @opEv.eq_34 (And.intro @opEv.eq_35 (And.intro @opEv.eq_36 (And.intro @opEv.eq_37 (And.intro @opEv.eq_38 (And.intro @opEv.eq_39 (And.intro @opEv.eq_40 (And.intro @opEv.eq_41 (And.intro @opEv.eq_42 (And.intro @opEv.eq_43 (And.intro @oev.eq_1 (And.intro @oev.eq_2 (And.intro @oev.eq_3 (And.intro @oev.eq_4 (And.intro @oevs.eq_1 (And.intro @oevs.eq_2 (And.intro @eget.eq_1 (And.intro @eget.eq_2 (And.intro @setE.eq_1 (And.intro @setE.eq_2 (And.intro @dropE.eq_1 (And.intro @edel.eq_1 (And.intro @edel.eq_2 (And.intro @penv.eq_1 (And.intro @penv.eq_2 (And.intro @AOp.quiet.eq_1 (And.intro @AOp.quiet.eq_2 (And.intro @AOp.quiet.eq_3 (And.intro @AOp.quiet.eq_4 (And.intro @AOp.quiet.eq_5 (And.intro @AOp.quiet.eq_6 (And.intro @AOp.quiet.eq_7 (And.intro @AOp.quiet.eq_8 (And.intro @AOp.quiet.eq_9 (And.intro @AOp.quiet.eq_10 (And.intro @AOp.quiet.eq_11 (And.intro @AOp.quiet.eq_12 (And.intro @AOp.quiet.eq_13 (And.intro @AOp.quiet.eq_14 (And.intro @AOp.quiet.eq_15 (And.intro @AOp.quiet.eq_16 (And.intro @AOp.quiet.eq_17 (And.intro @AOp.quiet.eq_18 (And.intro @AOp.quiet.eq_19 (And.intro @AOp.quiet.eq_20 (And.intro @AOp.quiet.eq_21 (And.intro @AOp.quiet.eq_22 (And.intro @AOp.quiet.eq_23 (And.intro @AOp.quiet.eq_24 (And.intro @AOp.quiet.eq_25 (And.intro @AOp.quiet.eq_26 (And.intro @AOp.quiet.eq_27 (And.intro @AOp.quiet.eq_28 (And.intro @AOp.quiet.eq_29 (And.intro @AOp.quiet.eq_30 (And.intro @AOp.quiet.eq_31 (And.intro @AOp.isLoad.eq_1 (And.intro @AOp.isLoad.eq_2 (And.intro @pendOk.eq_1 (And.intro @pendOk.eq_2 (And.intro @pendKeep.eq_1 (And.intro @pendKeep.eq_2 (And.intro @addA.eq_1 (And.intro @addA.eq_2 (And.intro @addA.eq_3 (And.intro @rvsEv.eq_1 (And.intro @rvsEv.eq_2 (And.intro @rvEv.eq_1 (And.intro @rvEv.eq_2 (And.intro @resV.eq_1 (And.intro @resV.eq_2 (And.intro @cellsOf.eq_1 (And.intro @cellsOf.eq_2 (And.intro @AV.plain.eq_1 (And.intro @AV.plain.eq_2 (And.intro @partsE.eq_1 (And.intro @partsE.eq_2 (And.intro @partsE3.eq_1 (And.intro @partsE3.eq_2 (And.intro @fillE.eq_1 (And.intro @fillE.eq_2 (And.intro @fillA.eq_1 (And.intro @fillA.eq_2 (And.intro @mopEv.eq_1 (And.intro @mopEv.eq_2 (And.intro @mopEv.eq_3 (And.intro @mopEv.eq_4 (And.intro @mopEv.eq_5 (And.intro @mopEv.eq_6 (And.intro @mopEv.eq_7 (And.intro @mopEv.eq_8 (And.intro @mopEv.eq_9 (And.intro @mopEv.eq_10 (And.intro @mopEv.eq_11 (And.intro @MOp.quiet.eq_1 (And.intro @MOp.quiet.eq_2 (And.intro @MOp.quiet.eq_3 (And.intro @MOp.quiet.eq_4 (And.intro @MOp.quiet.eq_5 (And.intro @List.toList_toArray.{0} (And.intro @List.drop_zero.{0} (And.intro @List.drop_succ_cons.{0} (And.intro @List.cons_append.{0} (And.intro @List.nil_append.{0} (And.intro @List.append_nil.{0} (And.intro @List.take_succ_cons.{0} (And.intro @List.take_zero.{0} (And.intro @List.length_cons.{0} (And.intro @List.length_nil.{0} (And.intro @List.getElem?_cons_zero.{0} (And.intro @List.getElem?_cons_succ.{0} (And.intro @List.replicate_succ.{0} (And.intro @List.replicate_zero.{0} (And.intro @List.set_cons_zero.{0} (And.intro @List.set_cons_succ.{0} (And.intro @List.contains_cons.{0} (And.intro @List.contains_nil.{0} (And.intro @ex_some (@eq_self.{1})))))))))))))))))))))))))))))))))))))))))))))))))))))))))))))))))))))))))))))))))))))))))))))))))))))))))))))))))))))))))))))))))))))))))))))))))))))))))
def RP := And.intro @ptrCells.eq_1 (And.intro @ptrCells.eq_2 (And.intro @ptrCells.eq_3 (@reload.eq_1)))
def RG := And.intro @hget.eq_1 (And.intro @hget.eq_2 (And.intro @hset.eq_1 (And.intro @hdel.eq_1 (And.intro @hdel.eq_2 (And.intro @storeH.eq_1 (And.intro @storeH.eq_2 (@splice.eq_1)))))))
def RA := And.intro RR (And.intro RE (And.intro RP RG))
end Go.Ab
namespace Go.Ab
open Go.RowKit
set_option linter.unusedVariables false
set_option linter.unusedSimpArgs false
def Wd.all (K : Wd) : Wd := { w := K.w, m := K.m, Z := fun b _ => b < K.w.heap.size, lo := K.w.heap.size, ds := K.ds }
theorem VR.all {w0 : World} {K : Wd} {h : Heap} {nx : Nat} (g : Good w0 K h nx) {x : AV} {v : Value} (hv : VR K nx x v) : VR K.all nx x v := by
  have e : Ext K nx { K.all with lo := K.lo, Z := fun b o => K.Z b o ∨ (K.lo ≤ b ∧ b < K.w.heap.size) } nx :=
    ⟨Nat.le_refl _, fun _ _ => rfl, fun _ _ h => .inl h, fun _ _ _ => rfl, fun _ c _ h => ⟨c, h, rfl⟩, rfl, fun _ _ h => h.imp id And.left, rfl⟩
  have ice : ∀ a u, K.ice a u → K.all.ice a u := fun a u ⟨h1, h2⟩ => ⟨h1, g.zin _ _ h2⟩
  induction hv with
  | int k n => exact .int k n
  | bool b => exact .bool b
  | str l s h => exact .str l s h
  | agg cs c hs h1 h ih => exact .agg cs c hs h1 ih
  | tup cs c hs h ih => exact .tup cs c hs ih
  | lst0 sz es A n cap h0 hn hA => exact .lst0 sz es A n cap h0 hn hA
  | lst sz es a n cap c hn hc hcap hsz h1 hr h ih => exact .lst sz es a n cap c hn hc hcap hsz h1 (fun k hk => ice _ _ (hr k hk)) ih
  | fp cs a c h1 hr h ih => exact .fp cs a c h1 (fun k hk => ice _ _ (hr k hk)) ih
  | op b off hb a ha => exact .op b off hb a ha
  | os b off e sz len a n cap hn hb hc hcap hA hroom => exact .os b off e sz len a n cap hn hb hc hcap hA hroom
  | nilS => exact .nilS
  | emp A => exact .emp A
  | nilP => exact .nilP
  | nilI => exact .nilI
  | nilF => exact .nilF
  | nilM => exact .nilM
  | mp b hb r hr => exact .mp b hb r hr
  | fn f caps c hs h ih => exact .fn f caps c hs ih
  | bm f fs caps c1 c hs1 hs h1 h ih1 ih => exact .bm f fs caps c1 c hs1 hs ih1 ih
  | ifc t x v h ih => exact .ifc t x v ih
  | ne0 a cap => exact .ne0 a cap
  | yl b hb l hl => exact .yl b hb l hl
  | any v h => exact .any v h
  | oc b off e sz len cap a hb hc hcap hA hroom => exact .oc b off e sz len cap a hb hc hcap hA hroom
theorem Good.all {w0 : World} {K : Wd} {h : Heap} {nx : Nat} (g : Good w0 K h nx) : Good K.w K.all [] nx :=
  ⟨fun b o hb => by simp [hget] at hb, fun b b' o o' hb => by simp [hget] at hb, Below.refl _ _, fun b off h => h, rfl, fun gi cs hg => (g.gl gi cs hg).all g⟩
def Ice (h : Heap) (x x' : AV) : Prop := ∀ (w0 : World) (K : Wd) (nx : Nat) (v : Value), Good w0 K h nx → VR K nx x v → VR K.all nx x' v
theorem Ice.refl (h : Heap) (x : AV) : Ice h x x := fun w0 K nx v g hv => hv.all g
theorem Ice.nilS (h : Heap) (sz : Nat) : Ice h .nilS (.lst sz []) := fun w0 K nx v g hv => by cases hv; exact .lst0 _ _ _ _ _ rfl rfl fun _ => rfl
theorem Ice.emp (h : Heap) (sz : Nat) : Ice h .emp (.lst sz []) := fun w0 K nx v g hv => by cases hv; exact .lst0 _ _ _ _ _ rfl rfl fun _ => rfl
def IceL (h : Heap) (xs ys : List AV) : Prop := xs.length = ys.length ∧ ∀ (i : Nat) (x y : AV), xs[i]? = some x → ys[i]? = some y → Ice h x y ∧ y.one = true
theorem IceL.nil (h : Heap) : IceL h [] [] := ⟨rfl, fun i x y hx => by simp at hx⟩
theorem IceL.cons {h : Heap} {x y : AV} {xs ys : List AV} (h1 : Ice h x y) (h2 : y.one = true) (hr : IceL h xs ys) : IceL h (x :: xs) (y :: ys) := by
  refine ⟨by simp [hr.1], fun i a b ha hb => ?_⟩
  cases i with
  | zero => simp at ha hb; subst ha; subst hb; exact ⟨h1, h2⟩
  | succ i => exact hr.2 i a b (by simpa using ha) (by simpa using hb)
theorem IceL.same {h : Heap} : ∀ {xs : List AV}, (∀ x ∈ xs, x.one = true) → IceL h xs xs
  | [], _ => .nil h
  | x :: xs, h1 => .cons (.refl _ _) (h1 x (by simp)) (IceL.same fun y hy => h1 y (by simp [hy]))
theorem Ice.agg {h : Heap} {xs ys : List AV} (hl : IceL h xs ys) : Ice h (.agg xs) (.agg ys) := fun w0 K nx v g hv => by
  cases hv with
  | agg _ c hs h1 hc =>
    refine .agg ys c (by rw [hs, hl.1]) (fun i y hy => ?_) fun i y u hy hu => ?_
    · have hi := (List.getElem?_eq_some_iff.1 hy).1
      have hx : xs[i]? = some (xs[i]'(by rw [hl.1]; exact hi)) := List.getElem?_eq_getElem _
      exact (hl.2 i _ y hx hy).2
    · have hi := (List.getElem?_eq_some_iff.1 hy).1
      have hx : xs[i]? = some (xs[i]'(by rw [hl.1]; exact hi)) := List.getElem?_eq_getElem _
      exact (hl.2 i _ y hx hy).1 w0 K nx u g (hc i _ u hx hu)
theorem Ice.os {h : Heap} {b sz n : Nat} {e : TypeId} {es fs : List (List AV)} (hb : hget h b = some (.cells es.flatten)) (hs : ∀ x ∈ es, x.length = sz) (hn : n = es.length) (hl : es.length = fs.length)
    (hf : ∀ (i : Nat) x y, es[i]? = some x → fs[i]? = some y → IceL h x y) : Ice h (.os b 0 e sz n) (.lst sz fs) := fun w0 K nx v g hv => by
  subst hn
  cases hv with
  | os _ _ _ _ _ a m cap hn hlt hc hcap hA hroom =>
    subst hn
    by_cases h0 : es.length = 0
    · obtain rfl : fs = [] := by simpa [h0] using hl.symm
      rw [h0]
      exact .lst0 _ _ _ _ _ rfl rfl fun h => by cases h
    · obtain rfl := hA (by omega)
      obtain ⟨h1, h2, h3, ob, h4, h5⟩ := g.live b _ hb
      cases h5 with
      | cells _ c e' hsz hone hcs =>
        have hfl : es.flatten.length = es.length * sz := flat_len hs
        have fsz : ∀ (i : Nat) (y : List AV), fs[i]? = some y → y.length = sz := fun i y hy => by
          have hi := (List.getElem?_eq_some_iff.1 hy).1
          have hx : es[i]? = some (es[i]'(by rw [hl]; exact hi)) := List.getElem?_eq_getElem _
          rw [← (hf i _ y hx hy).1]; exact hs _ (List.getElem_mem _)
        have cell : ∀ k, K.w.cell? ((⟨K.m b, 0, none⟩ : Addr).add k) = c[k]? := fun k => by
          rw [add_eq, Nat.zero_add]; exact cell_row h4 k
        refine .lst sz fs _ es.length cap (fun k => c.getD k undef) hl hc hcap fsz (fun i y hy j z hz => ?_) (fun k hk => ⟨?_, ?_⟩) fun i y hy j z hz => ?_
        · have hi := (List.getElem?_eq_some_iff.1 hy).1
          have hx : es[i]? = some (es[i]'(by rw [hl]; exact hi)) := List.getElem?_eq_getElem _
          have hll := hf i _ y hx hy
          have hj := (List.getElem?_eq_some_iff.1 hz).1
          have hxj : (es[i]'(by rw [hl]; exact hi))[j]? = some ((es[i]'(by rw [hl]; exact hi))[j]'(by rw [hll.1]; exact hj)) := List.getElem?_eq_getElem _
          exact (hll.2 j _ z hxj hz).2
        · show K.w.cell? _ = _
          rw [cell k]
          have : k < c.size := by omega
          simp [Array.getD, this]
        · show (Addr.add _ k).block < K.w.heap.size
          rw [add_block]; exact lt_of_row h4
        · have hi := (List.getElem?_eq_some_iff.1 hy).1
          have hx : es[i]? = some (es[i]'(by rw [hl]; exact hi)) := List.getElem?_eq_getElem _
          have hll := hf i _ y hx hy
          have hj := (List.getElem?_eq_some_iff.1 hz).1
          have hxj : (es[i]'(by rw [hl]; exact hi))[j]? = some ((es[i]'(by rw [hl]; exact hi))[j]'(by rw [hll.1]; exact hj)) := List.getElem?_eq_getElem _
          have hat := flat_at hs i _ hx j _ hxj
          have hk : i * sz + j < c.size := by
            have := (List.getElem?_eq_some_iff.1 hat).1
            omega
          have hck : c[i * sz + j]? = some (c.getD (i * sz + j) undef) := by simp [Array.getD, hk]
          exact (hll.2 j _ z hxj hz).1 w0 K nx _ g (hcs _ _ _ hat hck)
def AV.flat : AV → Bool
  | .int _ _ => true
  | .bool _ => true
  | .str _ => true
  | _ => false
theorem VR.flat {K K' : Wd} {n n' : Nat} {x : AV} {v : Value} (h : VR K n x v) (hf : x.flat = true) : VR K' n' x v := by
  cases h <;> simp [AV.flat] at hf
  · exact .int _ _
  · exact .bool _
  · exact .str _ _ ‹_›
def IceA (h : Heap) : List AV → List AV → Prop
  | [], [] => True
  | x :: xs, y :: ys => Ice h x y ∧ IceA h xs ys
  | _, _ => False
theorem IceA.len {h : Heap} : ∀ {xs ys : List AV}, IceA h xs ys → xs.length = ys.length
  | [], [], _ => rfl
  | x :: xs, y :: ys, h => by simp [IceA.len h.2]
  | [], _ :: _, h => h.elim
  | _ :: _, [], h => h.elim
theorem IceA.at {h : Heap} : ∀ {xs ys : List AV}, IceA h xs ys → ∀ (i : Nat) (x y : AV), xs[i]? = some x → ys[i]? = some y → Ice h x y
  | x :: xs, y :: ys, hh, i, a, b, ha, hb => by
    cases i with
    | zero => simp at ha hb; subst ha; subst hb; exact hh.1
    | succ i => exact IceA.at hh.2 i a b (by simpa using ha) (by simpa using hb)
  | [], [], _, i, a, b, ha, hb => by simp at ha
  | [], _ :: _, hh, _, _, _, _, _ => hh.elim
  | _ :: _, [], hh, _, _, _, _, _ => hh.elim
theorem AC.ro {P : Program} {f : FuncId} {xs ys : List AV} {r : AV} {h : Heap} {nx : Nat} (hc : Pure P f ys r) (hi : IceA h xs ys) (hr : r.flat = true) : AC P f xs h nx fun y h' n' => y = .ret r ∧ h' = h ∧ nx ≤ n' := by
  refine ⟨(hc [] nx).1, fun w0 K args hg ha => ?_⟩
  refine ((hc [] nx).2 K.w K.all args hg.all ⟨by rw [ha.1, hi.len], fun i y v hy hv => ?_⟩).mono ?_
  · have hlt := (List.getElem?_eq_some_iff.1 hy).1
    have hx : xs[i]? = some (xs[i]'(by rw [hi.len]; exact hlt)) := List.getElem?_eq_getElem _
    exact hi.at i _ y hx hy w0 K nx v hg (ha.2 i _ v hx hv)
  rintro e w' ⟨K', h', nx', y, rfl, hext, hgood, her, rfl, rfl, hle⟩
  have hle : w0.heap.size ≤ K.w.heap.size := hg.below.size
  have bk : ∀ b, b < K.w.heap.size → K'.w.heap[b]? = K.w.heap[b]? := fun b hb => hgood.below.block b hb
  have hex : Ext K nx { K with w := K'.w } nx :=
    ⟨Nat.le_refl _, fun _ _ => rfl, fun _ _ h => h, fun b o hz => by simp only [World.cell?, bk b (hg.zin b o hz)], fun b c e hb => ⟨c, by simp only; rw [bk b (lt_of_row hb)]; exact hb, rfl⟩, rfl, fun _ _ h => .inl h, rfl⟩
  refine ⟨{ K with w := K'.w }, h, nx, .ret r, rfl, hex, ?_, ?_, rfl, rfl, Nat.le_refl _⟩
  · refine ⟨fun b o hb => ?_, hg.inj, hg.below.trans (hgood.below.mono hle), fun b off hz => Nat.lt_of_lt_of_le (hg.zin b off hz) hgood.below.size, hg.lo, hg.gl.mono hex⟩
    obtain ⟨h1, h2, h3, ob, h4, h5⟩ := hg.live b o hb
    exact ⟨h1, h2, h3, ob, by simp only; rw [bk _ (lt_of_row h4)]; exact h4, h5.mono hex⟩
  · cases e <;> simp only [AER] at her ⊢ <;> exact her.flat hr
end Go.Ab
namespace Go.Sa
open Go Go.Ab
open Nat (reduceEqDiff reduceAdd reduceLeDiff reduceLT)
abbrev t (n : Nat) : Operand := .tmp n
abbrev i (n : Int) : Operand := .const (.int .i64 n)
abbrev b1 : Operand := .const (.bool true)
abbrev ns : Operand := .const (.slice none 0 0)
abbrev r (l : List AStep) : ACode := .region l
abbrev s (d : Nat) (o : AOp) : AStep := ⟨some d, none, .op o⟩
abbrev m (d x : Nat) : AStep := ⟨some d, none, .op (.move (.tmp x))⟩
abbrev l (d x : Nat) : AStep := ⟨some d, none, .op (.load 1 false (.tmp x))⟩
abbrev e (d x k : Nat) : AStep := ⟨some d, none, .op (.ext (.tmp x) k)⟩
abbrev c (d f : Nat) (xs : List Operand) : AStep := ⟨some d, none, .call (.func f) xs⟩
abbrev gf (d g : Nat) (o : AOp) : AStep := ⟨some d, some (g, false), .op o⟩
set_option linter.defProp false
end Go.Sa
namespace Go.Ab
open Go.RowKit
set_option linter.unusedVariables false
set_option linter.unusedSimpArgs false
def FrzC (h : Heap) (cs : List AV) (h' : Heap) (cs' : List AV) : Prop := cs.length = cs'.length ∧ (∀ x ∈ cs', x.one = true) ∧
  ∀ (w0 : World) (K : Wd) (nx : Nat) (c : Nat → Value), Good w0 K h nx → (∀ (i : Nat) x, cs[i]? = some x → VR K nx x (c i)) → ∃ K', K'.w = K.w ∧ Ext K nx K' nx ∧ Good w0 K' h' nx ∧ ∀ (i : Nat) y, cs'[i]? = some y → VR K' nx y (c i)
theorem FrzC.nil (h : Heap) : FrzC h [] h [] := ⟨rfl, fun x hx => by simp at hx, fun w0 K nx c g hc => ⟨K, rfl, Ext.refl _ _, g, fun i y hy => by simp at hy⟩⟩
theorem FrzC.cons {h h1 h2 : Heap} {x x' : AV} {r r' : List AV} (hf : Frz h x h1 x') (o : x'.one = true) (hr : FrzC h1 r h2 r') : FrzC h (x :: r) h2 (x' :: r') := by
  obtain ⟨hl, ho, hr⟩ := hr
  refine ⟨by simp [hl], fun y hy => ?_, fun w0 K nx c g hc => ?_⟩
  · rcases List.mem_cons.1 hy with rfl | hy
    · exact o
    · exact ho y hy
  · obtain ⟨K1, a1, a2, a3, a4⟩ := hf w0 K nx (c 0) g (hc 0 x rfl)
    obtain ⟨K2, b1, b2, b3, b4⟩ := hr w0 K1 nx (fun i => c (i + 1)) a3 fun i y hy => (hc (i + 1) y (by simpa using hy)).mono a2
    refine ⟨K2, b1.trans a1, a2.trans b2, b3, fun i y hy => ?_⟩
    cases i with
    | zero => simp at hy; subst hy; exact a4.mono b2
    | succ i => exact b4 i y (by simpa using hy)
theorem FrzC.keep {h h2 : Heap} {x : AV} {r r' : List AV} (o : x.one = true) (hr : FrzC h r h2 r') : FrzC h (x :: r) h2 (x :: r') := .cons (.refl _ _) o hr
theorem Frz.agg {h h' : Heap} {cs cs' : List AV} (hf : FrzC h cs h' cs') : Frz h (.agg cs) h' (.agg cs') := fun w0 K nx v g hv => by
  obtain ⟨hl, ho, hf⟩ := hf
  cases hv with
  | agg _ c hs h1 hc =>
    obtain ⟨K', a1, a2, a3, a4⟩ := hf w0 K nx (fun i => c.getD i undef) g fun i x hx => by
      have hi := (List.getElem?_eq_some_iff.1 hx).1
      have hi' : i < c.size := by omega
      refine hc i x _ hx ?_
      simp [Array.getD, hi']
    refine ⟨K', a1, a2, a3, .agg _ c (by omega) (fun i x hx => ho x (List.mem_of_getElem? hx)) fun i y u hy hu => ?_⟩
    have := a4 i y hy
    have hi := (Array.getElem?_eq_some_iff.1 hu).1
    have e : c.getD i undef = u := by
      have := (Array.getElem?_eq_some_iff.1 hu).2
      simp [Array.getD, hi, this]
    rw [e] at this; exact this
end Go.Ab
namespace Go.Ab
open Go.RowKit Go.Sa
open Nat (reduceEqDiff reduceAdd reduceLeDiff reduceLT)
set_option linter.unusedVariables false
set_option linter.unusedSimpArgs false
set_option maxRecDepth 20000
def Sub (h h' : Heap) : Prop := ∀ b o, hget h b = some o → hget h' b = some o
theorem Sub.refl (h : Heap) : Sub h h := fun _ _ e => e
theorem Sub.trans {a b c : Heap} (h1 : Sub a b) (h2 : Sub b c) : Sub a c := fun k o e => h2 k o (h1 k o e)
theorem Sub.nil (h : Heap) : Sub [] h := fun b o e => by simp [hget] at e
def Dsj (h h' : Heap) : Prop := ∀ b o, hget h b = some o → hget h' b = none
theorem Dsj.symm {h h' : Heap} (hd : Dsj h h') : Dsj h' h := fun b o e => by
  cases hq : hget h b with
  | none => rfl
  | some o' => rw [hd b o' hq] at e; cases e
theorem Dsj.sub {a b a' b' : Heap} (h1 : Sub a a') (h2 : Sub b b') (hd : Dsj a' b') : Dsj a b := fun k o e => by
  cases hq : hget b k with
  | none => rfl
  | some o' =>
    have := hd k o (h1 k o e)
    rw [h2 k o' hq] at this; cases this
theorem Dsj.app {a b c : Heap} (h1 : Dsj a c) (h2 : Dsj b c) : Dsj (a ++ b) c := fun k o e => by
  rw [hget_append] at e
  cases hq : hget a k with
  | none => rw [hq] at e; exact h2 k o (by simpa using e)
  | some o' => exact h1 k o' hq
theorem cellsA (c : List AV) : cellsOf (.agg c) = c := rfl
end Go.Ab
