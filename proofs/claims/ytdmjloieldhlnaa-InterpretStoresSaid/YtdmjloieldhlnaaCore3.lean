/- The operations on abstract values, and that the model's operations do the same: first part, without slices that grow. -/
import Derived.Test.YtdmjloieldhlnaaCore2
import Derived.Laws.StructEq
import Derived.Laws.CopyRow
namespace Go.Ab
open Go.RowKit
set_option linter.unusedVariables false
set_option linter.unusedSimpArgs false

/-! ### Values that are constants -/
def ofC : Value → Option AV
  | .int k n => some (.int k n)
  | .bool b => some (.bool b)
  | .string s => some (.str s.data.toList)
  | .pointer none => some .nilP
  | .slice none 0 0 => some .nilS
  | .map none => some .nilM
  | .nilFunc => some .nilF
  | .nilIface => some .nilI
  | _ => none
theorem ofC_one {v : Value} {x : AV} (h : ofC v = some x) : x.one = true := by
  unfold ofC at h
  split at h <;> first | (cases h; rfl) | cases h
theorem ofC_sound {K : Wd} {nx : Nat} {v : Value} {x : AV} (h : ofC v = some x) : VR K nx x v := by
  unfold ofC at h
  split at h <;> first | cases h | skip
  · exact .int _ _
  · exact .bool _
  · exact .str _ _ rfl
  · exact .nilP
  · exact .nilS
  · exact .nilM
  · exact .nilF
  · exact .nilI

/-- Cells of the model and of the abstract state, one by one. -/
structure CR (K : Wd) (nx : Nat) (cs : List AV) (c : List Value) : Prop where
  len : c.length = cs.length
  one : ∀ (i : Nat) (x : AV), cs[i]? = some x → x.one = true
  at_ : ∀ (i : Nat) (x : AV) (v : Value), cs[i]? = some x → c[i]? = some v → VR K nx x v

theorem CR.nil (K : Wd) (nx : Nat) : CR K nx [] [] := ⟨rfl, fun i x h => by simp at h, fun i x v h => by simp at h⟩
theorem CR.mono {K K' : Wd} {n n' : Nat} (he : Ext K n K' n') {cs : List AV} {c : List Value} (h : CR K n cs c) : CR K' n' cs c := ⟨h.len, h.one, fun i x v h1 h2 => (h.at_ i x v h1 h2).mono he⟩
theorem CR.append {K : Wd} {nx : Nat} {cs ds : List AV} {c d : List Value} (h : CR K nx cs c) (k : CR K nx ds d) : CR K nx (cs ++ ds) (c ++ d) := by
  refine ⟨by simp [h.len, k.len], fun i x hx => ?_, fun i x v hx hv => ?_⟩
  · rw [List.getElem?_append] at hx
    split at hx
    · exact h.one _ _ hx
    · exact k.one _ _ hx
  · rw [List.getElem?_append] at hx hv
    rw [h.len] at hv
    split at hx
    · rename_i hi; rw [if_pos hi] at hv; exact h.at_ _ _ _ hx hv
    · rename_i hi; rw [if_neg hi] at hv; exact k.at_ _ _ _ hx hv
theorem CR.take {K : Wd} {nx : Nat} {cs : List AV} {c : List Value} (h : CR K nx cs c) (n : Nat) : CR K nx (cs.take n) (c.take n) := by
  refine ⟨by simp [h.len], fun i x hx => ?_, fun i x v hx hv => ?_⟩
  · rw [List.getElem?_take] at hx; split at hx
    · exact h.one _ _ hx
    · cases hx
  · rw [List.getElem?_take] at hx hv; split at hx
    · rename_i hi; rw [if_pos hi] at hv; exact h.at_ _ _ _ hx hv
    · cases hx
theorem CR.drop {K : Wd} {nx : Nat} {cs : List AV} {c : List Value} (h : CR K nx cs c) (n : Nat) : CR K nx (cs.drop n) (c.drop n) := by
  refine ⟨by simp [h.len], fun i x hx => ?_, fun i x v hx hv => ?_⟩
  · rw [List.getElem?_drop] at hx; exact h.one _ _ hx
  · rw [List.getElem?_drop] at hx hv; exact h.at_ _ _ _ hx hv
theorem CR.single {K : Wd} {nx : Nat} {x : AV} {v : Value} (h : VR K nx x v) (h1 : x.one = true) : CR K nx [x] [v] := by
  refine ⟨rfl, fun i y hy => ?_, fun i y u hy hu => ?_⟩
  · cases i with
    | zero => simp at hy; subst hy; exact h1
    | succ i => simp at hy
  · cases i with
    | zero => simp at hy hu; subst hy; subst hu; exact h
    | succ i => simp at hy
theorem CR.ofC {K : Wd} {nx : Nat} : ∀ {c : List Value} {cs : List AV}, c.mapM Go.Ab.ofC = some cs → CR K nx cs c
  | [], cs, h => by simp at h; subst h; exact .nil _ _
  | v :: c, cs, h => by
    simp only [List.mapM_cons, Option.bind_eq_bind, Option.bind_eq_some_iff, Option.pure_def, Option.some.injEq] at h
    obtain ⟨x, hx, ys, hys, rfl⟩ := h
    exact (CR.single (ofC_sound hx) (ofC_one hx)).append (CR.ofC hys)
theorem CR.oneCell {K : Wd} {nx : Nat} {cs : List AV} {c : List Value} (h : CR K nx cs c) : ∀ v ∈ c, v.oneCell' = true := by
  intro v hv
  obtain ⟨i, hi⟩ := List.getElem?_of_mem hv
  have hl := (List.getElem?_eq_some_iff.1 hi).1
  rw [h.len] at hl
  have hx : cs[i]? = some cs[i] := List.getElem?_eq_getElem hl
  exact (h.at_ i _ v hx hi).oneCell (h.one i _ hx)
theorem VR.ofAgg {K : Wd} {nx : Nat} {cs : List AV} {c : Array Value} (h : VR K nx (.agg cs) (.agg c)) : CR K nx cs c.toList := by
  cases h with
  | agg _ _ hs h1 h => exact ⟨by simpa using hs, h1, fun i x v hx hv => h i x v hx (by simpa using hv)⟩
theorem CR.toAgg {K : Wd} {nx : Nat} {cs : List AV} {c : List Value} (h : CR K nx cs c) : VR K nx (.agg cs) (.agg c.toArray) :=
  .agg cs c.toArray (by simpa using h.len) h.one fun i x v hx hv => h.at_ i x v hx (by simpa using hv)
theorem CR.toAgg' {K : Wd} {nx : Nat} {cs : List AV} {c : Array Value} (h : CR K nx cs c.toList) : VR K nx (.agg cs) (.agg c) := by simpa using h.toAgg

/-- The cells of a value. -/
def cellsOf : AV → List AV
  | .agg cs => cs
  | x => [x]
def AV.plain : AV → Bool
  | .tup _ => false
  | _ => true
theorem VR.cells {K : Wd} {nx : Nat} {x : AV} {v : Value} (h : VR K nx x v) (hp : x.plain = true) : CR K nx (cellsOf x) v.cells.toList := by
  by_cases h1 : x.one = true
  · have hc : cellsOf x = [x] := by cases x <;> simp_all [cellsOf, AV.one]
    rw [hc, oneCell_cells (h.oneCell h1)]
    exact .single h h1
  · cases h <;> simp [AV.one] at h1
    · rename_i cs c hs h1' h'
      exact VR.ofAgg (.agg cs c hs h1' h')
    · simp [AV.plain] at hp

def ofV : Value → Option AV
  | .agg c => (c.toList.mapM ofC).map .agg
  | v => ofC v
theorem ofV_sound {K : Wd} {nx : Nat} {v : Value} {x : AV} (h : ofV v = some x) : VR K nx x v := by
  unfold ofV at h
  split at h
  · rename_i c
    obtain ⟨cs, hcs, rfl⟩ := Option.map_eq_some_iff.1 h
    exact (CR.ofC hcs).toAgg'
  · exact ofC_sound h

def oev (env : Env) : Operand → Option AV
  | .tmp t => eget env t
  | .const v => ofV v
  | .func f => some (.fn (.func f) [])
  | .global _ => none
theorem oev_sound {K : Wd} {nx : Nat} {env : Env} {a : Act} (he : EnvR K nx env a.tmps) {o : Operand} {x : AV} (h : oev env o = some x) : VR K nx x (a.eval o) := by
  cases o with
  | tmp t =>
    obtain ⟨v, h1, h2⟩ := he t x h
    have : a.eval (.tmp t) = v := by simp [Act.eval, Array.getD_eq_getD_getElem?, h1]
    rwa [this]
  | const v => exact ofV_sound h
  | func f => simp only [oev, Option.some.injEq] at h; subst h; exact .fn _ [] #[] rfl fun i x v hx => by simp at hx
  | global g => cases h

/-! ### What is read through a pointer -/
def ptrCells (h : Heap) : AV → Option (List AV)
  | .fp cs => some cs
  | .op b off => match hget h b with
    | some (.cells cs) => some (cs.drop off)
    | _ => none
  | _ => none
theorem ptrCells_sound {w0 : World} {K : Wd} {h : Heap} {nx : Nat} (g : Good w0 K h nx) {p : AV} {cs : List AV} (hp : ptrCells h p = some cs) {v : Value} (hv : VR K nx p v) :
    ∃ a c, v = .pointer (some a) ∧ CR K nx cs c ∧ ∀ j, j < cs.length → K.w.cell? (a.add j) = some (c.getD j undef) := by
  unfold ptrCells at hp
  split at hp
  · simp only [Option.some.injEq] at hp; subst hp
    rename_i cs
    cases hv with
    | fp _ a c h1 hr h =>
      refine ⟨a, (List.range cs.length).map c, rfl, ⟨by simp, h1, fun i x v hx hv => ?_⟩, fun j hj => ?_⟩
      · have hi : i < cs.length := (List.getElem?_eq_some_iff.1 hx).1
        have : v = c i := by simpa [hi] using hv.symm
        rw [this]; exact h i x hx
      · have := (hr j hj).1
        simpa [List.getD_eq_getElem?_getD, hj] using this
  · rename_i b off
    split at hp
    · rename_i cs0 hb
      simp only [Option.some.injEq] at hp; subst hp
      cases hv with
      | op _ _ hlt a ha =>
        subst ha
        obtain ⟨_, _, _, ob, hob, hor⟩ := g.live b _ hb
        cases hor with
        | cells _ c e hs h1 h =>
          have hcr : CR K nx cs0 (c.toList.take cs0.length) := ⟨by simp; omega, h1, fun i x v hx hv => by
            have hi : i < cs0.length := (List.getElem?_eq_some_iff.1 hx).1
            exact h i x v hx (by simpa [List.getElem?_take, hi] using hv)⟩
          refine ⟨_, _, rfl, hcr.drop off, fun j hj => ?_⟩
          rw [add_eq, cell_row hob]
          have hj' : off + j < cs0.length := by simp at hj; omega
          have hj2 : off + j < c.size := by omega
          simp [List.getD_eq_getElem?_getD, List.getElem?_drop, List.getElem?_take, hj', hj2]
    · cases hp
  · cases hp

theorem run_loadCells_CR {P : Program} {w : World} {a : Addr} {c : List Value} {n m : Nat} (hn : n ≤ m) (hm : c.length = m) (h : ∀ j, j < m → w.cell? (a.add j) = some (c.getD j undef)) :
    (loadCells a n).run P w = .ok (c.take n).toArray w := by
  rw [run_loadCells w a n (fun j => c.getD j undef) (fun j hj => h j (by omega))]
  congr 2
  apply List.ext_getElem?
  intro j
  by_cases hj : j < n
  · have : j < c.length := by omega
    simp [hj, this, List.getD_eq_getElem?_getD]
  · simp [hj]; omega

def isAggT (P : Program) (t : TypeId) : Bool := match P.underlying t with
  | some (.struct _) | some (.array _ _) => true
  | _ => false
theorem run_isAggT {P : Program} {t : TypeId} {d : TypeDesc} (h : P.underlying t = some d) (w : World) : (isAgg t).run P w = .ok (isAggT P t) w := by
  unfold isAgg isAggT
  rw [Sem.run_bind, run_underlying h]
  simp only [h, Result.andThen]
  cases d <;> rfl

def sizeT (P : Program) (t : TypeId) : Nat := P.cellsOf t
theorem run_sizeT {P : Program} {t : TypeId} {d : TypeDesc} (h : P.underlying t = some d) (w : World) : (sizeOf t).run P w = .ok (sizeT P t) w := by
  have hi : (P.info? t).isSome = true := by
    cases hq : P.info? t with
    | none => simp [Program.underlying, hq] at h
    | some i => rfl
  obtain ⟨i, hi⟩ := Option.isSome_iff_exists.1 hi
  simp [sizeOf, typeInfo, hi, sizeT, Program.cellsOf]

/-- A value out of cells. -/
def takeV (sz : Nat) (ag : Bool) (cs : List AV) : Option AV :=
  if ag then (if sz ≤ cs.length then some (.agg (cs.take sz)) else none)
  else match cs with
    | x :: _ => some x
    | [] => none

theorem load_sound {P : Program} {w0 : World} {K : Wd} {h : Heap} {nx : Nat} (g : Good w0 K h nx) {t : TypeId} {d : TypeDesc} (ht : P.underlying t = some d) {p x : AV} {cs : List AV} {v : Value}
    (hp : ptrCells h p = some cs) (hx : takeV (sizeT P t) (isAggT P t) cs = some x) (hv : VR K nx p v) : ∃ u, (Instr.loadAt t v).run P K.w = .ok u K.w ∧ VR K nx x u := by
  obtain ⟨a, c, rfl, hcr, hc⟩ := ptrCells_sound g hp hv
  unfold takeV at hx
  cases hag : isAggT P t with
  | true =>
    rw [hag, if_pos rfl] at hx
    split at hx
    · rename_i hle
      simp only [Option.some.injEq] at hx; subst hx
      refine ⟨.agg (c.take (sizeT P t)).toArray, ?_, (hcr.take _).toAgg⟩
      have hl := run_loadCells_CR (P := P) (w := K.w) (a := a) hle hcr.len (by intro j hj; exact hc j hj)
      simp [Instr.loadAt, Instr.sureAddr, loadVar, run_isAggT ht, hag, run_sizeT ht, hl]
    · cases hx
  | false =>
    rw [hag] at hx
    cases cs with
    | nil => simp at hx
    | cons y r =>
      simp only [Bool.false_eq_true, if_false, Option.some.injEq] at hx; subst hx
      cases c with
      | nil => have := hcr.len; simp at this
      | cons u r' =>
        have h0 := hc 0 (by simp)
        have h0' : K.w.cell? a = some u := by simpa [Addr.add] using h0
        refine ⟨u, ?_, hcr.at_ 0 y u rfl rfl⟩
        simp [Instr.loadAt, Instr.sureAddr, loadVar, run_isAggT ht, hag, h0']

/-! ### Stores -/
def splice (cs : List AV) (off : Nat) (xs : List AV) : List AV := cs.take off ++ (xs ++ cs.drop (off + xs.length))
def storeH (h : Heap) (p : AV) (xs : List AV) : Option Heap :=
  match p with
  | .op b off => match hget h b with
    | some (.cells cs) => if off + xs.length ≤ cs.length then some (hset h b (.cells (splice cs off xs))) else none
    | _ => none
  | _ => none

theorem setRow_eq_putObj {w : World} {g : Nat} {c : Array Value} {e : TypeId} (h : w.heap[g]? = some (.cells c e (0, 0))) (c' : Array Value) : w.setRow g c' = w.putObj g (.cells c' e (0, 0)) := by
  unfold World.setRow World.putObj
  congr 1
  apply Array.ext_getElem?
  intro k
  rw [Array.getElem?_modify, Array.getElem?_setIfInBounds]
  by_cases e1 : g = k
  · subst e1
    obtain ⟨hl, he⟩ := Array.getElem?_eq_some_iff.1 h
    simp [hl, he]
  · simp [e1]

/-- Cells of a block of the call's own are written. -/
theorem write_sound {P : Program} {w0 : World} {K : Wd} {h : Heap} {nx : Nat} (g : Good w0 K h nx) {b off : Nat} {cs xs : List AV} {vs : List Value} (hb : hget h b = some (.cells cs)) (hle : off + xs.length ≤ cs.length)
    (hx : CR K nx xs vs) : ∃ K', (storeCells ⟨K.m b, off, none⟩ vs).run P K.w = .ok () K'.w ∧ Ext K nx K' nx ∧ Good w0 K' (hset h b (.cells (splice cs off xs))) nx := by
  obtain ⟨hlt, hge, hnz, ob, hob, hor⟩ := g.live b _ hb
  cases hor with
  | cells _ c e hs h1 hc =>
    have hlen := hx.len
    have hrun := run_storeCells_at P (K.m b) off e vs 0 c K.w hob (by omega) hx.oneCell
    obtain ⟨c', hc'⟩ : ∃ c', c' = (c.toList.take (off + 0) ++ vs ++ c.toList.drop (off + 0 + vs.length)).toArray := ⟨_, rfl⟩
    rw [← hc', setRow_eq_putObj hob] at hrun
    have hsz : c'.size = c.size := by rw [hc']; simp; omega
    have hs1 : ∀ c0 e0, K.w.heap[K.m b]? = some (.cells c0 e0 (0, 0)) → ∃ c2 : Array Value, (Obj.cells c' e (0, 0)) = .cells c2 e0 (0, 0) ∧ c2.size = c0.size := by
      intro c0 e0 h0
      rw [hob] at h0; injection h0 with h0; injection h0 with h0 h00; subst h0; subst h00
      exact ⟨c', rfl, hsz⟩
    have hext := Ext.putObj (ob := .cells c' e (0, 0)) g hb hs1
    refine ⟨K.putObj b (.cells c' e (0, 0)), hrun, hext, Good.putObj g hb hs1 ?_⟩
    have hcr0 : CR K nx cs (c.toList.take cs.length) := ⟨by simp; omega, h1, fun i x v hx hv => by
      have hi : i < cs.length := (List.getElem?_eq_some_iff.1 hx).1
      exact hc i x v hx (by simpa [List.getElem?_take, hi] using hv)⟩
    have hcr := ((hcr0.take off).append (hx.append (hcr0.drop (off + xs.length)))).mono hext
    have hspl : (splice cs off xs).length = cs.length := by simp [splice]; omega
    refine .cells _ _ _ (by rw [hspl, hsz]; exact hs) hcr.one fun i x v hx' hv => ?_
    refine hcr.at_ i x v hx' ?_
    have hi : i < cs.length := by rw [← hspl]; exact (List.getElem?_eq_some_iff.1 hx').1
    rw [← hv, hc']
    rw [List.getElem?_toArray]
    simp only [Nat.add_zero, hlen, List.append_assoc]
    have e3 : c.toList.take off = (c.toList.take cs.length).take off := by rw [List.take_take]; congr 1; omega
    rw [e3]
    simp only [List.getElem?_append]
    split
    · rfl
    · split
      · rfl
      · rename_i h5 h6
        rw [hlen] at h6 ⊢
        simp only [List.length_take, Array.length_toList] at h5 h6
        simp only [List.getElem?_drop, List.getElem?_take, List.length_take, Array.length_toList]
        rw [if_pos (by omega)]

/-- .. and behind those that are known. -/
theorem write_sound2 {P : Program} {w0 : World} {K : Wd} {h : Heap} {nx : Nat} (g : Good w0 K h nx) {b off : Nat} {cs xs : List AV} {vs : List Value} (hb : hget h b = some (.cells cs)) (hle : off ≤ cs.length)
    (hfit : ∀ c e, K.w.heap[K.m b]? = some (.cells c e (0, 0)) → off + xs.length ≤ c.size) (hx : CR K nx xs vs) : ∃ K', (storeCells ⟨K.m b, off, none⟩ vs).run P K.w = .ok () K'.w ∧ Ext K nx K' nx ∧ Good w0 K' (hset h b (.cells (splice cs off xs))) nx := by
  obtain ⟨hlt, hge, hnz, ob, hob, hor⟩ := g.live b _ hb
  cases hor with
  | cells _ c e hs h1 hc =>
    have hlen := hx.len
    have hfit := hfit c e hob
    have hrun := run_storeCells_at P (K.m b) off e vs 0 c K.w hob (by omega) hx.oneCell
    obtain ⟨c', hc'⟩ : ∃ c', c' = (c.toList.take (off + 0) ++ vs ++ c.toList.drop (off + 0 + vs.length)).toArray := ⟨_, rfl⟩
    rw [← hc', setRow_eq_putObj hob] at hrun
    have hsz : c'.size = c.size := by rw [hc']; simp; omega
    have hs1 : ∀ c0 e0, K.w.heap[K.m b]? = some (.cells c0 e0 (0, 0)) → ∃ c2 : Array Value, (Obj.cells c' e (0, 0)) = .cells c2 e0 (0, 0) ∧ c2.size = c0.size := by
      intro c0 e0 h0
      rw [hob] at h0; injection h0 with h0; injection h0 with h0 h00; subst h0; subst h00
      exact ⟨c', rfl, hsz⟩
    have hext := Ext.putObj (ob := .cells c' e (0, 0)) g hb hs1
    refine ⟨K.putObj b (.cells c' e (0, 0)), hrun, hext, Good.putObj g hb hs1 ?_⟩
    have hcr0 : CR K nx cs (c.toList.take cs.length) := ⟨by simp; omega, h1, fun i x v hx hv => by
      have hi : i < cs.length := (List.getElem?_eq_some_iff.1 hx).1
      exact hc i x v hx (by simpa [List.getElem?_take, hi] using hv)⟩
    have hcr := ((hcr0.take off).append (hx.append (hcr0.drop (off + xs.length)))).mono hext
    have hspl : (splice cs off xs).length = off + (xs.length + (cs.length - (off + xs.length))) := by simp [splice]; omega
    refine .cells _ _ _ (by rw [hspl, hsz]; omega) hcr.one fun i x v hx' hv => ?_
    refine hcr.at_ i x v hx' ?_
    have hi : i < off + (xs.length + (cs.length - (off + xs.length))) := by rw [← hspl]; exact (List.getElem?_eq_some_iff.1 hx').1
    rw [← hv, hc']
    rw [List.getElem?_toArray]
    simp only [Nat.add_zero, hlen, List.append_assoc]
    have e3 : c.toList.take off = (c.toList.take cs.length).take off := by rw [List.take_take]; congr 1; omega
    rw [e3]
    simp only [List.getElem?_append]
    split
    · rfl
    · split
      · rfl
      · rename_i h5 h6
        rw [hlen] at h6 ⊢
        simp only [List.length_take, Array.length_toList] at h5 h6
        simp only [List.getElem?_drop, List.getElem?_take, List.length_take, Array.length_toList]
        rw [if_pos (by omega)]

theorem store_sound {P : Program} {w0 : World} {K : Wd} {h h' : Heap} {nx : Nat} (g : Good w0 K h nx) {t : TypeId} {d : TypeDesc} (ht : P.underlying t = some d) {p x : AV} {v u : Value}
    (hx : x.plain = true) (hsz : (cellsOf x).length = sizeT P t) (hst : storeH h p (cellsOf x) = some h') (hv : VR K nx p v) (hu : VR K nx x u) :
    ∃ K', (Instr.storeAt t v u).run P K.w = .ok () K'.w ∧ Ext K nx K' nx ∧ Good w0 K' h' nx := by
  unfold storeH at hst
  split at hst
  · rename_i b off
    split at hst
    · rename_i cs hb
      split at hst
      · rename_i hle
        simp only [Option.some.injEq] at hst; subst hst
        cases hv with
        | op _ _ hlt a ha =>
          subst ha
          have hcr := hu.cells hx
          obtain ⟨K', h1, h2, h3⟩ := write_sound (P := P) g hb hle hcr
          refine ⟨K', ?_, h2, h3⟩
          have hl : u.cells.size = sizeT P t := by have := hcr.len; simpa [hsz] using this
          simp [Instr.storeAt, Instr.sureAddr, storeVar, run_sizeT ht, hl, h1]
      · cases hst
    · cases hst
  · cases hst

end Go.Ab
