/- The operations on abstract values, third part: new blocks, literals, slices' parts, append, make. -/
import Derived.Test.YtdmjloieldhlnaaCore4
import Derived.ArgAppend
import Derived.Laws.MakeOwn
namespace Go.Ab
open Go.RowKit
set_option linter.unusedVariables false
set_option linter.unusedSimpArgs false

/-! ### A new block of the call's own -/
theorem new_sound {w0 : World} {K : Wd} {h : Heap} {nx : Nat} (g : Good w0 K h nx) {cs : List AV} {c : Array Value} (hs : cs.length ≤ c.size) (hc : CR K nx cs (c.toList.take cs.length)) (e : TypeId) :
    Good w0 (K.alloc nx (.cells c e (0, 0))) ((nx, .cells cs) :: h) (nx + 1) := by
  refine g.alloc (.cells cs c e hs hc.one fun i x v hx hv => (hc.at_ i x v hx ?_).mono (Ext.alloc g _))
  have hi : i < cs.length := (List.getElem?_eq_some_iff.1 hx).1
  simpa [List.getElem?_take, hi] using hv

theorem zero_cells {P : Program} {t : TypeId} {z : List AV} (h : ((P.info? t).bind (·.zero)).bind (fun v => v.cells.toList.mapM ofC) = some z) :
    ∃ i v, P.info? t = some i ∧ i.zero = some v ∧ v.cells.toList.mapM ofC = some z := by
  simp only [Option.bind_eq_some_iff] at h
  obtain ⟨v, ⟨i, hi, hv⟩, hz⟩ := h
  exact ⟨i, v, hi, hv, hz⟩
def zeroT (P : Program) (t : TypeId) : Option (List AV) := ((P.info? t).bind (·.zero)).bind (fun v => v.cells.toList.mapM ofC)
theorem run_zeroT {P : Program} {t : TypeId} {z : List AV} (h : zeroT P t = some z) : ∃ i v, P.info? t = some i ∧ i.zero = some v ∧ v.cells.toList.mapM ofC = some z ∧ ∀ w, (zeroValue t).run P w = .ok v w := by
  obtain ⟨i, v, hi, hv, hz⟩ := zero_cells h
  exact ⟨i, v, hi, hv, hz, fun w => by simp [zeroValue, typeInfo, hi, hv]⟩

theorem alloc_sound {P : Program} {w0 : World} {K : Wd} {h : Heap} {nx : Nat} (g : Good w0 K h nx) {t : TypeId} {z : List AV} (ht : zeroT P t = some z) :
    ∃ K' v, (Instr.alloc t true (.tuple #[])).run P K.w = .ok v K'.w ∧ Ext K nx K' (nx + 1) ∧ Good w0 K' ((nx, .cells z) :: h) (nx + 1) ∧ VR K' (nx + 1) (.op nx 0) v := by
  obtain ⟨i, v, hi, hv, hz, hrun⟩ := run_zeroT ht
  have hcr : CR K nx z v.cells.toList := CR.ofC hz
  have hg := new_sound g (c := v.cells) (cs := z) (by have := hcr.len; simp at this; omega) (by rw [List.take_of_length_le (by rw [hcr.len]; omega)]; exact hcr) t
  refine ⟨K.alloc nx (.cells v.cells t (0, 0)), .pointer (some ⟨K.w.heap.size, 0, none⟩), ?_, Ext.alloc g _, hg, .op nx 0 (by omega) _ (by simp [Wd.alloc])⟩
  simp [Instr.alloc, hrun, newVar, newRow, newObj, Sem.run, Wd.alloc]

theorem box_sound {P : Program} {w0 : World} {K : Wd} {h : Heap} {nx : Nat} (g : Good w0 K h nx) (t : TypeId) {x : AV} (hx : x.plain = true) {u : Value} (hu : VR K nx x u) :
    ∃ K' v, (Instr.box t u).run P K.w = .ok v K'.w ∧ Ext K nx K' (nx + 1) ∧ Good w0 K' ((nx, .cells (cellsOf x)) :: h) (nx + 1) ∧ VR K' (nx + 1) (.op nx 0) v := by
  have hcr := hu.cells hx
  have hg := new_sound g (c := u.cells) (cs := cellsOf x) (by have := hcr.len; simp at this; omega) (by rw [List.take_of_length_le (by rw [hcr.len]; omega)]; exact hcr) t
  refine ⟨K.alloc nx (.cells u.cells t (0, 0)), .pointer (some ⟨K.w.heap.size, 0, none⟩), ?_, Ext.alloc g _, hg, .op nx 0 (by omega) _ (by simp [Wd.alloc])⟩
  simp [Instr.box, newVar, newRow, newObj, Sem.run, Wd.alloc]

/-! ### Literals -/
/-- Parts laid over cells: where each begins, how many cells it has. -/
def fillA : List AV → List (Nat × Nat × AV) → Option (List AV)
  | cs, [] => some cs
  | cs, (off, sz, x) :: r => if x.plain = true ∧ (cellsOf x).length = sz ∧ off + sz ≤ cs.length then fillA (splice cs off (cellsOf x)) r else none

theorem foldl_set (vs : List Value) (off : Nat) : ∀ (k : Nat) (cells : Array Value), ((vs.zipIdx k).foldl (fun (cs : Array Value) (p : Value × Nat) => cs.setIfInBounds (off + p.2) p.1) cells).size = cells.size ∧
    ∀ i, ((vs.zipIdx k).foldl (fun (cs : Array Value) (p : Value × Nat) => cs.setIfInBounds (off + p.2) p.1) cells)[i]? = if i < cells.size ∧ off + k ≤ i ∧ i < off + k + vs.length then vs[i - (off + k)]? else cells[i]? := by
  induction vs with
  | nil => intro k cells; refine ⟨rfl, fun i => ?_⟩; rw [if_neg (by simp only [List.length_nil]; omega)]; rfl
  | cons v vs ih =>
    intro k cells
    simp only [List.zipIdx_cons, List.foldl_cons]
    obtain ⟨h1, h2⟩ := ih (k + 1) (cells.setIfInBounds (off + k) v)
    refine ⟨by rw [h1]; simp, fun i => ?_⟩
    rw [h2 i]
    simp only [Array.size_setIfInBounds, List.length_cons, Array.getElem?_setIfInBounds]
    by_cases e : off + k = i
    · subst e
      rw [if_neg (by omega), if_pos rfl]
      by_cases hlt : off + k < cells.size
      · rw [if_pos hlt, if_pos ⟨hlt, by omega, by omega⟩]; simp
      · rw [if_neg hlt, if_neg (by omega)]; simp; omega
    · by_cases hin : i < cells.size ∧ off + (k + 1) ≤ i ∧ i < off + (k + 1) + vs.length
      · rw [if_pos hin, if_pos ⟨hin.1, by omega, by omega⟩]
        have : i - (off + k) = i - (off + (k + 1)) + 1 := by omega
        rw [this, List.getElem?_cons_succ]
      · rw [if_neg hin, if_neg e, if_neg (by omega)]

def Laid (K : Wd) (nx : Nat) (place : Nat → Option (Nat × Nat)) : List (Nat × Value) → List (Nat × Nat × AV) → Prop
  | [], [] => True
  | p :: ps, q :: qs => (place p.1 = some (q.1, q.2.1) ∧ VR K nx q.2.2 p.2) ∧ Laid K nx place ps qs
  | _, _ => False

theorem fill_sound {K : Wd} {nx : Nat} {place : Nat → Option (Nat × Nat)} : ∀ (ps : List (Nat × Value)) (qs : List (Nat × Nat × AV)) (cs r : List AV) (c : Array Value), CR K nx cs c.toList →
    Laid K nx place ps qs → fillA cs qs = some r → ∃ c', Instr.fill place c ps = some c' ∧ CR K nx r c'.toList
  | [], qs, cs, r, c, hc, hf, hr => by
    cases qs with
    | nil =>
      simp only [fillA, Option.some.injEq] at hr; subst hr
      exact ⟨c, rfl, hc⟩
    | cons q qs => exact hf.elim
  | (i, v) :: ps, qs, cs, r, c, hc, hf, hr => by
    cases qs with
    | nil => exact hf.elim
    | cons q qs' =>
      obtain ⟨off, sz, x⟩ := q
      obtain ⟨⟨hp, hv⟩, hf⟩ := hf
      dsimp only at hp hv
      simp only [fillA] at hr
      split at hr
      · rename_i hcond
        obtain ⟨hpl, hsz, hle⟩ := hcond
        have hcv := hv.cells hpl
        have hvl : v.cells.size = sz := by have := hcv.len; simpa [hsz] using this
        have hcl : c.size = cs.length := by have := hc.len; simpa using this
        obtain ⟨h1, h2⟩ := foldl_set v.cells.toList off 0 c
        have hfold : v.cells.zipIdx.foldl (fun cs (p : Value × Nat) => cs.setIfInBounds (off + p.2) p.1) c = (v.cells.toList.zipIdx 0).foldl (fun (cs : Array Value) (p : Value × Nat) => cs.setIfInBounds (off + p.2) p.1) c := by
          rw [← Array.foldl_toList]; congr 1; simp
        generalize (v.cells.toList.zipIdx 0).foldl (fun (cs : Array Value) (p : Value × Nat) => cs.setIfInBounds (off + p.2) p.1) c = F at h1 h2 hfold
        have hcr : CR K nx (splice cs off (cellsOf x)) F.toList := by
          have hA := ((hc.take off).append (hcv.append (hc.drop (off + sz))))
          have hl : (c.toList.take off ++ (v.cells.toList ++ c.toList.drop (off + sz))) = F.toList := by
            apply List.ext_getElem?
            intro j
            have e0 : F.toList[j]? = F[j]? := by simp
            rw [e0, h2 j]
            simp only [List.getElem?_append, List.length_take, Array.length_toList, List.getElem?_take, List.getElem?_drop, Nat.add_zero]
            by_cases j1 : j < off
            · rw [if_pos (by omega), if_pos j1, if_neg (by omega)]; simp
            · rw [if_neg (by omega)]
              by_cases j2 : j < off + sz
              · rw [if_pos (by omega), if_pos (by omega)]; congr 1; omega
              · rw [if_neg (by omega), if_neg (by omega)]
                have e1 : c[j]? = c.toList[j]? := by simp
                rw [e1]; congr 1; omega
          rw [← hl]
          have : splice cs off (cellsOf x) = cs.take off ++ (cellsOf x ++ cs.drop (off + sz)) := by simp [splice, hsz]
          rw [this]; exact hA
        obtain ⟨c', hf', hc'⟩ := fill_sound ps qs' _ r _ hcr hf hr
        refine ⟨c', ?_, hc'⟩
        simp only [Instr.fill, hp]
        rw [if_neg]
        · have := hfold
          rw [← hf']; congr 1
        · simp only [hvl, ne_eq, not_true_eq_false, decide_false, Bool.false_or, decide_eq_true_eq, Bool.or_eq_true, false_or]
          omega
      · cases hr

end Go.Ab
