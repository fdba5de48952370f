/- A byte put into a sorted memory: the plain law. -/
import Derived.Test.YtdmjloieldhlnaaIW12
namespace Go.Proofs.Ytdmjloieldhlnaa
open Go Go.Ab Go.Proofs
set_option linter.unusedVariables false
set_option linter.unusedSimpArgs false
set_option maxRecDepth 20000

theorem At.take {l : List (Int × Int)} {d : Int} {k : Nat} (h : At l d k) : l.takeWhile (fun r => decide (r.1 < d)) = l.take k :=
  takeWhile_at _ l k h.le (fun j r hj hr => decide_eq_true (h.lo j r hj hr)) fun r hr => decide_eq_false (by have := h.hi k r (Nat.le_refl _) hr; omega)
theorem At.take0 {l : List (Int × Int)} {d : Int} {k : Nat} (h : At l d k) : (l.take k).filter (fun r => decide (d < r.1)) = [] := by
  rw [List.filter_eq_nil_iff]
  intro r hr
  obtain ⟨j, hj⟩ := List.getElem?_of_mem hr
  rw [List.getElem?_take] at hj
  split at hj
  · rename_i hlt
    have := h.lo j r hlt hj
    simp; omega
  · cases hj
theorem At.drop {l : List (Int × Int)} {d : Int} {k : Nat} (h : At l d k) (hs : Srt l) : l.filter (fun r => decide (d < r.1)) = l.drop (if hitB l d k = true then k + 1 else k) := by
  conv => lhs; rw [← List.take_append_drop k l]
  rw [List.filter_append, h.take0, List.nil_append]
  split
  · rename_i hh
    obtain ⟨r, hr, hd⟩ := hitB_iff.1 hh
    have hk := (List.getElem?_eq_some_iff.1 hr).1
    have e : l.drop k = r :: l.drop (k + 1) := by
      rw [List.drop_eq_getElem_cons hk]
      have : l[k] = r := (List.getElem?_eq_some_iff.1 hr).2
      rw [this]
    rw [e, List.filter_cons, if_neg (by simp; omega), List.filter_eq_self]
    intro q hq
    obtain ⟨j, hj⟩ := List.getElem?_of_mem hq
    rw [List.getElem?_drop] at hj
    have := hs k (k + 1 + j) r q (by omega) hr hj
    simp; omega
  · rename_i hh
    rw [List.filter_eq_self]
    intro q hq
    obtain ⟨j, hj⟩ := List.getElem?_of_mem hq
    rw [List.getElem?_drop] at hj
    have h1 := h.hi (k + j) q (by omega) hj
    have h2 : q.1 ≠ d := by
      intro e
      by_cases e2 : j = 0
      · subst e2; exact hh (hitB_iff.2 ⟨q, hj, e⟩)
      · obtain ⟨r, hr⟩ : ∃ r, l[k]? = some r := ⟨l[k]'(by have := (List.getElem?_eq_some_iff.1 hj).1; omega), List.getElem?_eq_getElem _⟩
        have h3 := hs k (k + j) r q (by omega) hr hj
        have h4 := h.hi k r (Nat.le_refl _) hr
        omega
    simp; omega
/-- The four ways of a round. -/
theorem put_hit0 {l : List (Int × Int)} {d : Int} {k : Nat} (h : At l d k) (hs : Srt l) (hh : hitB l d k = true) : putL l d 0 = l.eraseIdx k := by
  rw [putL, h.take, h.drop hs, if_pos hh, if_pos rfl, List.append_nil, List.eraseIdx_eq_take_drop_succ]
theorem put_hit {l : List (Int × Int)} {d b : Int} {k : Nat} (h : At l d k) (hs : Srt l) (hh : hitB l d k = true) (hb : b ≠ 0) : putL l d b = l.set k (d, b) := by
  obtain ⟨r, hr, hd⟩ := hitB_iff.1 hh
  have hk := (List.getElem?_eq_some_iff.1 hr).1
  rw [putL, h.take, h.drop hs, if_pos hh, if_neg hb, List.set_eq_take_append_cons_drop, if_pos hk]
  simp
theorem put_miss0 {l : List (Int × Int)} {d : Int} {k : Nat} (h : At l d k) (hs : Srt l) (hh : hitB l d k = false) : putL l d 0 = l := by
  rw [putL, h.take, h.drop hs, hh]; simp
theorem put_miss {l : List (Int × Int)} {d b : Int} {k : Nat} (h : At l d k) (hs : Srt l) (hh : hitB l d k = false) (hb : b ≠ 0) : putL l d b = l.take k ++ (d, b) :: l.drop k := by
  rw [putL, h.take, h.drop hs, hh]; simp [hb]
theorem put_ins (l : List (Int × Int)) (d b : Int) (k : Nat) : (l.take k ++ (d, b) :: l.drop k).map cellE = insE (l.map cellE) k (cellE (d, b)) := by
  simp [insE, List.map_take, List.map_drop]
theorem good_srt {l : List (Int × Int)} (h : goodM l l.length) : Srt l := by
  have key : ∀ (e i : Nat) (p r : Int × Int), l[i]? = some p → l[i + e + 1]? = some r → p.1 < r.1 := by
    intro e
    induction e with
    | zero =>
      intro i p r hp hr
      exact (h (i + 0 + 1) (List.getElem?_eq_some_iff.1 hr).1 r hr).2 (by omega) p (by simpa using hp)
    | succ e ih =>
      intro i p r hp hr
      have hl := (List.getElem?_eq_some_iff.1 hr).1
      obtain ⟨q, hq⟩ : ∃ q, l[i + e + 1]? = some q := ⟨l[i + e + 1]'(by omega), List.getElem?_eq_getElem _⟩
      have h1 := ih i p q hp hq
      have h2 := (h (i + (e + 1) + 1) hl r hr).2 (by omega) q (by rw [← hq]; congr 1)
      omega
  intro i j p r hij hp hr
  obtain ⟨e, rfl⟩ : ∃ e, j = i + e + 1 := ⟨j - i - 1, by omega⟩
  exact key e i p r hp hr
end Go.Proofs.Ytdmjloieldhlnaa
