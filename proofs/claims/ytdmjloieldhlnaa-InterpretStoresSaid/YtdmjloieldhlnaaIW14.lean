/- A byte put into a sorted memory leaves it sorted. -/
import Derived.Test.YtdmjloieldhlnaaIW13
namespace Go.Proofs.Ytdmjloieldhlnaa
open Go Go.Ab Go.Proofs
set_option linter.unusedVariables false
set_option linter.unusedSimpArgs false
set_option maxRecDepth 20000

theorem srt_pw {l : List (Int × Int)} : Srt l ↔ l.Pairwise (fun p r => p.1 < r.1) := by
  rw [List.pairwise_iff_getElem]
  constructor
  · intro h i j hi hj hij
    exact h i j _ _ hij (List.getElem?_eq_getElem hi) (List.getElem?_eq_getElem hj)
  · intro h i j p r hij hp hr
    obtain ⟨hi, rfl⟩ := List.getElem?_eq_some_iff.1 hp
    obtain ⟨hj, rfl⟩ := List.getElem?_eq_some_iff.1 hr
    exact h i j hi hj hij
theorem mem_tw {α : Type} {p : α → Bool} : ∀ {l : List α} {x : α}, x ∈ l.takeWhile p → p x = true
  | [], x, h => by simp at h
  | y :: l, x, h => by
    rw [List.takeWhile_cons] at h
    split at h
    · rename_i hy
      rcases List.mem_cons.1 h with rfl | h
      · exact hy
      · exact mem_tw h
    · simp at h
theorem srt_put {l : List (Int × Int)} {d b : Int} (h : Srt l) : Srt (putL l d b) := by
  rw [srt_pw] at h ⊢
  unfold putL
  have h1 : ∀ x ∈ l.takeWhile (fun r => decide (r.1 < d)), x.1 < d := fun x hx => by have := mem_tw hx; simpa using this
  have h2 : ∀ x ∈ l.filter (fun r => decide (d < r.1)), d < x.1 := fun x hx => by have := (List.mem_filter.1 hx).2; simpa using this
  have h3 : ∀ x ∈ (if b = 0 then [] else [(d, b)] : List (Int × Int)), x.1 = d := by
    intro x hx
    split at hx
    · simp at hx
    · simp at hx; rw [hx]
  rw [List.pairwise_append, List.pairwise_append]
  refine ⟨⟨h.sublist (List.takeWhile_sublist _), ?_, fun a ha c hc => by have := h1 a ha; have := h3 c hc; omega⟩, h.sublist List.filter_sublist, fun a ha c hc => ?_⟩
  · split <;> simp
  · have := h2 c hc
    rcases List.mem_append.1 ha with ha | ha
    · have := h1 a ha; omega
    · have := h3 a ha; omega
end Go.Proofs.Ytdmjloieldhlnaa
