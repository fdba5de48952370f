/- Packed tables, read back: what holds between two rows. -/
import Derived.Test.YtmnlfgnpmpebmaaRW12
namespace Go.Proofs.Ytmnlfgnpmpebmaa
open Go Go.Ab Go.Proofs
set_option linter.unusedVariables false
set_option linter.unusedSimpArgs false
set_option maxRecDepth 20000

theorem prevR_congr {l l' : List (Int × Int)} {k j : Nat} (h : ∀ j, j < k → l[j]? = l'[j]?) (hj : j ≤ k) : prevR l j = prevR l' j := by
  cases j with
  | zero => rfl
  | succ j => simp only [prevR, if_neg (show ¬ j + 1 = 0 by omega), Nat.add_sub_cancel, List.getD_eq_getElem?_getD, h j (by omega)]
theorem pkI_congr {l l' : List (Int × Int)} : ∀ k, (∀ j, j < k → l[j]? = l'[j]?) → pkI l k = pkI l' k
  | 0, _ => rfl
  | k + 1, h => by
    have ih := pkI_congr k (fun j hj => h j (by omega))
    simp only [pkI, List.range_succ, List.flatMap_append, List.flatMap_cons, List.flatMap_nil, List.append_nil, List.getD_eq_getElem?_getD] at ih ⊢
    rw [ih, h k (by omega), prevR_congr (fun j hj => h j (by omega)) (Nat.le_refl k)]
theorem pkI_prefix (l : List (Int × Int)) (k : Nat) : ∀ d, ∃ s, pkI l (k + d) = pkI l k ++ s
  | 0 => ⟨[], by simp⟩
  | d + 1 => by
    obtain ⟨s, hs⟩ := pkI_prefix l k d
    refine ⟨s ++ rowB ((l.getD (k + d) (0, 0)).1 - (prevR l (k + d)).1) ((l.getD (k + d) (0, 0)).2 - (prevR l (k + d)).2), ?_⟩
    have : pkI l (k + (d + 1)) = pkI l (k + d) ++ rowB ((l.getD (k + d) (0, 0)).1 - (prevR l (k + d)).1) ((l.getD (k + d) (0, 0)).2 - (prevR l (k + d)).2) := by
      simp only [pkI, show k + (d + 1) = (k + d) + 1 by omega, List.range_succ, List.flatMap_append, List.flatMap_cons, List.flatMap_nil, List.append_nil]
    rw [this, hs, List.append_assoc]
/-- Behind a table's first rows. -/
theorem pack_rest {l : List (Int × Int)} {k : Nat} (hk : k ≤ l.length) : ∃ s, packB l = pkI l k ++ s ∧ (k = l.length → s = [0]) ∧ ∀ r, l[k]? = some r → ∃ s', s = rowB (r.1 - (prevR l k).1) (r.2 - (prevR l k).2) ++ s' := by
  by_cases h : k = l.length
  · subst h
    exact ⟨[0], rfl, fun _ => rfl, fun r hr => by have := (List.getElem?_eq_some_iff.1 hr).1; omega⟩
  · obtain ⟨s, hs⟩ := pkI_prefix l (k + 1) (l.length - (k + 1))
    rw [show k + 1 + (l.length - (k + 1)) = l.length by omega] at hs
    have hr := List.getElem?_eq_getElem (show k < l.length by omega)
    refine ⟨rowB ((l[k]).1 - (prevR l k).1) ((l[k]).2 - (prevR l k).2) ++ (s ++ [0]), ?_, fun h' => absurd h' h, fun r hr' => ?_⟩
    · rw [packB, hs, pkI_succ hr]; simp
    · rw [hr] at hr'; injection hr' with hr'; subst hr'; exact ⟨_, rfl⟩
/-- What unpacking bytes gives. -/
def Unp (b : List Nat) (out : List (Int × Int)) (e : Int) : Prop := (chk out = 0 ∧ wfR out ∧ b = packB out ∧ e = 0) ∨ ((∀ l, chk l = 0 → wfR l → b ≠ packB l) ∧ out = [] ∧ e = 12)
theorem unp_some (b : List Nat) : ∃ out e, Unp b out e := by
  by_cases h : ∃ l, chk l = 0 ∧ wfR l ∧ b = packB l
  · obtain ⟨l, h1, h2, h3⟩ := h
    exact ⟨l, 0, .inl ⟨h1, h2, h3, rfl⟩⟩
  · exact ⟨[], 12, .inr ⟨fun l h1 h2 h3 => h ⟨l, h1, h2, h3⟩, rfl, rfl⟩⟩
/-- No table has these bytes. -/
def Non (b : List Nat) : Prop := ∀ l, chk l = 0 → wfR l → b ≠ packB l
theorem Unp.non {b : List Nat} {out : List (Int × Int)} {e : Int} (h : Unp b out e) (hn : Non b) : out = [] ∧ e = 12 := by
  rcases h with ⟨h1, h2, h3, _⟩ | ⟨_, h⟩
  · exact absurd h3 (hn out h1 h2)
  · exact h
/-- The rows that were read, and where the next one begins. -/
structure Rdd (b : List Nat) (l : List (Int × Int)) (k : Nat) : Prop where
  pos : k = (pkI l l.length).length
  le : k ≤ b.length
  take : b.take k = pkI l l.length
  cov : ∀ l', chk l' = 0 → wfR l' → b = packB l' → l.length ≤ l'.length ∧ l = l'.take l.length
  bnd : ∀ (j : Nat) (r : Int × Int), l[j]? = some r → 0 ≤ r.1 ∧ r.1 ≤ ((j : Int) + 1) * 34359738368 ∧ -(((j : Int) + 1) * 34359738368) ≤ r.2 ∧ r.2 ≤ ((j : Int) + 1) * 34359738368
theorem Rdd.init (b : List Nat) : Rdd b [] 0 := ⟨rfl, Nat.zero_le _, by simp [pkI], fun l' _ _ _ => ⟨by simp, by simp⟩, fun j r h => by simp at h⟩
/-- What comes next, if a table has these bytes. -/
theorem Rdd.next {b : List Nat} {l : List (Int × Int)} {k : Nat} (h : Rdd b l k) {l' : List (Int × Int)} (hc : chk l' = 0) (hw : wfR l') (hb : b = packB l') :
    (l.length = l'.length ∧ l = l' ∧ b.drop k = [0]) ∨ ∃ r s, l'[l.length]? = some r ∧ prevR l' l.length = prevR l l.length ∧ b.drop k = rowB (r.1 - (prevR l l.length).1) (r.2 - (prevR l l.length).2) ++ s ∧
      0 ≤ r.1 - (prevR l l.length).1 ∧ r.1 - (prevR l l.length).1 < 4294967296 ∧ -2097152 < r.2 - (prevR l l.length).2 ∧ r.2 - (prevR l l.length).2 < 2097152 := by
  obtain ⟨h1, h2⟩ := h.cov l' hc hw hb
  have hcg : ∀ j, j < l.length → l'[j]? = l[j]? := by
    intro j hj; rw [h2, List.getElem?_take, if_pos hj]
  have hpk : pkI l' l.length = pkI l l.length := pkI_congr _ hcg
  have hpv : prevR l' l.length = prevR l l.length := prevR_congr hcg (Nat.le_refl _)
  obtain ⟨s, s1, s2, s3⟩ := pack_rest h1
  have hdr : b.drop k = s := by rw [hb, s1, hpk, h.pos, List.drop_left]
  by_cases he : l.length = l'.length
  · refine .inl ⟨he, ?_, by rw [hdr, s2 he]⟩
    rw [h2, he, List.take_length]
  · have hr := List.getElem?_eq_getElem (show l.length < l'.length by omega)
    obtain ⟨s', hs'⟩ := s3 _ hr
    obtain ⟨a1, a2, a3, a4, a5, a6, a7, a8, a9⟩ := vstep hc hw hr
    rw [hpv] at hs' a1 a2 a3 a4 a6 a7
    exact .inr ⟨_, s', hr, hpv, by rw [hdr, hs'], by omega, by omega, by omega, by omega⟩
theorem Rdd.fail {b : List Nat} {l : List (Int × Int)} {k : Nat} (h : Rdd b l k) (h0 : ∀ x s, b.drop k = x :: s → x ≠ 0) (hn : rdRow (b.drop k) = none) : Non b := by
  intro l' hc hw hb
  rcases h.next hc hw hb with ⟨_, _, h1⟩ | ⟨r, s, _, _, h1, a1, a2, a3, a4⟩
  · exact h0 0 [] h1 rfl
  · rw [h1, rdRow_rowB s a1 a2 a3 a4] at hn; cases hn
theorem Rdd.many {b : List Nat} {l : List (Int × Int)} {k : Nat} (h : Rdd b l k) (hm : 1000 < l.length) : Non b := by
  intro l' hc hw hb
  have := (h.cov l' hc hw hb).1
  have := (chk_ok hc).1
  omega
theorem Rdd.stop {b : List Nat} {l : List (Int × Int)} {k : Nat} (h : Rdd b l k) {s : List Nat} (h0 : b.drop k = 0 :: s) {l' : List (Int × Int)} (hc : chk l' = 0) (hw : wfR l') (hb : b = packB l') : l = l' ∧ s = [] := by
  rcases h.next hc hw hb with ⟨_, h1, h2⟩ | ⟨r, s', _, _, h1, a1, a2, a3, a4⟩
  · rw [h0] at h2; injection h2 with _ h2; exact ⟨h1, h2⟩
  · exfalso
    obtain ⟨x, s2, e1, e2⟩ := rowB_head (r.1 - (prevR l l.length).1) (r.2 - (prevR l l.length).2)
    rw [h0, e1] at h1
    injection h1 with h1
    rcases e2 with e2 | ⟨⟨c1, c2, c3, c4⟩, e2⟩
    · omega
    · omega
theorem Rdd.whole {b : List Nat} {l : List (Int × Int)} {k : Nat} (h : Rdd b l k) (h0 : b.drop k = [0]) : b = packB l := by
  rw [← List.take_append_drop k b, h0, h.take]; rfl
theorem Rdd.step {b : List Nat} {l : List (Int × Int)} {k : Nat} (h : Rdd b l k) (hby : ∀ x ∈ b, x < 256) {d n : Int} {c : Nat} (hr : rdRow (b.drop k) = some (d, n, c)) :
    Rdd b (l ++ [((prevR l l.length).1 + d, (prevR l l.length).2 + n)]) (k + c) := by
  obtain ⟨c1, c2, c3, c4, c5, c6, c7⟩ := rdRow_sound (fun x hx => hby x (List.mem_of_mem_drop hx)) hr
  rw [List.length_drop] at c1
  have hcg : ∀ j, j < l.length → (l ++ [((prevR l l.length).1 + d, (prevR l l.length).2 + n)])[j]? = l[j]? := fun j hj => by rw [List.getElem?_append_left hj]
  have hlast : (l ++ [((prevR l l.length).1 + d, (prevR l l.length).2 + n)])[l.length]? = some ((prevR l l.length).1 + d, (prevR l l.length).2 + n) := by simp
  have hpk : pkI (l ++ [((prevR l l.length).1 + d, (prevR l l.length).2 + n)]) (l.length + 1) = pkI l l.length ++ rowB d n := by
    rw [pkI_succ hlast, pkI_congr _ hcg, prevR_congr hcg (Nat.le_refl _)]
    congr 2 <;> omega
  have hlen : (l ++ [((prevR l l.length).1 + d, (prevR l l.length).2 + n)]).length = l.length + 1 := by simp
  have hlc : (rowB d n).length = c := by rw [← c3, List.length_take, List.length_drop]; omega
  have hpb : 0 ≤ (prevR l l.length).1 ∧ (prevR l l.length).1 ≤ (l.length : Int) * 34359738368 ∧ -((l.length : Int) * 34359738368) ≤ (prevR l l.length).2 ∧ (prevR l l.length).2 ≤ (l.length : Int) * 34359738368 := by
    cases hl : l.length with
    | zero => simp [prevR]
    | succ m =>
      have hm := List.getElem?_eq_getElem (show m < l.length by omega)
      rw [prevR_succ hm]
      have := h.bnd m _ hm
      have e : ((m + 1 : Nat) : Int) = (m : Int) + 1 := by omega
      rw [e]; exact this
  refine ⟨by rw [hlen, hpk, List.length_append, hlc, ← h.pos], by omega, ?_, fun l' hc hw hb => ?_, fun j r hj => ?_⟩
  · rw [hlen, hpk, List.take_add, h.take, c3]
  · rw [hlen]
    rcases h.next hc hw hb with ⟨_, _, h1⟩ | ⟨r, s, e1, e2, h1, a1, a2, a3, a4⟩
    · rw [h1] at hr
      simp [rdRow] at hr
    · rw [h1, rdRow_rowB s a1 a2 a3 a4] at hr
      injection hr with hr; injection hr with b1 hr; injection hr with b2 b3
      have hi := (List.getElem?_eq_some_iff.1 e1).1
      refine ⟨hi, ?_⟩
      rw [List.take_add_one, e1, ← (h.cov l' hc hw hb).2]
      have : r = ((prevR l l.length).1 + d, (prevR l l.length).2 + n) := by
        apply Prod.ext <;> simp only <;> omega
      rw [this]; rfl
  · rw [List.getElem?_append] at hj
    split at hj
    · exact h.bnd j r hj
    · rename_i hge
      have hjl : j = l.length := by
        have := (List.getElem?_eq_some_iff.1 hj).1
        simp at this; omega
      subst hjl
      simp at hj; subst hj
      simp only
      obtain ⟨q1, q2, q3, q4⟩ := hpb
      have : ((l.length : Int) + 1) * 34359738368 = (l.length : Int) * 34359738368 + 34359738368 := by rw [Int.add_mul]; omega
      rw [this]
      omega
end Go.Proofs.Ytmnlfgnpmpebmaa
