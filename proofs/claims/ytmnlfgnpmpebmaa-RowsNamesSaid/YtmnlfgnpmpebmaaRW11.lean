/- Packed tables, read back: the plain law. -/
import Derived.Test.YtmnlfgnpmpebmaaRW10
namespace Go.Proofs.Ytmnlfgnpmpebmaa
open Go Go.Ab Go.Proofs
set_option linter.unusedVariables false
set_option linter.unusedSimpArgs false
set_option maxRecDepth 20000

/-- A number of at most so many bytes, none of them too many. -/
def rdN : Nat → Bool → List Nat → Option (Nat × Nat)
  | 0, _, _ => none
  | _ + 1, _, [] => none
  | k + 1, first, x :: s => if first = false ∧ x = 0 then none else if x < 128 then some (x, 1) else (rdN k false s).map fun p => (x % 128 + 128 * p.1, p.2 + 1)
theorem rdN_varL : ∀ (k d : Nat) (first : Bool) (s : List Nat), d < 128 ^ k → ((0 < k ∧ first = true) ∨ d ≠ 0) → rdN k first (varL d ++ s) = some (d, (varL d).length)
  | 0, d, first, s, hd, h => by
    rcases h with h | h
    · omega
    · simp at hd; omega
  | k + 1, d, first, s, hd, h => by
    have hn : ¬ (first = false ∧ d = 0) := by
      rintro ⟨h1, h2⟩
      rcases h with ⟨_, h⟩ | h
      · rw [h1] at h; cases h
      · exact h h2
    by_cases h1 : d < 128
    · rw [varL_lt h1]
      simp only [List.cons_append, List.nil_append, rdN]
      rw [if_neg hn, if_pos h1]; rfl
    · rw [varL_ge h1]
      simp only [List.cons_append, rdN]
      rw [if_neg (by rintro ⟨_, h⟩; omega), if_neg (by omega), rdN_varL k (d / 128) false s (by
        rw [Nat.pow_succ] at hd
        exact Nat.div_lt_of_lt_mul (by rw [Nat.mul_comm]; exact hd)) (.inr (by omega))]
      simp only [Option.map_some, List.length_cons]
      congr 1
      apply Prod.ext
      · simp only; omega
      · rfl
theorem rdN_sound : ∀ (k : Nat) (first : Bool) (s : List Nat) (m c : Nat), (∀ x ∈ s, x < 256) → rdN k first s = some (m, c) → c ≤ s.length ∧ s.take c = varL m ∧ m < 128 ^ k ∧ (first = false → m ≠ 0)
  | 0, first, s, m, c, hs, h => by simp [rdN] at h
  | k + 1, first, [], m, c, hs, h => by simp [rdN] at h
  | k + 1, first, x :: s, m, c, hs, h => by
    have hp : 128 ≤ 128 ^ (k + 1) := by
      rw [Nat.pow_succ]
      have := Nat.pos_of_ne_zero (show 128 ^ k ≠ 0 from Nat.pos_iff_ne_zero.1 (Nat.pow_pos (by omega)))
      omega
    simp only [rdN] at h
    by_cases h1 : first = false ∧ x = 0
    · rw [if_pos h1] at h; cases h
    rw [if_neg h1] at h
    by_cases h2 : x < 128
    · rw [if_pos h2] at h
      injection h with h; injection h with e1 e2
      subst e1; subst e2
      refine ⟨by simp, by rw [varL_lt h2]; rfl, by omega, fun hf hx => h1 ⟨hf, hx⟩⟩
    · rw [if_neg h2] at h
      obtain ⟨⟨m', c'⟩, hr, he⟩ := Option.map_eq_some_iff.1 h
      injection he with e1 e2
      simp only at e1 e2
      subst e1; subst e2
      obtain ⟨r1, r2, r3, r4⟩ := rdN_sound k false s m' c' (fun y hy => hs y (by simp [hy])) hr
      have hm0 := r4 rfl
      have hx := hs x (by simp)
      refine ⟨by simp; omega, ?_, ?_, fun _ => by omega⟩
      · rw [varL_ge (n := x % 128 + 128 * m') (by omega), List.take_succ_cons, r2]
        have e1 : (x % 128 + 128 * m') % 128 + 128 = x := by omega
        have e2 : (x % 128 + 128 * m') / 128 = m' := by omega
        rw [e1, e2]
      · rw [Nat.pow_succ]; omega
theorem unf_fold (n : Int) : unfZ (foldZ n).toNat = n := by
  unfold unfZ foldZ
  by_cases h : n < 0
  · rw [if_pos h, if_pos (by omega)]; omega
  · rw [if_neg h, if_neg (by omega)]; omega
theorem fold_unf (z : Nat) : foldZ (unfZ z) = (z : Int) := by
  unfold unfZ foldZ
  by_cases h : z % 2 = 1
  · rw [if_pos h, if_pos (by omega)]; omega
  · rw [if_neg h, if_neg (by omega)]; omega
/-- A row's differences, and how many bytes they are. -/
def rdRow : List Nat → Option (Int × Int × Nat)
  | [] => none
  | x :: s => if 32 ≤ x then some ((((x - 32) / 16 + 1 : Nat) : Int), (((x - 32) % 16 : Nat) : Int) - 8, 1) else if x = 1 then
      (match rdN 5 true s with
        | some (d, c) => (match rdN 5 true (s.drop c) with
          | some (z, c') => if short (d : Int) (unfZ z) then none else some ((d : Int), unfZ z, 1 + c + c')
          | none => none)
        | none => none) else none
theorem rdRow_rowB {d n : Int} (s : List Nat) (hd0 : 0 ≤ d) (hd1 : d < 4294967296) (hn0 : -2097152 < n) (hn1 : n < 2097152) : rdRow (rowB d n ++ s) = some (d, n, (rowB d n).length) := by
  by_cases hsh : short d n
  · have hrow : rowB d n = [(32 + 16 * (d - 1) + n + 8).toNat] := by rw [rowB, if_pos hsh]
    obtain ⟨c1, c2, c3, c4⟩ := hsh
    rw [hrow]
    simp only [List.cons_append, List.nil_append, rdRow]
    rw [if_pos (by omega)]
    have e1 : ((((32 + 16 * (d - 1) + n + 8).toNat - 32) / 16 + 1 : Nat) : Int) = d := by omega
    have e2 : ((((32 + 16 * (d - 1) + n + 8).toNat - 32) % 16 : Nat) : Int) - 8 = n := by omega
    rw [e1, e2]; rfl
  · have hrow : rowB d n = 1 :: (varL d.toNat ++ varL (foldZ n).toNat) := by rw [rowB, if_neg hsh]
    have hp : (128 : Nat) ^ 5 = 34359738368 := by decide
    have hz : 0 ≤ foldZ n ∧ foldZ n < 4294967296 := by unfold foldZ; split <;> omega
    rw [hrow]
    simp only [List.cons_append, List.append_assoc, rdRow]
    rw [if_neg (by omega), if_pos (by trivial), rdN_varL 5 d.toNat true _ (by omega) (.inl ⟨by omega, rfl⟩)]
    simp only
    rw [List.drop_left, rdN_varL 5 (foldZ n).toNat true _ (by omega) (.inl ⟨by omega, rfl⟩)]
    simp only
    have e1 : ((d.toNat : Nat) : Int) = d := by omega
    rw [e1, unf_fold, if_neg hsh]
    simp only [List.length_cons, List.length_append]
    congr 3
    omega
theorem rdRow_sound {s : List Nat} {d n : Int} {c : Nat} (hs : ∀ x ∈ s, x < 256) (h : rdRow s = some (d, n, c)) : c ≤ s.length ∧ 1 ≤ c ∧ s.take c = rowB d n ∧ 0 ≤ d ∧ d < 34359738368 ∧ -34359738368 < n ∧ n < 34359738368 := by
  have hp : (128 : Nat) ^ 5 = 34359738368 := by decide
  cases s with
  | nil => simp [rdRow] at h
  | cons x s =>
    have hx := hs x (by simp)
    simp only [rdRow] at h
    by_cases h1 : 32 ≤ x
    · rw [if_pos h1] at h
      injection h with h; injection h with e1 h; injection h with e2 e3
      subst e1; subst e2; subst e3
      have hsh : short ((((x - 32) / 16 + 1 : Nat) : Int)) ((((x - 32) % 16 : Nat) : Int) - 8) := by unfold short; omega
      refine ⟨by simp, by omega, ?_, by omega, by omega, by omega, by omega⟩
      rw [rowB, if_pos hsh]
      simp only [List.take_succ_cons, List.take_zero]
      congr 1
      omega
    · rw [if_neg h1] at h
      by_cases h2 : x = 1
      · rw [if_pos h2] at h
        subst h2
        cases hr1 : rdN 5 true s with
        | none => rw [hr1] at h; cases h
        | some p =>
          obtain ⟨d', c1⟩ := p
          rw [hr1] at h
          simp only at h
          cases hr2 : rdN 5 true (s.drop c1) with
          | none => rw [hr2] at h; cases h
          | some q =>
            obtain ⟨z, c2⟩ := q
            rw [hr2] at h
            simp only at h
            by_cases h3 : short (d' : Int) (unfZ z)
            · rw [if_pos h3] at h; cases h
            · rw [if_neg h3] at h
              injection h with h; injection h with e1 h; injection h with e2 e3
              subst e1; subst e2; subst e3
              obtain ⟨a1, a2, a3, _⟩ := rdN_sound 5 true s d' c1 (fun y hy => hs y (by simp [hy])) hr1
              obtain ⟨b1, b2, b3, _⟩ := rdN_sound 5 true (s.drop c1) z c2 (fun y hy => hs y (by simp [List.mem_of_mem_drop hy])) hr2
              rw [List.length_drop] at b1
              have hu : -34359738368 < unfZ z ∧ unfZ z < 34359738368 := by unfold unfZ; split <;> omega
              refine ⟨by simp; omega, by omega, ?_, by omega, by omega, hu.1, hu.2⟩
              rw [rowB, if_neg h3, fold_unf, Int.toNat_natCast, Int.toNat_natCast, ← a2, ← b2, show 1 + c1 + c2 = (c1 + c2) + 1 by omega, List.take_succ_cons, List.take_add]
      · rw [if_neg h2] at h; cases h
theorem rowB_head (d n : Int) : ∃ x s, rowB d n = x :: s ∧ (x = 1 ∨ (short d n ∧ x = (32 + 16 * (d - 1) + n + 8).toNat)) := by
  unfold rowB
  split
  · rename_i h; exact ⟨_, _, rfl, .inr ⟨h, rfl⟩⟩
  · exact ⟨_, _, rfl, .inl rfl⟩
end Go.Proofs.Ytmnlfgnpmpebmaa
