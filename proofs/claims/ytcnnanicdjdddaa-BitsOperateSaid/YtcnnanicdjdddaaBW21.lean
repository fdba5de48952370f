/- What the reference's lists of bits stand for. -/
import Derived.Test.YtcnnanicdjdddaaBW20
import Derived.Test.YtcnnanicdjdddaaBW12
import Derived.Test.YtcnnanicdjdddaaBW10
namespace Go.Proofs.Ytcnnanicdjdddaa
open Go Go.Ab Go.Proofs
set_option linter.unusedVariables false
set_option linter.unusedSimpArgs false
set_option maxRecDepth 20000

theorem bits_ext {l : List Nat} {n v : Nat} (hl : l.length = n) (h : ∀ i, i < n → l[i]? = some (v / 2 ^ i % 2)) : l = bitsL n v := by
  apply List.ext_getElem?
  intro i
  rcases Nat.lt_or_ge i n with hi | hi
  · rw [h i hi, bitsL_at hi]
  · rw [List.getElem?_eq_none (by omega), List.getElem?_eq_none (by rw [bitsL_len]; omega)]
theorem num_bits_lt {n x : Nat} (hx : x < 2 ^ n) : num (bitsL n x) = x := by rw [num_bits, Nat.mod_eq_of_lt hx]
theorem num_add_bits {n x y : Nat} (h : n ≤ 64) (hx : x < 2 ^ n) (hy : y < 2 ^ n) : num (addL (bitsL n x) (bitsL n y) 0) = opV 5 n x y := by
  rw [num_add (bitsL_01 _ _) (bitsL_01 _ _) (by rw [bitsL_len, bitsL_len]; omega), bitsL_len, List.take_of_length_le (by rw [bitsL_len]; omega), num_bits_lt hx, num_bits_lt hy, opV_add h, Nat.add_zero]
theorem num_not_bits {n y : Nat} (hy : y < 2 ^ n) : num (notL (bitsL n y)) = 2 ^ n - 1 - y := by
  have := num_not (bitsL_01 n y)
  rw [bitsL_len, num_bits_lt hy] at this
  omega
theorem num_sub_bits {n x y : Nat} (h : n ≤ 64) (hx : x < 2 ^ n) (hy : y < 2 ^ n) : num (addL (bitsL n x) (notL (bitsL n y)) 1) = opV 6 n x y := by
  have e : x + (2 ^ n - 1 - y) + 1 = x + (2 ^ n - y) := by omega
  rw [num_add (bitsL_01 _ _) (notL_01 _) (by simp [notL, bitsL_len]), bitsL_len, List.take_of_length_le (by simp [notL, bitsL_len]), num_bits_lt hx, num_not_bits hy, opV_sub h (by omega), e]
/-- One bit of and, or, xor. -/
def logB (k s : Nat) : Nat := if (k = 8 ∧ s = 2) ∨ (k = 9 ∧ 0 < s) ∨ (k = 10 ∧ s = 1) then 1 else 0
def logI (k : Nat) (a b : List Nat) (j : Nat) : List Nat := (List.range j).map fun i => logB k (a.getD i 0 + b.getD i 0)
theorem logI_succ (k : Nat) (a b : List Nat) (j : Nat) : logI k a b (j + 1) = logI k a b j ++ [logB k (a.getD j 0 + b.getD j 0)] := by simp [logI, List.range_succ]
theorem bit_and (x y i : Nat) : (x &&& y) / 2 ^ i % 2 = if x / 2 ^ i % 2 + y / 2 ^ i % 2 = 2 then 1 else 0 := by
  have h := Nat.testBit_and x y i
  simp only [Nat.testBit_eq_decide_div_mod_eq] at h
  have h1 := Nat.mod_two_eq_zero_or_one (x / 2 ^ i)
  have h2 := Nat.mod_two_eq_zero_or_one (y / 2 ^ i)
  have h3 := Nat.mod_two_eq_zero_or_one ((x &&& y) / 2 ^ i)
  rcases h1 with h1 | h1 <;> rcases h2 with h2 | h2 <;> rcases h3 with h3 | h3 <;> simp [h1, h2, h3] at h ⊢
theorem bit_or (x y i : Nat) : (x ||| y) / 2 ^ i % 2 = if 0 < x / 2 ^ i % 2 + y / 2 ^ i % 2 then 1 else 0 := by
  have h := Nat.testBit_or x y i
  simp only [Nat.testBit_eq_decide_div_mod_eq] at h
  have h1 := Nat.mod_two_eq_zero_or_one (x / 2 ^ i)
  have h2 := Nat.mod_two_eq_zero_or_one (y / 2 ^ i)
  have h3 := Nat.mod_two_eq_zero_or_one ((x ||| y) / 2 ^ i)
  rcases h1 with h1 | h1 <;> rcases h2 with h2 | h2 <;> rcases h3 with h3 | h3 <;> simp [h1, h2, h3] at h ⊢
theorem bit_xor (x y i : Nat) : (x ^^^ y) / 2 ^ i % 2 = if x / 2 ^ i % 2 + y / 2 ^ i % 2 = 1 then 1 else 0 := by
  have h := Nat.testBit_xor x y i
  simp only [Nat.testBit_eq_decide_div_mod_eq] at h
  have h1 := Nat.mod_two_eq_zero_or_one (x / 2 ^ i)
  have h2 := Nat.mod_two_eq_zero_or_one (y / 2 ^ i)
  have h3 := Nat.mod_two_eq_zero_or_one ((x ^^^ y) / 2 ^ i)
  rcases h1 with h1 | h1 <;> rcases h2 with h2 | h2 <;> rcases h3 with h3 | h3 <;> simp [h1, h2, h3] at h ⊢
theorem getD_bits {n x i : Nat} (h : i < n) : (bitsL n x).getD i 0 = x / 2 ^ i % 2 := by rw [List.getD_eq_getElem?_getD, bitsL_at h]; rfl
theorem log_bits {k n x y : Nat} (hk : k = 8 ∨ k = 9 ∨ k = 10) (hx : x < 2 ^ n) (hy : y < 2 ^ n) : logI k (bitsL n x) (bitsL n y) n = bitsL n (opV k n x y) := by
  apply bits_ext (by simp [logI])
  intro i hi
  rw [logI, List.getElem?_map, List.getElem?_range hi, Option.map_some, getD_bits hi, getD_bits hi]
  congr 1
  rcases hk with rfl | rfl | rfl
  · rw [opV_and hx, bit_and]; simp [logB]
  · rw [opV_or hx hy, bit_or]; simp [logB]
  · rw [opV_xor hx hy, bit_xor]; simp [logB]
theorem shl_bits {n x m : Nat} : shiftI (bitsL n x) (-(m : Int)) 0 n = bitsL n (x * 2 ^ m) := by
  apply bits_ext (by simp [shiftI])
  intro i hi
  rw [shiftI, List.getElem?_map, List.getElem?_range hi, Option.map_some, shiftE, bitsL_len]
  congr 1
  by_cases h : i < m
  · rw [if_pos (by omega)]
    obtain ⟨d, rfl⟩ : ∃ d, m = i + (d + 1) := ⟨m - i - 1, by omega⟩
    have : x * 2 ^ (i + (d + 1)) = x * (2 ^ d * 2) * 2 ^ i := by rw [Nat.pow_add, Nat.pow_succ]; ac_rfl
    rw [this, Nat.mul_div_cancel _ (Nat.two_pow_pos i)]
    have : x * (2 ^ d * 2) = 2 * (x * 2 ^ d) := by ac_rfl
    omega
  · obtain ⟨d, rfl⟩ : ∃ d, i = m + d := ⟨i - m, by omega⟩
    rw [if_neg (by omega), if_neg (by omega)]
    have e1 : (((m + d : Nat) : Int) + -(m : Int)).toNat = d := by omega
    rw [e1, getD_bits (by omega), Nat.pow_add, ← Nat.div_div_eq_div_mul, Nat.mul_div_cancel _ (Nat.two_pow_pos m)]
theorem shr_bits {n x m : Nat} (hx : x < 2 ^ n) : shiftI (bitsL n x) (m : Int) 0 n = bitsL n (x / 2 ^ m) := by
  apply bits_ext (by simp [shiftI])
  intro i hi
  rw [shiftI, List.getElem?_map, List.getElem?_range hi, Option.map_some, shiftE, bitsL_len]
  congr 1
  rw [if_neg (by omega), Nat.div_div_eq_div_mul, ← Nat.pow_add]
  by_cases h : i + m < n
  · rw [if_neg (by omega)]
    have e1 : ((i : Int) + (m : Int)).toNat = i + m := by omega
    rw [e1, getD_bits h, Nat.add_comm m i]
  · rw [if_pos (by omega), Nat.div_eq_of_lt]
    exact Nat.lt_of_lt_of_le hx (Nat.pow_le_pow_right (by omega) (by omega))
theorem int_bit {z : Int} {n i : Nat} (hi : i < n) : (z % ((2 ^ n : Nat) : Int)).toNat / 2 ^ i % 2 = (z / ((2 ^ i : Nat) : Int) % 2).toNat := by
  obtain ⟨d, rfl⟩ : ∃ d, n = i + (d + 1) := ⟨n - i - 1, by omega⟩
  have hp := Nat.two_pow_pos (i + (d + 1))
  have hq := Nat.two_pow_pos i
  have h1 := Int.mul_ediv_add_emod z ((2 ^ (i + (d + 1)) : Nat) : Int)
  have h0 := Int.emod_nonneg z (b := ((2 ^ (i + (d + 1)) : Nat) : Int)) (by omega)
  obtain ⟨r, hr⟩ : ∃ r : Nat, z % ((2 ^ (i + (d + 1)) : Nat) : Int) = (r : Int) := ⟨_, (Int.toNat_of_nonneg h0).symm⟩
  rw [hr] at h1 ⊢
  have h2 : ((2 ^ (i + (d + 1)) : Nat) : Int) = ((2 ^ i : Nat) : Int) * (((2 ^ d : Nat) : Int) * 2) := by rw [Nat.pow_add, Nat.pow_succ]; simp
  rw [h2] at h1
  generalize z / (((2 ^ i : Nat) : Int) * (((2 ^ d : Nat) : Int) * 2)) = t at h1
  have h3 : z = (r : Int) + ((2 ^ d : Nat) : Int) * 2 * t * ((2 ^ i : Nat) : Int) := by
    rw [← h1, Int.add_comm]; congr 1; ac_rfl
  have h4 : z / ((2 ^ i : Nat) : Int) = ((r / 2 ^ i : Nat) : Int) + 2 * (((2 ^ d : Nat) : Int) * t) := by
    rw [h3, Int.add_mul_ediv_right _ _ (by omega), ← Int.natCast_ediv]; congr 1; ac_rfl
  rw [h4, Int.toNat_natCast]
  generalize ((2 ^ d : Nat) : Int) * t = u
  omega
theorem sar_bits {n x m : Nat} (h1 : 1 ≤ n) (hx : x < 2 ^ n) : shiftI (bitsL n x) (m : Int) (x / 2 ^ (n - 1) % 2) n = bitsL n (sarV n x m % ((2 ^ n : Nat) : Int)).toNat := by
  apply bits_ext (by simp [shiftI])
  intro i hi
  rw [shiftI, List.getElem?_map, List.getElem?_range hi, Option.map_some, shiftE, bitsL_len]
  congr 1
  rw [if_neg (by omega), int_bit hi]
  have hs : x / 2 ^ (n - 1) % 2 = if x < 2 ^ (n - 1) then 0 else 1 := by
    obtain ⟨d, rfl⟩ : ∃ d, n = d + 1 := ⟨n - 1, by omega⟩
    rw [Nat.pow_succ] at hx
    simp only [Nat.add_sub_cancel]
    split
    · rename_i h; rw [Nat.div_eq_of_lt h]
    · rename_i h
      have : x / 2 ^ d = 1 := by
        apply Nat.div_eq_of_lt_le <;> omega
      rw [this]
  have e0 : sarV n x m / ((2 ^ i : Nat) : Int) = sgn n x / ((2 ^ (m + i) : Nat) : Int) := by
    rw [sarV, Int.ediv_ediv_of_nonneg (Int.natCast_nonneg _), Nat.pow_add, Int.natCast_mul]
  rw [e0, sgn]
  by_cases h : i + m < n
  · rw [if_neg (by omega)]
    have e1 : ((i : Int) + (m : Int)).toNat = i + m := by omega
    rw [e1, getD_bits h, Nat.add_comm m i]
    split
    · rw [← Int.natCast_ediv]; omega
    · obtain ⟨d, rfl⟩ : ∃ d, n = (i + m) + (d + 1) := ⟨n - (i + m) - 1, by omega⟩
      have h2 : ((2 ^ (i + m + (d + 1)) : Nat) : Int) = (2 * ((2 ^ d : Nat) : Int)) * ((2 ^ (i + m) : Nat) : Int) := by
        rw [Nat.pow_add, Nat.pow_succ, Int.natCast_mul, Int.natCast_mul, show ((2 : Nat) : Int) = 2 from rfl]; ac_rfl
      have hq := Nat.two_pow_pos (i + m)
      have h3 : ((x : Int) - ((2 ^ (i + m + (d + 1)) : Nat) : Int)) / ((2 ^ (i + m) : Nat) : Int) = ((x / 2 ^ (i + m) : Nat) : Int) - 2 * ((2 ^ d : Nat) : Int) := by
        rw [h2, Int.sub_eq_add_neg, ← Int.neg_mul, Int.add_mul_ediv_right _ _ (by omega), ← Int.natCast_ediv]; omega
      rw [h3]; omega
  · rw [if_pos (by omega), hs]
    have hle : 2 ^ n ≤ 2 ^ (m + i) := Nat.pow_le_pow_right (by omega) (by omega)
    split
    · rw [← Int.natCast_ediv, Nat.div_eq_of_lt (by omega)]; rfl
    · have : ((x : Int) - ((2 ^ n : Nat) : Int)) / ((2 ^ (m + i) : Nat) : Int) = -1 := by
        generalize 2 ^ n = p at *
        generalize 2 ^ (m + i) = q at *
        have h5 := Int.ediv_lt_of_lt_mul (a := (x : Int) - (p : Int)) (b := 0) (c := (q : Int)) (by omega) (by omega)
        have h6 := Int.le_ediv_of_mul_le (a := -1) (b := (x : Int) - (p : Int)) (c := (q : Int)) (by omega) (by omega)
        omega
      rw [this]; rfl
end Go.Proofs.Ytcnnanicdjdddaa
