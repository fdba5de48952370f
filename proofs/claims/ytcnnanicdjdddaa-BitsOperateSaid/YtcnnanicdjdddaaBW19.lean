/- The reference's long division. -/
import Derived.Test.YtcnnanicdjdddaaBW18
namespace Go.Proofs.Ytcnnanicdjdddaa
open Go Go.Ab Go.Proofs
set_option linter.unusedVariables false
set_option linter.unusedSimpArgs false
set_option maxRecDepth 20000

theorem num_set {l : List Nat} {i b : Nat} (h01 : bits01 l) (hb : b ≤ 1) (h0 : l[i]? = some 0) : num (l.set i b) = num l + 2 ^ i * b := by
  have hi := (List.getElem?_eq_some_iff.1 h0).1
  have e1 := num_split (l := l) (k := i) (by omega)
  have e2 := num_split (l := l.set i b) (k := i) (by simp; omega)
  have t : (l.set i b).take i = l.take i := by rw [List.take_set_of_le (by omega)]
  have d1 : l.drop i = 0 :: l.drop (i + 1) := by
    rw [List.drop_eq_getElem_cons hi]
    congr 1
    have := (List.getElem?_eq_some_iff.1 h0).2
    exact this
  have d2 : (l.set i b).drop i = b :: l.drop (i + 1) := by
    rw [List.drop_set, if_neg (by omega), Nat.sub_self, d1]; rfl
  rw [e2, t, d2, e1, d1]
  simp only [num]
  rw [num_bit hb, Nat.one_mul]
  have : (if (0 : Nat) = 1 then 1 else 0) = 0 := rfl
  rw [this, Nat.zero_add, Nat.mul_add]
  omega
theorem set_01 {l : List Nat} {i b : Nat} (h01 : bits01 l) (hb : b ≤ 1) : bits01 (l.set i b) := fun c hc => by
  rcases List.mem_or_eq_of_mem_set hc with h | h
  · exact h01 c h
  · omega
/-- One round of a long division. -/
theorem div_round {A B a r : Nat} (hB : 0 < B) (hr : r = A % B) (ha : a ≤ 1) : (2 * A + a) / B = 2 * (A / B) + (if B ≤ 2 * r + a then 1 else 0) ∧ (2 * A + a) % B = if B ≤ 2 * r + a then 2 * r + a - B else 2 * r + a := by
  have h1 := Nat.div_add_mod A B
  have h2 := Nat.mod_lt A hB
  rw [← hr] at h1 h2
  have h3 : 2 * A + a = B * (2 * (A / B)) + (2 * r + a) := by
    have : B * (2 * (A / B)) = 2 * (B * (A / B)) := by rw [Nat.mul_left_comm]
    omega
  split
  · rename_i h
    have h4 : 2 * A + a = B * (2 * (A / B) + 1) + (2 * r + a - B) := by rw [Nat.mul_add, Nat.mul_one]; omega
    constructor
    · rw [h4, Nat.mul_add_div hB, Nat.div_eq_of_lt (show 2 * r + a - B < B by omega), Nat.add_zero]
    · rw [h4, Nat.mul_add_mod, Nat.mod_eq_of_lt (by omega)]
  · rename_i h
    constructor
    · rw [h3, Nat.mul_add_div hB, Nat.div_eq_of_lt (show 2 * r + a < B by omega)]
    · rw [h3, Nat.mul_add_mod, Nat.mod_eq_of_lt (by omega)]

/-- What holds before a round of a long division, when k rounds are left. -/
def DivI (n A B k : Nat) (rl ql : List Nat) : Prop := bits01 rl ∧ rl.length = n + 1 ∧ num rl = (A / 2 ^ k) % B ∧ bits01 ql ∧ ql.length = n ∧ num ql = 2 ^ k * ((A / 2 ^ k) / B) ∧ ∀ j, j < k → ql[j]? = some 0
theorem DivI.init {n A B : Nat} (hA : A < 2 ^ n) : DivI n A B n (List.replicate (n + 1) 0) (List.replicate n 0) := by
  refine ⟨zeros_01 _, by simp, ?_, zeros_01 _, by simp, ?_, fun j hj => by simp [hj]⟩
  · rw [num_zeros, Nat.div_eq_of_lt hA, Nat.zero_mod]
  · rw [num_zeros, Nat.div_eq_of_lt hA, Nat.zero_div, Nat.mul_zero]
theorem num_up_set {l : List Nat} {a : Nat} (h : 1 ≤ l.length) (hl : 2 * num l < 2 ^ l.length) : num ((upL l).set 0 a) = 2 * num l + (if a = 1 then 1 else 0) := by
  have h1 := num_up h
  rw [Nat.mod_eq_of_lt hl] at h1
  simp only [upL, num, List.set_cons_zero] at *
  have : (if (0 : Nat) = 1 then 1 else 0) = 0 := rfl
  omega
theorem DivI.step {n A B j : Nat} {rl ql b : List Nat} (hd : DivI n A B (j + 1) rl ql) (hb : bits01 b) (hbl : b.length = n) (hB : num b = B) (h0 : 0 < B) (hj : j < n) :
    (bits01 ((upL rl).set 0 (A / 2 ^ j % 2)) ∧ ((upL rl).set 0 (A / 2 ^ j % 2)).length = n + 1) ∧ (B ≤ num ((upL rl).set 0 (A / 2 ^ j % 2)) → DivI n A B j (addL ((upL rl).set 0 (A / 2 ^ j % 2)) (notL (b ++ [0])) 1) (ql.set j 1)) ∧ (¬ B ≤ num ((upL rl).set 0 (A / 2 ^ j % 2)) → DivI n A B j ((upL rl).set 0 (A / 2 ^ j % 2)) ql) := by
  obtain ⟨r1, r2, r3, q1, q2, q3, q4⟩ := hd
  have hBn : B < 2 ^ n := by rw [← hB, ← hbl]; exact num_lt _
  have ha : A / 2 ^ j % 2 ≤ 1 := by omega
  have hA : A / 2 ^ j = 2 * (A / 2 ^ (j + 1)) + A / 2 ^ j % 2 := by
    have : A / 2 ^ (j + 1) = A / 2 ^ j / 2 := by rw [Nat.pow_succ, Nat.div_div_eq_div_mul]
    omega
  have hr : num rl < B := by rw [r3]; exact Nat.mod_lt _ h0
  have hpn : 2 ^ (n + 1) = 2 * 2 ^ n := by rw [Nat.pow_succ]; omega
  have hnum := num_up_set (l := rl) (a := A / 2 ^ j % 2) (by omega) (by rw [r2]; omega)
  have hbit : (if A / 2 ^ j % 2 = 1 then 1 else 0) = A / 2 ^ j % 2 := by split <;> omega
  rw [hbit] at hnum
  obtain ⟨d1, d2⟩ := div_round (A := A / 2 ^ (j + 1)) (a := A / 2 ^ j % 2) h0 r3 ha
  rw [← hA] at d1 d2
  generalize hr1 : (upL rl).set 0 (A / 2 ^ j % 2) = x at *
  have x01 : bits01 x := by rw [← hr1]; exact set_01 (upL_01 r1) ha
  have xl : x.length = n + 1 := by rw [← hr1, List.length_set, upL_len (by omega), r2]
  rw [← hnum] at d1 d2
  refine ⟨⟨x01, xl⟩, fun hle => ?_, fun hle => ?_⟩
  · rw [if_pos hle] at d1 d2
    have w01 : bits01 (b ++ [0]) := bits01_app hb (bits01_one (by omega))
    have wn : num (b ++ [0]) = B := by rw [num_snoc (by omega), hB, Nat.mul_zero, Nat.add_zero]
    have nn := num_not w01
    rw [wn, List.length_append, hbl] at nn
    have na := num_add (c := 1) x01 (notL_01 (b ++ [0])) (by simp [notL, xl, hbl])
    rw [List.take_of_length_le (by simp [notL, xl, hbl]), xl] at na
    have hx := num_lt x
    rw [xl] at hx
    refine ⟨addL_01 _ _ _, by rw [addL_len, xl], ?_, set_01 q1 (by omega), by rw [List.length_set, q2], ?_, fun i hi => ?_⟩
    · rw [na, d2]
      have : num x + num (notL (b ++ [0])) + 1 = (num x - B) + 2 ^ (n + 1) := by
        simp only [List.length_cons, List.length_nil, Nat.zero_add] at nn
        omega
      rw [this, Nat.add_mod_right, Nat.mod_eq_of_lt (by omega)]
    · rw [num_set q1 (by omega) (q4 j (by omega)), q3, d1, Nat.pow_succ, Nat.mul_one, Nat.mul_add, Nat.mul_one, Nat.mul_assoc]
    · rw [List.getElem?_set_ne (by omega)]; exact q4 i (by omega)
  · rw [if_neg hle] at d1 d2
    refine ⟨x01, xl, d2.symm, q1, q2, ?_, fun i hi => q4 i (by omega)⟩
    rw [q3, d1, Nat.pow_succ, Nat.add_zero, Nat.mul_assoc]
theorem DivI.done {n A B : Nat} {rl ql : List Nat} (hd : DivI n A B 0 rl ql) (h0 : 0 < B) (hB : B < 2 ^ n) : ql = bitsL n (A / B) ∧ rl.take n = bitsL n (A % B) := by
  obtain ⟨r1, r2, r3, q1, q2, q3, q4⟩ := hd
  rw [Nat.pow_zero, Nat.div_one] at r3 q3
  rw [Nat.one_mul] at q3
  have hq := num_lt ql
  have hm := Nat.mod_lt A h0
  refine ⟨bits_of_num q1 q2 ?_, bits_of_num (fun c hc => r1 c (List.mem_of_mem_take hc)) (by simp [r2]) ?_⟩
  · rw [q3, Nat.mod_eq_of_lt]
    rw [← q3, ← q2]; exact hq
  · have hs := num_split (l := rl) (k := n) (by omega)
    rw [← r3, hs]
    have := num_lt (rl.take n)
    rw [List.length_take, r2, Nat.min_eq_left (by omega)] at this
    rw [Nat.add_mul_mod_self_left, Nat.mod_eq_of_lt this]
end Go.Proofs.Ytcnnanicdjdddaa
