/- Texts of bit vectors, read back: the plain law. -/
import Derived.Test.YtcnnanicdjdddaaBW7
import Derived.Test.YtcnnanicdjdddaaCore24
import Derived.Test.YtcnnanicdjdddaaBA5
namespace Go.Proofs.Ytcnnanicdjdddaa
open Go Go.Ab Go.Proofs
set_option linter.unusedVariables false
set_option linter.unusedSimpArgs false
set_option maxRecDepth 20000

/-- A decimal digit. -/
def isD (b : UInt8) : Prop := 48 ≤ b.toNat ∧ b.toNat ≤ 57
instance (b : UInt8) : Decidable (isD b) := by unfold isD; infer_instance
/-- The value of a hexadecimal digit. -/
def hexv (b : UInt8) : Nat := if isD b then b.toNat - 48 else if 97 ≤ b.toNat ∧ b.toNat ≤ 102 then b.toNat - 87 else 0
theorem hexv_lt (b : UInt8) : hexv b < 16 := by
  by_cases h : isD b
  · rw [hexv, if_pos h]; unfold isD at h; omega
  · by_cases h2 : 97 ≤ b.toNat ∧ b.toNat ≤ 102
    · rw [hexv, if_neg h, if_pos h2]; omega
    · rw [hexv, if_neg h, if_neg h2]; omega
theorem hexv_dig : ∀ d, d < 16 → hexv (dig d) = d := by decide
theorem dig_D : ∀ d, d < 10 → isD (dig d) ∧ (dig d).toNat - 48 = d := by decide
def hexF (x : Nat) (b : UInt8) : Nat := (x * 16 + hexv b) % 18446744073709551616
def leadV (l : List UInt8) : Nat := l.foldl (fun w b => 10 * w + (b.toNat - 48)) 0
theorem hexT_succ (m x j : Nat) : hexT m x (j + 1) = hexT m x j ++ [dig (x / 2 ^ (4 * (m - 1 - j)) % 16)] := by simp [hexT, List.range_succ]
theorem hexT_len (m x j : Nat) : (hexT m x j).length = j := by simp [hexT]
theorem fold_hexT {m x : Nat} (hm : x < 2 ^ (4 * m)) (hx : x < 18446744073709551616) : ∀ j, j ≤ m → (hexT m x j).foldl hexF 0 = x / 2 ^ (4 * (m - j))
  | 0, _ => by rw [Nat.sub_zero, Nat.div_eq_of_lt hm]; rfl
  | j + 1, hj => by
    rw [hexT_succ, List.foldl_append, fold_hexT hm hx j (by omega)]
    have e1 : 4 * (m - j) = 4 * (m - 1 - j) + 4 := by omega
    have e2 : m - (j + 1) = m - 1 - j := by omega
    rw [e2, e1]
    simp only [List.foldl_cons, List.foldl_nil, hexF]
    have h1 : x / 2 ^ (4 * (m - 1 - j)) ≤ x := Nat.div_le_self _ _
    rw [hexv_dig _ (Nat.mod_lt _ (by omega)), Nat.pow_add, ← Nat.div_div_eq_div_mul]
    generalize x / 2 ^ (4 * (m - 1 - j)) = y at *
    show (y / 16 * 16 + y % 16) % _ = y
    omega
theorem hex_bound {n x : Nat} (hx : x < 2 ^ n) (n2 : n ≤ 64) : x < 2 ^ (4 * ((n + 3) / 4)) ∧ x < 18446744073709551616 := by
  have h1 : 2 ^ n ≤ 2 ^ (4 * ((n + 3) / 4)) := Nat.pow_le_pow_right (by omega) (by omega)
  have h2 : 2 ^ n ≤ 2 ^ 64 := Nat.pow_le_pow_right (by omega) n2
  omega
theorem fold_text {n x : Nat} (hx : x < 2 ^ n) (n2 : n ≤ 64) : (hexT ((n + 3) / 4) x ((n + 3) / 4)).foldl hexF 0 = x := by
  obtain ⟨h1, h2⟩ := hex_bound hx n2
  rw [fold_hexT h1 h2 _ (Nat.le_refl _), Nat.sub_self]; simp
theorem lead_text {n x i : Nat} (n1 : 1 ≤ n) (n2 : n ≤ 64) (hi : i ≤ 2) (h1 : ∀ j b, j < i → (textL n x)[j]? = some b → isD b) (h2 : i < 2 → ∀ b, (textL n x)[i]? = some b → ¬ isD b) :
    leadV ((textL n x).take i) = n ∧ (textL n x).drop (i + 1) = hexT ((n + 3) / 4) x ((n + 3) / 4) := by
  have c58 : ¬ isD 58 := by decide
  unfold textL widthT at *
  by_cases h9 : 9 < n
  · obtain ⟨a1, a2⟩ := dig_D (n / 10) (by omega)
    obtain ⟨b1, b2⟩ := dig_D (n % 10) (by omega)
    simp only [if_pos h9, List.cons_append, List.nil_append] at *
    have hi2 : i = 2 := by
      rcases Nat.lt_or_ge i 2 with h | h
      · rcases (by omega : i = 0 ∨ i = 1) with rfl | rfl
        · exact absurd a1 (h2 (by omega) _ rfl)
        · exact absurd b1 (h2 (by omega) _ rfl)
      · omega
    subst hi2
    refine ⟨?_, by simp⟩
    simp only [leadV, List.take_succ_cons, List.take_zero, List.foldl_cons, List.foldl_nil, a2, b2]
    omega
  · obtain ⟨b1, b2⟩ := dig_D (n % 10) (by omega)
    simp only [if_neg h9, List.cons_append, List.nil_append] at *
    have hi1 : i = 1 := by
      rcases (by omega : i = 0 ∨ i = 1 ∨ i = 2) with rfl | rfl | rfl
      · exact absurd b1 (h2 (by omega) _ rfl)
      · rfl
      · exact absurd (h1 1 58 (by omega) rfl) c58
    subst hi1
    refine ⟨?_, by simp⟩
    simp only [leadV, List.take_succ_cons, List.take_zero, List.foldl_cons, List.foldl_nil, b2]
    omega
theorem text_inj {n x n' x' : Nat} (n1 : 1 ≤ n) (n2 : n ≤ 64) (m1 : 1 ≤ n') (m2 : n' ≤ 64) (hx : x < 2 ^ n) (hx' : x' < 2 ^ n') (h : textL n x = textL n' x') : n = n' ∧ x = x' := by
  have c58 : ¬ isD 58 := by decide
  obtain ⟨i, hi, h1, h2⟩ : ∃ i, i ≤ 2 ∧ (∀ j b, j < i → (textL n x)[j]? = some b → isD b) ∧ (i < 2 → ∀ b, (textL n x)[i]? = some b → ¬ isD b) := by
    unfold textL widthT
    by_cases h9 : 9 < n
    · refine ⟨2, by omega, fun j b hj hb => ?_, fun h => by omega⟩
      obtain ⟨a1, a2⟩ := dig_D (n / 10) (by omega)
      obtain ⟨b1, b2⟩ := dig_D (n % 10) (by omega)
      simp only [if_pos h9, List.cons_append, List.nil_append] at hb
      rcases (by omega : j = 0 ∨ j = 1) with rfl | rfl
      · simp at hb; rw [← hb]; exact a1
      · simp at hb; rw [← hb]; exact b1
    · refine ⟨1, by omega, fun j b hj hb => ?_, fun _ b hb => ?_⟩
      · obtain ⟨b1, b2⟩ := dig_D (n % 10) (by omega)
        simp only [if_neg h9, List.cons_append, List.nil_append] at hb
        obtain rfl : j = 0 := by omega
        simp at hb; rw [← hb]; exact b1
      · simp only [if_neg h9, List.cons_append, List.nil_append] at hb
        simp at hb; rw [← hb]; exact c58
  obtain ⟨a1, a2⟩ := lead_text n1 n2 hi h1 h2
  rw [h] at h1 h2
  obtain ⟨b1, b2⟩ := lead_text m1 m2 hi h1 h2
  rw [h] at a1 a2
  have e1 : n = n' := a1.symm.trans b1
  have f1 := fold_text hx n2
  have f2 := fold_text hx' m2
  rw [← a2] at f1
  rw [← b2] at f2
  exact ⟨e1, f1.symm.trans f2⟩
/-- What reading a text gives. -/
def Parses (s : List UInt8) (w x e : Nat) : Prop := (1 ≤ w ∧ w ≤ 64 ∧ x < 2 ^ w ∧ s = textL w x ∧ e = 0) ∨ ((∀ n y, 1 ≤ n → n ≤ 64 → y < 2 ^ n → s ≠ textL n y) ∧ w = 0 ∧ x = 0 ∧ e = 12)
theorem parses_some (s : List UInt8) : ∃ w x e, Parses s w x e := by
  by_cases h : ∃ n y, 1 ≤ n ∧ n ≤ 64 ∧ y < 2 ^ n ∧ s = textL n y
  · obtain ⟨n, y, h1, h2, h3, h4⟩ := h
    exact ⟨n, y, 0, .inl ⟨h1, h2, h3, h4, rfl⟩⟩
  · exact ⟨0, 0, 12, .inr ⟨fun n y h1 h2 h3 h4 => h ⟨n, y, h1, h2, h3, h4⟩, rfl, rfl, rfl⟩⟩
theorem Parses.text {s : List UInt8} {w x e n y : Nat} (hp : Parses s w x e) (h1 : 1 ≤ n) (h2 : n ≤ 64) (h3 : y < 2 ^ n) (h4 : s = textL n y) : w = n ∧ x = y ∧ e = 0 := by
  rcases hp with ⟨a1, a2, a3, a4, a5⟩ | ⟨a1, _⟩
  · obtain ⟨e1, e2⟩ := text_inj a1 a2 h1 h2 a3 h3 (a4 ▸ h4)
    exact ⟨e1, e2, a5⟩
  · exact absurd h4 (a1 n y h1 h2 h3)
/-- Numbers read off a text that isn't theirs: there is none. -/
theorem Parses.none {s : List UInt8} {w x e W X : Nat} (hp : Parses s w x e) (hr : ∀ n y, 1 ≤ n → n ≤ 64 → y < 2 ^ n → s = textL n y → W = n ∧ X = y) (hno : ¬ (1 ≤ W ∧ W ≤ 64 ∧ X < 2 ^ W ∧ textL W X = s)) : w = 0 ∧ x = 0 ∧ e = 12 := by
  rcases hp with ⟨a1, a2, a3, a4, a5⟩ | ⟨_, h⟩
  · obtain ⟨rfl, rfl⟩ := hr w x a1 a2 a3 a4
    exact absurd ⟨a1, a2, a3, a4.symm⟩ hno
  · exact h
end Go.Proofs.Ytcnnanicdjdddaa
