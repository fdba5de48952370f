/- Store. -/
import Derived.Test.YtdmjloieldhlnaaIW14
namespace Go.Proofs.Ytdmjloieldhlnaa
open Go Go.Ab Go.Proofs
set_option linter.unusedVariables false
set_option linter.unusedSimpArgs false
set_option maxRecDepth 20000

/-- The address after so many bytes. -/
def adr (d m : Nat) : Nat := (d + m) % 4294967296
theorem adr_succ {d m : Nat} (hd : d < 4294967296) : nxt (adr d m : Int) = (adr d (m + 1) : Int) := by
  unfold nxt adr
  by_cases h : ((((d + m) % 4294967296 : Nat) : Int) = 4294967295)
  · rw [if_pos h]; omega
  · rw [if_neg h]; omega
theorem and_mask (a : Nat) (ha : a < 18446744073709551616) : a &&& 4294967295 = a % 4294967296 := Nat.and_two_pow_sub_one_eq_mod a 32
theorem byte_step {x m : Nat} : x / 256 ^ m / 256 = x / 256 ^ (m + 1) := by rw [Nat.div_div_eq_div_mul, Nat.pow_succ]
/-- A round of the reference's memory, at the address and the byte that the code computes. -/
theorem sto_step {l : List (Int × Int)} {d x n m : Nat} (hd : d < 4294967296) (hm : m < n) : stoL (n - m) l (adr d m) (x / 256 ^ m) = stoL (n - (m + 1)) (putL l (adr d m) ((x / 256 ^ m % 256 : Nat) : Int)) (adr d (m + 1)) (x / 256 ^ (m + 1)) := by
  rw [show n - m = (n - (m + 1)) + 1 by omega]
  show stoL (n - (m + 1)) (putL l (adr d m) ((x / 256 ^ m % 256 : Nat) : Int)) (nxt (adr d m)) (x / 256 ^ m / 256) = _
  rw [adr_succ hd, byte_step]
theorem bvn (x : Nat) : (BitVec.ofInt IntKind.u64.bits (x : Int)) = BitVec.ofNat 64 x := by
  simp [IntKind.bits]
theorem band {x y : Nat} (hx : x < 18446744073709551616) (hy : y < 18446744073709551616) : bitsA .and .u64 (x : Int) (y : Int) = some ((x &&& y : Nat) : Int) := by
  simp only [bitsA, bvn]
  congr 1
  have h1 : (BitVec.ofNat 64 x &&& BitVec.ofNat 64 y).toNat = x &&& y := by
    rw [BitVec.toNat_and, BitVec.toNat_ofNat, BitVec.toNat_ofNat, Nat.mod_eq_of_lt (by omega), Nat.mod_eq_of_lt (by omega)]
  show IntKind.u64.wrap (((BitVec.ofNat 64 x &&& BitVec.ofNat 64 y).toNat : Nat) : Int) = _
  rw [h1]
  have : x &&& y ≤ x := Nat.and_le_left
  exact wu64 (by omega) (by omega)
theorem band_lit {a : Nat} (ha : a < 18446744073709551616) : bitsA .and .u64 (a : Int) 4294967295 = some ((a % 4294967296 : Nat) : Int) := by
  have := band ha (show 4294967295 < 18446744073709551616 by decide)
  rw [and_mask a ha] at this
  exact this
end Go.Proofs.Ytdmjloieldhlnaa
