/- Small equations for the walks. -/
import Derived.Test.YtdmjloieldhlnaaCore18
import Derived.Laws.BitsLemmas
import Derived.Laws.Bits64
import Derived.Laws.BitsAllLaws
namespace Go.Ab
open Go.RowKit
set_option linter.unusedVariables false
set_option linter.unusedSimpArgs false

theorem w64 {n : Int} (h0 : -9223372036854775808 ≤ n) (h1 : n < 9223372036854775808) : IntKind.i64.wrap n = n := by rw [IntKind.wrap_i64]; omega
theorem wu64 {n : Int} (h0 : 0 ≤ n) (h1 : n < 18446744073709551616) : IntKind.u64.wrap n = n := by rw [IntKind.wrap_u64]; omega
theorem wu8 {n : Int} (h0 : 0 ≤ n) (h1 : n < 256) : IntKind.u8.wrap n = n := by rw [IntKind.wrap_u8]; omega

variable (k : IntKind) (a b : Int)
theorem b_add : binA .add (.int k a) (.int k b) = some (.int k (k.wrap (a + b))) := by simp [binA, numA]
theorem b_sub : binA .sub (.int k a) (.int k b) = some (.int k (k.wrap (a - b))) := by simp [binA, numA]
theorem b_mul : binA .mul (.int k a) (.int k b) = some (.int k (k.wrap (a * b))) := by simp [binA, numA]
theorem b_quo (h : b ≠ 0) : binA .quo (.int k a) (.int k b) = some (.int k (k.wrap (a.tdiv b))) := by simp [binA, numA, h]
theorem b_rem (h : b ≠ 0) : binA .rem (.int k a) (.int k b) = some (.int k (a.tmod b)) := by simp [binA, numA, h]
theorem b_eql : binA .eql (.int k a) (.int k b) = some (.bool (decide (a = b))) := by simp [binA, numA, cmpA]
theorem b_neq : binA .neq (.int k a) (.int k b) = some (.bool (!decide (a = b))) := by simp [binA, numA, cmpA]
theorem b_lss : binA .lss (.int k a) (.int k b) = some (.bool (decide (a < b))) := by simp [binA, numA, cmpA]
theorem b_leq : binA .leq (.int k a) (.int k b) = some (.bool (decide (a ≤ b))) := by simp [binA, numA, cmpA]
theorem b_gtr : binA .gtr (.int k a) (.int k b) = some (.bool (decide (b < a))) := by simp [binA, numA, cmpA]
theorem b_geq : binA .geq (.int k a) (.int k b) = some (.bool (decide (b ≤ a))) := by simp [binA, numA, cmpA]
theorem b_and : binA .and (.int k a) (.int k b) = (bitsA .and k a b).map (.int k) := by simp [binA, numA]
theorem b_or : binA .or (.int k a) (.int k b) = (bitsA .or k a b).map (.int k) := by simp [binA, numA]
theorem b_xor : binA .xor (.int k a) (.int k b) = (bitsA .xor k a b).map (.int k) := by simp [binA, numA]
theorem b_andNot : binA .andNot (.int k a) (.int k b) = (bitsA .andNot k a b).map (.int k) := by simp [binA, numA]
theorem b_shl (k' : IntKind) (h : 0 ≤ b) : binA .shl (.int k a) (.int k' b) = some (.int k (k.wrap (a * 2 ^ (min b.toNat k.bits)))) := by
  have : ¬ b < 0 := by omega
  simp [binA, shA, this]
theorem b_shr (k' : IntKind) (h : 0 ≤ b) : binA .shr (.int k a) (.int k' b) = some (.int k (a.fdiv (2 ^ (min b.toNat k.bits)))) := by
  have : ¬ b < 0 := by omega
  simp [binA, shA, this]
theorem b_str (op : BinOp) (x y : List UInt8) : binA op (.str x) (.str y) = strA op x y := rfl
theorem bt1 : (true == true) = true := rfl
theorem bt2 : (true == false) = false := rfl
theorem bt3 : (false == true) = false := rfl
theorem bt4 : (false == false) = true := rfl
theorem idxA_lst {sz : Nat} {es : List (List AV)} {n : Nat} {e : List AV} (h : es[n]? = some e) : idxA sz (.lst sz es) (n : Int) = some (.fp e) := by simp [idxA, h]
theorem idxA_map {α : Type} {f : α → List AV} {sz : Nat} {l : List α} {n : Nat} {r : α} (h : l[n]? = some r) : idxA sz (.lst sz (l.map f)) (n : Int) = some (.fp (f r)) := idxA_lst (by simp [h])
theorem addA_fp (off : Nat) (cs : List AV) : addA off (.fp cs) = some (.fp (cs.drop off)) := rfl
theorem ptr_fp (h : Heap) (cs : List AV) : ptrCells h (.fp cs) = some cs := rfl
theorem rel_fp (h : Heap) (sz : Nat) (ag : Bool) (cs : List AV) : reload h sz ag (.fp cs) = takeV sz ag cs := rfl
theorem take1 (sz : Nat) (x : AV) (r : List AV) : takeV sz false (x :: r) = some x := rfl
theorem takeA {sz : Nat} {cs : List AV} (h : sz ≤ cs.length) : takeV sz true cs = some (.agg (cs.take sz)) := by simp [takeV, h]
theorem fp_is (cs : List AV) : (AV.fp cs).isFp = true := rfl
theorem op_is (b o : Nat) : (AV.op b o).isFp = false := rfl
theorem len_map {α : Type} (f : α → List AV) (sz : Nat) (l : List α) : lenA (.lst sz (l.map f)) = some l.length := by simp [lenA]
theorem ofV_int : ofV (.int k a) = some (.int k a) := rfl
theorem ofV_str (s : ByteArray) : ofV (.string s) = some (.str s.data.toList) := rfl
theorem ofV_nilS : ofV (.slice none 0 0) = some .nilS := rfl
theorem ofV_nilP : ofV (.pointer none) = some .nilP := rfl
theorem ofV_nilM : ofV (.map none) = some .nilM := rfl
theorem ofV_nilF : ofV .nilFunc = some .nilF := rfl
theorem ofV_nilI : ofV .nilIface = some .nilI := rfl
theorem ofV_bool (c : Bool) : ofV (.bool c) = some (.bool c) := rfl

end Go.Ab
