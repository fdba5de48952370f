/- Packed tables: the bytes of numbers and rows. -/
import Derived.Test.YtmnlfgnpmpebmaaRW6
import Derived.Test.YtmnlfgnpmpebmaaCore27
namespace Go.Proofs.Ytmnlfgnpmpebmaa
open Go Go.Ab Go.Proofs
set_option linter.unusedVariables false
set_option linter.unusedSimpArgs false
set_option maxRecDepth 20000

def byE (n : Nat) : List AV := [.int .u8 (n : Int)]
def bytesA (b : List Nat) : AV := .lst 1 (b.map byE)
theorem byE_len (l : List Nat) : ∀ z ∈ l.map byE, z.length = 1 := fun z hz => by
  obtain ⟨r, _, rfl⟩ := List.mem_map.1 hz; rfl
/-- A number, seven bits a byte. -/
def varL (n : Nat) : List Nat := if h : n < 128 then [n] else (n % 128 + 128) :: varL (n / 128)
termination_by n
decreasing_by omega
theorem varL_lt {n : Nat} (h : n < 128) : varL n = [n] := by rw [varL, dif_pos h]
theorem varL_ge {n : Nat} (h : ¬ n < 128) : varL n = (n % 128 + 128) :: varL (n / 128) := by rw [varL, dif_neg h]
theorem varL_len : ∀ (k n : Nat), n < 128 ^ (k + 1) → (varL n).length ≤ k + 1
  | 0, n, h => by rw [varL_lt (by simpa using h)]; simp
  | k + 1, n, h => by
    by_cases h1 : n < 128
    · rw [varL_lt h1]; simp
    · rw [varL_ge h1, List.length_cons]
      have := varL_len k (n / 128) (by
        rw [Nat.pow_succ] at h
        exact Nat.div_lt_of_lt_mul (by rw [Nat.mul_comm]; exact h))
      omega
theorem varL_len10 {n : Nat} (h : n < 18446744073709551616) : (varL n).length ≤ 10 := varL_len 9 n (by
  have : (128 : Nat) ^ (9 + 1) = 1180591620717411303424 := by decide
  omega)
theorem varL_byte : ∀ (n : Nat), ∀ x ∈ varL n, x < 256 := by
  intro n
  induction n using Nat.strongRecOn with
  | ind n ih =>
    intro x hx
    by_cases h1 : n < 128
    · rw [varL_lt h1] at hx; simp at hx; omega
    · rw [varL_ge h1] at hx
      rcases List.mem_cons.1 hx with rfl | hx
      · omega
      · exact ih (n / 128) (by omega) x hx
def short (d n : Int) : Prop := 1 ≤ d ∧ d ≤ 14 ∧ -8 ≤ n ∧ n ≤ 7
instance (d n : Int) : Decidable (short d n) := by unfold short; infer_instance
def foldZ (n : Int) : Int := if n < 0 then -2 * n - 1 else 2 * n
/-- A row's bytes. -/
def rowB (d n : Int) : List Nat := if short d n then [(32 + 16 * (d - 1) + n + 8).toNat] else 1 :: (varL d.toNat ++ varL (foldZ n).toNat)
def prevR (l : List (Int × Int)) (j : Nat) : Int × Int := if j = 0 then (0, 0) else l.getD (j - 1) (0, 0)
/-- The bytes of a table's first rows. -/
def pkI (l : List (Int × Int)) (i : Nat) : List Nat := (List.range i).flatMap fun j => rowB ((l.getD j (0, 0)).1 - (prevR l j).1) ((l.getD j (0, 0)).2 - (prevR l j).2)
def packB (l : List (Int × Int)) : List Nat := pkI l l.length ++ [0]
theorem pkI_succ {l : List (Int × Int)} {i : Nat} {r : Int × Int} (hr : l[i]? = some r) : pkI l (i + 1) = pkI l i ++ rowB (r.1 - (prevR l i).1) (r.2 - (prevR l i).2) := by
  simp [pkI, List.range_succ, hr]
theorem prevR_succ {l : List (Int × Int)} {i : Nat} {r : Int × Int} (hr : l[i]? = some r) : prevR l (i + 1) = r := by
  rw [prevR, if_neg (by omega), Nat.add_sub_cancel, List.getD_eq_getElem?_getD, hr]; rfl
theorem rowB_len {d n : Int} (hd : d < 18446744073709551616) (h1 : -4611686018427387904 < n) (h2 : n < 4611686018427387904) : (rowB d n).length ≤ 21 := by
  unfold rowB
  split
  · simp
  · have a := varL_len10 (n := d.toNat) (by omega)
    have b := varL_len10 (n := (foldZ n).toNat) (by unfold foldZ; split <;> omega)
    simp only [List.length_cons, List.length_append]; omega
/-- What a valid table's rows are like. -/
theorem vstep {l : List (Int × Int)} (hc : chk l = 0) (hw : wfR l) {i : Nat} {r : Int × Int} (hr : l[i]? = some r) :
    0 ≤ r.1 - (prevR l i).1 ∧ (0 < i → 1 ≤ r.1 - (prevR l i).1) ∧ 0 ≤ (prevR l i).1 ∧ (prevR l i).1 < 4294967296 ∧ r.1 < 4294967296 ∧ 0 ≤ (prevR l i).2 ∧ (prevR l i).2 ≤ 1048576 ∧ 1 ≤ r.2 ∧ r.2 ≤ 1048576 := by
  obtain ⟨hl, hg⟩ := chk_ok hc
  have hi := (List.getElem?_eq_some_iff.1 hr).1
  have b1 := (hg i hi r hr).1
  have w1 := hw r (List.mem_of_getElem? hr)
  unfold bad1 at b1
  cases i with
  | zero => simp only [prevR, if_pos]; omega
  | succ j =>
    have hp := List.getElem?_eq_getElem (show j < l.length by omega)
    generalize l[j] = p at hp
    rw [prevR_succ hp]
    have b2 := (hg j (by omega) p hp).1
    have w2 := hw p (List.mem_of_getElem? hp)
    have b3 := (hg (j + 1) hi r hr).2 (by omega) p (by simpa using hp)
    unfold bad1 at b2
    unfold bad2 at b3
    omega
theorem pkI_len {l : List (Int × Int)} (hc : chk l = 0) (hw : wfR l) : ∀ i, i ≤ l.length → (pkI l i).length ≤ 21 * i
  | 0, _ => by simp [pkI]
  | i + 1, hi => by
    have hr := List.getElem?_eq_getElem (show i < l.length by omega)
    rw [pkI_succ hr, List.length_append]
    have := pkI_len hc hw i (by omega)
    obtain ⟨a1, a2, a3, a4, a5, a6, a7, a8, a9⟩ := vstep hc hw hr
    have := rowB_len (d := l[i].1 - (prevR l i).1) (n := l[i].2 - (prevR l i).2) (by omega) (by omega) (by omega)
    omega

theorem w29 (d n : Int) : Pure Try.prog 29 [.int .u64 d, .int .i64 n] (.bool (decide (short d n))) := by
  refine Pure.of fun nx => AC.go mixed is29 (by simp) ?_
  by_cases h1 : (1 : Int) ≤ d
  case neg =>
    have : ¬ short d n := fun h => h1 h.1
    simp -implicitDefEqProofs only [go_skip, go_label, go_exit, go_ret, go_seq, go_block, go_cond, go_region, go_loop, go_dregion, fin_nil, fin_seq_n, fin_seq_e, fin_seq_r, fin_seq_p, fin_blk_n, fin_blk_e, fin_blk_r, fin_blk_p, rg_nil, rg_cons, gK_t, gK_f, aK_op, aK_call, oK_val, oK_skip, fK_go, rK_ret, cK_t, cK_f, dg_nil, dg_cons, dGK_t, dGK_f, dAK_op, dS_q, dS_l, dS_w, dAK_call, dLK_go, dLK2_fp, dLK2_op, dQK_val, dOK_val, dOK_skip, dFK_go, dRK_ret, then_n, then_e, then_r, then_p, guardOk, opEv, oev, oevs, ofV_int, ofV_bool, ofV_str, ofV_nilS, ofV_nilP, ofV_nilM, ofV_nilF, ofV_nilI, List.toList_toArray, eget, setE, dropE, edel, penv, AOp.quiet, AOp.isLoad, pendOk, pendKeep, Nat.reduceEqDiff, ↓reduceIte, reduceCtorEq, bt1, bt2, bt3, bt4, b_add, b_sub, b_mul, b_eql, b_neq, b_lss, b_leq, b_gtr, b_geq, addA, ptr_fp, rel_fp, take1, List.drop_zero, List.drop_succ_cons, List.cons_append, List.nil_append, List.append_nil, Bool.not_true, Bool.not_false, decide_true, decide_false, true_and, and_true, Fin_ret, Fin_normal, rvsEv, rvEv, ex_some, resV, post_fin, ptrCells, reload, hget, hset, hdel, storeH, splice, takeV, cellsOf, AV.plain, and_self, List.take_succ_cons, List.take_zero, List.length_cons, List.length_nil, Nat.reduceAdd, Nat.reduceLeDiff, Nat.zero_add, Nat.add_zero, Nat.le_refl, List.getElem?_cons_zero, List.getElem?_cons_succ, partsE, partsE3, fillE, fillA, List.replicate_succ, List.replicate_zero, List.set_cons_zero, List.set_cons_succ, Nat.reduceLT, Nat.zero_lt_one, eq_self, List.contains_cons, List.contains_nil, Nat.reduceBEq, Bool.or_false, Bool.or_self, Bool.false_or, Bool.true_or, Bool.or_true, A29, h1, this, R29]
  by_cases h2 : d ≤ 14
  case neg =>
    have : ¬ short d n := fun h => h2 h.2.1
    simp -implicitDefEqProofs only [go_skip, go_label, go_exit, go_ret, go_seq, go_block, go_cond, go_region, go_loop, go_dregion, fin_nil, fin_seq_n, fin_seq_e, fin_seq_r, fin_seq_p, fin_blk_n, fin_blk_e, fin_blk_r, fin_blk_p, rg_nil, rg_cons, gK_t, gK_f, aK_op, aK_call, oK_val, oK_skip, fK_go, rK_ret, cK_t, cK_f, dg_nil, dg_cons, dGK_t, dGK_f, dAK_op, dS_q, dS_l, dS_w, dAK_call, dLK_go, dLK2_fp, dLK2_op, dQK_val, dOK_val, dOK_skip, dFK_go, dRK_ret, then_n, then_e, then_r, then_p, guardOk, opEv, oev, oevs, ofV_int, ofV_bool, ofV_str, ofV_nilS, ofV_nilP, ofV_nilM, ofV_nilF, ofV_nilI, List.toList_toArray, eget, setE, dropE, edel, penv, AOp.quiet, AOp.isLoad, pendOk, pendKeep, Nat.reduceEqDiff, ↓reduceIte, reduceCtorEq, bt1, bt2, bt3, bt4, b_add, b_sub, b_mul, b_eql, b_neq, b_lss, b_leq, b_gtr, b_geq, addA, ptr_fp, rel_fp, take1, List.drop_zero, List.drop_succ_cons, List.cons_append, List.nil_append, List.append_nil, Bool.not_true, Bool.not_false, decide_true, decide_false, true_and, and_true, Fin_ret, Fin_normal, rvsEv, rvEv, ex_some, resV, post_fin, ptrCells, reload, hget, hset, hdel, storeH, splice, takeV, cellsOf, AV.plain, and_self, List.take_succ_cons, List.take_zero, List.length_cons, List.length_nil, Nat.reduceAdd, Nat.reduceLeDiff, Nat.zero_add, Nat.add_zero, Nat.le_refl, List.getElem?_cons_zero, List.getElem?_cons_succ, partsE, partsE3, fillE, fillA, List.replicate_succ, List.replicate_zero, List.set_cons_zero, List.set_cons_succ, Nat.reduceLT, Nat.zero_lt_one, eq_self, List.contains_cons, List.contains_nil, Nat.reduceBEq, Bool.or_false, Bool.or_self, Bool.false_or, Bool.true_or, Bool.or_true, A29, h1, h2, this, R29]
  by_cases h3 : (-8 : Int) ≤ n
  case neg =>
    have : ¬ short d n := fun h => h3 h.2.2.1
    simp -implicitDefEqProofs only [go_skip, go_label, go_exit, go_ret, go_seq, go_block, go_cond, go_region, go_loop, go_dregion, fin_nil, fin_seq_n, fin_seq_e, fin_seq_r, fin_seq_p, fin_blk_n, fin_blk_e, fin_blk_r, fin_blk_p, rg_nil, rg_cons, gK_t, gK_f, aK_op, aK_call, oK_val, oK_skip, fK_go, rK_ret, cK_t, cK_f, dg_nil, dg_cons, dGK_t, dGK_f, dAK_op, dS_q, dS_l, dS_w, dAK_call, dLK_go, dLK2_fp, dLK2_op, dQK_val, dOK_val, dOK_skip, dFK_go, dRK_ret, then_n, then_e, then_r, then_p, guardOk, opEv, oev, oevs, ofV_int, ofV_bool, ofV_str, ofV_nilS, ofV_nilP, ofV_nilM, ofV_nilF, ofV_nilI, List.toList_toArray, eget, setE, dropE, edel, penv, AOp.quiet, AOp.isLoad, pendOk, pendKeep, Nat.reduceEqDiff, ↓reduceIte, reduceCtorEq, bt1, bt2, bt3, bt4, b_add, b_sub, b_mul, b_eql, b_neq, b_lss, b_leq, b_gtr, b_geq, addA, ptr_fp, rel_fp, take1, List.drop_zero, List.drop_succ_cons, List.cons_append, List.nil_append, List.append_nil, Bool.not_true, Bool.not_false, decide_true, decide_false, true_and, and_true, Fin_ret, Fin_normal, rvsEv, rvEv, ex_some, resV, post_fin, ptrCells, reload, hget, hset, hdel, storeH, splice, takeV, cellsOf, AV.plain, and_self, List.take_succ_cons, List.take_zero, List.length_cons, List.length_nil, Nat.reduceAdd, Nat.reduceLeDiff, Nat.zero_add, Nat.add_zero, Nat.le_refl, List.getElem?_cons_zero, List.getElem?_cons_succ, partsE, partsE3, fillE, fillA, List.replicate_succ, List.replicate_zero, List.set_cons_zero, List.set_cons_succ, Nat.reduceLT, Nat.zero_lt_one, eq_self, List.contains_cons, List.contains_nil, Nat.reduceBEq, Bool.or_false, Bool.or_self, Bool.false_or, Bool.true_or, Bool.or_true, A29, h1, h2, h3, this, R29]
  by_cases h4 : n ≤ 7
  case neg =>
    have : ¬ short d n := fun h => h4 h.2.2.2
    simp -implicitDefEqProofs only [go_skip, go_label, go_exit, go_ret, go_seq, go_block, go_cond, go_region, go_loop, go_dregion, fin_nil, fin_seq_n, fin_seq_e, fin_seq_r, fin_seq_p, fin_blk_n, fin_blk_e, fin_blk_r, fin_blk_p, rg_nil, rg_cons, gK_t, gK_f, aK_op, aK_call, oK_val, oK_skip, fK_go, rK_ret, cK_t, cK_f, dg_nil, dg_cons, dGK_t, dGK_f, dAK_op, dS_q, dS_l, dS_w, dAK_call, dLK_go, dLK2_fp, dLK2_op, dQK_val, dOK_val, dOK_skip, dFK_go, dRK_ret, then_n, then_e, then_r, then_p, guardOk, opEv, oev, oevs, ofV_int, ofV_bool, ofV_str, ofV_nilS, ofV_nilP, ofV_nilM, ofV_nilF, ofV_nilI, List.toList_toArray, eget, setE, dropE, edel, penv, AOp.quiet, AOp.isLoad, pendOk, pendKeep, Nat.reduceEqDiff, ↓reduceIte, reduceCtorEq, bt1, bt2, bt3, bt4, b_add, b_sub, b_mul, b_eql, b_neq, b_lss, b_leq, b_gtr, b_geq, addA, ptr_fp, rel_fp, take1, List.drop_zero, List.drop_succ_cons, List.cons_append, List.nil_append, List.append_nil, Bool.not_true, Bool.not_false, decide_true, decide_false, true_and, and_true, Fin_ret, Fin_normal, rvsEv, rvEv, ex_some, resV, post_fin, ptrCells, reload, hget, hset, hdel, storeH, splice, takeV, cellsOf, AV.plain, and_self, List.take_succ_cons, List.take_zero, List.length_cons, List.length_nil, Nat.reduceAdd, Nat.reduceLeDiff, Nat.zero_add, Nat.add_zero, Nat.le_refl, List.getElem?_cons_zero, List.getElem?_cons_succ, partsE, partsE3, fillE, fillA, List.replicate_succ, List.replicate_zero, List.set_cons_zero, List.set_cons_succ, Nat.reduceLT, Nat.zero_lt_one, eq_self, List.contains_cons, List.contains_nil, Nat.reduceBEq, Bool.or_false, Bool.or_self, Bool.false_or, Bool.true_or, Bool.or_true, A29, h1, h2, h3, h4, this, R29]
  have : short d n := ⟨h1, h2, h3, h4⟩
  simp -implicitDefEqProofs only [go_skip, go_label, go_exit, go_ret, go_seq, go_block, go_cond, go_region, go_loop, go_dregion, fin_nil, fin_seq_n, fin_seq_e, fin_seq_r, fin_seq_p, fin_blk_n, fin_blk_e, fin_blk_r, fin_blk_p, rg_nil, rg_cons, gK_t, gK_f, aK_op, aK_call, oK_val, oK_skip, fK_go, rK_ret, cK_t, cK_f, dg_nil, dg_cons, dGK_t, dGK_f, dAK_op, dS_q, dS_l, dS_w, dAK_call, dLK_go, dLK2_fp, dLK2_op, dQK_val, dOK_val, dOK_skip, dFK_go, dRK_ret, then_n, then_e, then_r, then_p, guardOk, opEv, oev, oevs, ofV_int, ofV_bool, ofV_str, ofV_nilS, ofV_nilP, ofV_nilM, ofV_nilF, ofV_nilI, List.toList_toArray, eget, setE, dropE, edel, penv, AOp.quiet, AOp.isLoad, pendOk, pendKeep, Nat.reduceEqDiff, ↓reduceIte, reduceCtorEq, bt1, bt2, bt3, bt4, b_add, b_sub, b_mul, b_eql, b_neq, b_lss, b_leq, b_gtr, b_geq, addA, ptr_fp, rel_fp, take1, List.drop_zero, List.drop_succ_cons, List.cons_append, List.nil_append, List.append_nil, Bool.not_true, Bool.not_false, decide_true, decide_false, true_and, and_true, Fin_ret, Fin_normal, rvsEv, rvEv, ex_some, resV, post_fin, ptrCells, reload, hget, hset, hdel, storeH, splice, takeV, cellsOf, AV.plain, and_self, List.take_succ_cons, List.take_zero, List.length_cons, List.length_nil, Nat.reduceAdd, Nat.reduceLeDiff, Nat.zero_add, Nat.add_zero, Nat.le_refl, List.getElem?_cons_zero, List.getElem?_cons_succ, partsE, partsE3, fillE, fillA, List.replicate_succ, List.replicate_zero, List.set_cons_zero, List.set_cons_succ, Nat.reduceLT, Nat.zero_lt_one, eq_self, List.contains_cons, List.contains_nil, Nat.reduceBEq, Bool.or_false, Bool.or_self, Bool.false_or, Bool.true_or, Bool.or_true, A29, h1, h2, h3, h4, this, R29]
theorem w31 (n : Int) (h1 : -4611686018427387904 < n) (h2 : n < 4611686018427387904) : Pure Try.prog 31 [.int .i64 n] (.int .u64 (foldZ n)) := by
  refine Pure.of fun nx => AC.go mixed is31 (by simp) ?_
  by_cases h : n < 0
  · have f1 : IntKind.i64.wrap (-2 * n) = -2 * n := by rw [w64 (by omega) (by omega)]
    have f2 : IntKind.i64.wrap (-2 * n - 1) = -2 * n - 1 := by rw [w64 (by omega) (by omega)]
    have f3 : IntKind.u64.wrap (-2 * n - 1) = -2 * n - 1 := wu _ (by omega) (by omega)
    simp -implicitDefEqProofs only [go_skip, go_label, go_exit, go_ret, go_seq, go_block, go_cond, go_region, go_loop, go_dregion, fin_nil, fin_seq_n, fin_seq_e, fin_seq_r, fin_seq_p, fin_blk_n, fin_blk_e, fin_blk_r, fin_blk_p, rg_nil, rg_cons, gK_t, gK_f, aK_op, aK_call, oK_val, oK_skip, fK_go, rK_ret, cK_t, cK_f, dg_nil, dg_cons, dGK_t, dGK_f, dAK_op, dS_q, dS_l, dS_w, dAK_call, dLK_go, dLK2_fp, dLK2_op, dQK_val, dOK_val, dOK_skip, dFK_go, dRK_ret, then_n, then_e, then_r, then_p, guardOk, opEv, oev, oevs, ofV_int, ofV_bool, ofV_str, ofV_nilS, ofV_nilP, ofV_nilM, ofV_nilF, ofV_nilI, List.toList_toArray, eget, setE, dropE, edel, penv, AOp.quiet, AOp.isLoad, pendOk, pendKeep, Nat.reduceEqDiff, ↓reduceIte, reduceCtorEq, bt1, bt2, bt3, bt4, b_add, b_sub, b_mul, b_eql, b_neq, b_lss, b_leq, b_gtr, b_geq, addA, ptr_fp, rel_fp, take1, List.drop_zero, List.drop_succ_cons, List.cons_append, List.nil_append, List.append_nil, Bool.not_true, Bool.not_false, decide_true, decide_false, true_and, and_true, Fin_ret, Fin_normal, rvsEv, rvEv, ex_some, resV, post_fin, ptrCells, reload, hget, hset, hdel, storeH, splice, takeV, cellsOf, AV.plain, and_self, List.take_succ_cons, List.take_zero, List.length_cons, List.length_nil, Nat.reduceAdd, Nat.reduceLeDiff, Nat.zero_add, Nat.add_zero, Nat.le_refl, List.getElem?_cons_zero, List.getElem?_cons_succ, partsE, partsE3, fillE, fillA, List.replicate_succ, List.replicate_zero, List.set_cons_zero, List.set_cons_succ, Nat.reduceLT, Nat.zero_lt_one, eq_self, List.contains_cons, List.contains_nil, Nat.reduceBEq, Bool.or_false, Bool.or_self, Bool.false_or, Bool.true_or, Bool.or_true, A31, h, f1, f2, f3, foldZ, R31]
  · have f1 : IntKind.i64.wrap (2 * n) = 2 * n := by rw [w64 (by omega) (by omega)]
    have f3 : IntKind.u64.wrap (2 * n) = 2 * n := wu _ (by omega) (by omega)
    simp -implicitDefEqProofs only [go_skip, go_label, go_exit, go_ret, go_seq, go_block, go_cond, go_region, go_loop, go_dregion, fin_nil, fin_seq_n, fin_seq_e, fin_seq_r, fin_seq_p, fin_blk_n, fin_blk_e, fin_blk_r, fin_blk_p, rg_nil, rg_cons, gK_t, gK_f, aK_op, aK_call, oK_val, oK_skip, fK_go, rK_ret, cK_t, cK_f, dg_nil, dg_cons, dGK_t, dGK_f, dAK_op, dS_q, dS_l, dS_w, dAK_call, dLK_go, dLK2_fp, dLK2_op, dQK_val, dOK_val, dOK_skip, dFK_go, dRK_ret, then_n, then_e, then_r, then_p, guardOk, opEv, oev, oevs, ofV_int, ofV_bool, ofV_str, ofV_nilS, ofV_nilP, ofV_nilM, ofV_nilF, ofV_nilI, List.toList_toArray, eget, setE, dropE, edel, penv, AOp.quiet, AOp.isLoad, pendOk, pendKeep, Nat.reduceEqDiff, ↓reduceIte, reduceCtorEq, bt1, bt2, bt3, bt4, b_add, b_sub, b_mul, b_eql, b_neq, b_lss, b_leq, b_gtr, b_geq, addA, ptr_fp, rel_fp, take1, List.drop_zero, List.drop_succ_cons, List.cons_append, List.nil_append, List.append_nil, Bool.not_true, Bool.not_false, decide_true, decide_false, true_and, and_true, Fin_ret, Fin_normal, rvsEv, rvEv, ex_some, resV, post_fin, ptrCells, reload, hget, hset, hdel, storeH, splice, takeV, cellsOf, AV.plain, and_self, List.take_succ_cons, List.take_zero, List.length_cons, List.length_nil, Nat.reduceAdd, Nat.reduceLeDiff, Nat.zero_add, Nat.add_zero, Nat.le_refl, List.getElem?_cons_zero, List.getElem?_cons_succ, partsE, partsE3, fillE, fillA, List.replicate_succ, List.replicate_zero, List.set_cons_zero, List.set_cons_succ, Nat.reduceLT, Nat.zero_lt_one, eq_self, List.contains_cons, List.contains_nil, Nat.reduceBEq, Bool.or_false, Bool.or_self, Bool.false_or, Bool.true_or, Bool.or_true, A31, h, f1, f3, foldZ, R31]
def unfZ (z : Nat) : Int := if z % 2 = 1 then -((z / 2 : Nat) : Int) - 1 else ((z / 2 : Nat) : Int)
theorem w35 (z : Nat) (hz : z < 9223372036854775808) : Pure Try.prog 35 [.int .u64 z] (.int .i64 (unfZ z)) := by
  refine Pure.of fun nx => AC.go mixed is35 (by simp) ?_
  have hm : (z : Int).tmod 2 = ((z % 2 : Nat) : Int) := by rw [Int.tmod_eq_emod_of_nonneg (Int.natCast_nonneg _)]; omega
  have hq : IntKind.u64.wrap ((z : Int).tdiv 2) = ((z / 2 : Nat) : Int) := by
    rw [Int.tdiv_eq_ediv_of_nonneg (Int.natCast_nonneg _), wu _ (by omega) (by omega)]; omega
  have hc : IntKind.i64.wrap ((z / 2 : Nat) : Int) = ((z / 2 : Nat) : Int) := by rw [w64 (by omega) (by omega)]
  by_cases h : z % 2 = 1
  · have h' : ((z % 2 : Nat) : Int) = 1 := by omega
    have f1 : IntKind.i64.wrap (0 - ((z / 2 : Nat) : Int)) = -((z / 2 : Nat) : Int) := by rw [w64 (by omega) (by omega)]; omega
    have f2 : IntKind.i64.wrap (-((z / 2 : Nat) : Int) - 1) = -((z / 2 : Nat) : Int) - 1 := by rw [w64 (by omega) (by omega)]
    simp -implicitDefEqProofs only [go_skip, go_label, go_exit, go_ret, go_seq, go_block, go_cond, go_region, go_loop, go_dregion, fin_nil, fin_seq_n, fin_seq_e, fin_seq_r, fin_seq_p, fin_blk_n, fin_blk_e, fin_blk_r, fin_blk_p, rg_nil, rg_cons, gK_t, gK_f, aK_op, aK_call, oK_val, oK_skip, fK_go, rK_ret, cK_t, cK_f, dg_nil, dg_cons, dGK_t, dGK_f, dAK_op, dS_q, dS_l, dS_w, dAK_call, dLK_go, dLK2_fp, dLK2_op, dQK_val, dOK_val, dOK_skip, dFK_go, dRK_ret, then_n, then_e, then_r, then_p, guardOk, opEv, oev, oevs, ofV_int, ofV_bool, ofV_str, ofV_nilS, ofV_nilP, ofV_nilM, ofV_nilF, ofV_nilI, List.toList_toArray, eget, setE, dropE, edel, penv, AOp.quiet, AOp.isLoad, pendOk, pendKeep, Nat.reduceEqDiff, ↓reduceIte, reduceCtorEq, bt1, bt2, bt3, bt4, b_add, b_sub, b_mul, b_eql, b_neq, b_lss, b_leq, b_gtr, b_geq, addA, ptr_fp, rel_fp, take1, List.drop_zero, List.drop_succ_cons, List.cons_append, List.nil_append, List.append_nil, Bool.not_true, Bool.not_false, decide_true, decide_false, true_and, and_true, Fin_ret, Fin_normal, rvsEv, rvEv, ex_some, resV, post_fin, ptrCells, reload, hget, hset, hdel, storeH, splice, takeV, cellsOf, AV.plain, and_self, List.take_succ_cons, List.take_zero, List.length_cons, List.length_nil, Nat.reduceAdd, Nat.reduceLeDiff, Nat.zero_add, Nat.add_zero, Nat.le_refl, List.getElem?_cons_zero, List.getElem?_cons_succ, partsE, partsE3, fillE, fillA, List.replicate_succ, List.replicate_zero, List.set_cons_zero, List.set_cons_succ, Nat.reduceLT, Nat.zero_lt_one, eq_self, List.contains_cons, List.contains_nil, Nat.reduceBEq, Bool.or_false, Bool.or_self, Bool.false_or, Bool.true_or, Bool.or_true, A35, b_rem _ _ _ (show (2 : Int) ≠ 0 by decide), b_quo _ _ _ (show (2 : Int) ≠ 0 by decide), hm, h', hq, hc, unA, f1, f2, R35]
    rw [unfZ, if_pos h]
  · have h' : ¬ ((z % 2 : Nat) : Int) = 1 := by omega
    simp -implicitDefEqProofs only [go_skip, go_label, go_exit, go_ret, go_seq, go_block, go_cond, go_region, go_loop, go_dregion, fin_nil, fin_seq_n, fin_seq_e, fin_seq_r, fin_seq_p, fin_blk_n, fin_blk_e, fin_blk_r, fin_blk_p, rg_nil, rg_cons, gK_t, gK_f, aK_op, aK_call, oK_val, oK_skip, fK_go, rK_ret, cK_t, cK_f, dg_nil, dg_cons, dGK_t, dGK_f, dAK_op, dS_q, dS_l, dS_w, dAK_call, dLK_go, dLK2_fp, dLK2_op, dQK_val, dOK_val, dOK_skip, dFK_go, dRK_ret, then_n, then_e, then_r, then_p, guardOk, opEv, oev, oevs, ofV_int, ofV_bool, ofV_str, ofV_nilS, ofV_nilP, ofV_nilM, ofV_nilF, ofV_nilI, List.toList_toArray, eget, setE, dropE, edel, penv, AOp.quiet, AOp.isLoad, pendOk, pendKeep, Nat.reduceEqDiff, ↓reduceIte, reduceCtorEq, bt1, bt2, bt3, bt4, b_add, b_sub, b_mul, b_eql, b_neq, b_lss, b_leq, b_gtr, b_geq, addA, ptr_fp, rel_fp, take1, List.drop_zero, List.drop_succ_cons, List.cons_append, List.nil_append, List.append_nil, Bool.not_true, Bool.not_false, decide_true, decide_false, true_and, and_true, Fin_ret, Fin_normal, rvsEv, rvEv, ex_some, resV, post_fin, ptrCells, reload, hget, hset, hdel, storeH, splice, takeV, cellsOf, AV.plain, and_self, List.take_succ_cons, List.take_zero, List.length_cons, List.length_nil, Nat.reduceAdd, Nat.reduceLeDiff, Nat.zero_add, Nat.add_zero, Nat.le_refl, List.getElem?_cons_zero, List.getElem?_cons_succ, partsE, partsE3, fillE, fillA, List.replicate_succ, List.replicate_zero, List.set_cons_zero, List.set_cons_succ, Nat.reduceLT, Nat.zero_lt_one, eq_self, List.contains_cons, List.contains_nil, Nat.reduceBEq, Bool.or_false, Bool.or_self, Bool.false_or, Bool.true_or, Bool.or_true, A35, b_rem _ _ _ (show (2 : Int) ≠ 0 by decide), b_quo _ _ _ (show (2 : Int) ≠ 0 by decide), hm, h', hq, hc, R35]
    rw [unfZ, if_neg h]
theorem or128 : ∀ x : Nat, x < 256 → bitsA .or .u8 (x : Int) 128 = some ((x % 128 + 128 : Nat) : Int) := by decide +kernel
theorem wu8 (m : Nat) : IntKind.u8.wrap (m : Int) = ((m % 256 : Nat) : Int) := by rw [IntKind.wrap_u8]; omega

theorem w30 (v : AV) (es : List (List AV)) (m : Nat) (H : Heap) (nx : Nat) (hm : m < 18446744073709551616) (ho : OwnSl 5 1 H nx v es) (hes : ∀ z ∈ es, z.length = 1) (hl : es.length ≤ 100000) :
    AC Try.prog 30 [v, .int .u64 m] H nx fun y h' n' => ∃ v', y = .ret v' ∧ Grw 5 1 H nx v h' n' v' (es ++ (varL m).map byE) := by
  refine AC.go mixed is30 (by simp) ?_
  have hvl := varL_len10 hm
  have hb1 : ∀ z ∈ es ++ (varL m).map byE, z.length = 1 := fun z hz => (List.mem_append.1 hz).elim (hes z) (byE_len _ z)
  simp -implicitDefEqProofs only [go_skip, go_label, go_exit, go_ret, go_seq, go_block, go_cond, go_region, go_loop, go_dregion, fin_nil, fin_seq_n, fin_seq_e, fin_seq_r, fin_seq_p, fin_blk_n, fin_blk_e, fin_blk_r, fin_blk_p, rg_nil, rg_cons, gK_t, gK_f, aK_op, aK_call, oK_val, oK_skip, fK_go, rK_ret, cK_t, cK_f, dg_nil, dg_cons, dGK_t, dGK_f, dAK_op, dS_q, dS_l, dS_w, dAK_call, dLK_go, dLK2_fp, dLK2_op, dQK_val, dOK_val, dOK_skip, dFK_go, dRK_ret, then_n, then_e, then_r, then_p, guardOk, opEv, oev, oevs, ofV_int, ofV_bool, ofV_str, ofV_nilS, ofV_nilP, ofV_nilM, ofV_nilF, ofV_nilI, List.toList_toArray, eget, setE, dropE, edel, penv, AOp.quiet, AOp.isLoad, pendOk, pendKeep, Nat.reduceEqDiff, ↓reduceIte, reduceCtorEq, bt1, bt2, bt3, bt4, b_add, b_sub, b_mul, b_eql, b_neq, b_lss, b_leq, b_gtr, b_geq, addA, ptr_fp, rel_fp, take1, List.drop_zero, List.drop_succ_cons, List.cons_append, List.nil_append, List.append_nil, Bool.not_true, Bool.not_false, decide_true, decide_false, true_and, and_true, Fin_ret, Fin_normal, rvsEv, rvEv, ex_some, resV, post_fin, ptrCells, reload, hget, hset, hdel, storeH, splice, takeV, cellsOf, AV.plain, and_self, List.take_succ_cons, List.take_zero, List.length_cons, List.length_nil, Nat.reduceAdd, Nat.reduceLeDiff, Nat.zero_add, Nat.add_zero, Nat.le_refl, List.getElem?_cons_zero, List.getElem?_cons_succ, partsE, partsE3, fillE, fillA, List.replicate_succ, List.replicate_zero, List.set_cons_zero, List.set_cons_succ, Nat.reduceLT, Nat.zero_lt_one, eq_self, List.contains_cons, List.contains_nil, Nat.reduceBEq, Bool.or_false, Bool.or_self, Bool.false_or, Bool.true_or, Bool.or_true, A30]
  refine go_rounds (fun q st => ∃ (m' : Nat) (v' : AV) (es' : List (List AV)), q = m' ∧ m' < 18446744073709551616 ∧ es' ++ (varL m').map byE = es ++ (varL m).map byE ∧ eget st.env 0 = some v' ∧ eget st.env 1 = some (.int .u64 m') ∧ Grw 5 1 H nx v st.heap st.nx v' es' ∧ st.dm = []) (n := m) mixed
    ⟨m, v, es, rfl, hm, rfl, by simp [eget], by simp [eget], Grw.refl ho (Nat.le_refl _), rfl⟩ ?_
  rintro q ⟨env, heap, nx', dm⟩ ⟨m', v', es', rfl, hm', heq, h0, h1, hg, hdm⟩
  simp only at h0 h1 hg hdm
  subst hdm
  have hlen := congrArg List.length heq
  simp only [List.length_append, List.length_map] at hlen
  have hes' : ∀ z ∈ es', z.length = 1 := fun z hz => hb1 z (by rw [← heq]; exact List.mem_append_left _ hz)
  have ap : ∀ x : Nat, ∃ v2 h2 n2, appA 5 1 1 heap nx' v' (.lst 1 [[.int .u8 (x : Int)]]) = some (v2, h2, n2) ∧ Grw 5 1 H nx v h2 n2 v2 (es' ++ [byE x]) := by
    intro x
    obtain ⟨v2, h2, n2, ea, g2⟩ := hg.1.grw (bytes := 1) (ns := [byE x]) hes' (fun z hz => by simp at hz; subst hz; rfl) (by simp; omega) (by simp [maxLen]; omega)
    exact ⟨v2, h2, n2, ea, hg.trans g2⟩
  have hw8 := wu8 q
  by_cases hc : (128 : Int) ≤ (q : Int)
  · have hv := varL_ge (n := q) (by omega)
    have hor := or128 (q % 256) (by omega)
    have hmm : q % 256 % 128 + 128 = q % 128 + 128 := by omega
    rw [hmm] at hor
    obtain ⟨v2, h2, n2, ea, g2⟩ := ap (q % 128 + 128)
    have hsh : (q : Int).fdiv (2 ^ (min (7 : Int).toNat 64)) = ((q / 128 : Nat) : Int) := by
      have : (2 : Int) ^ (min (7 : Int).toNat 64) = 128 := rfl
      rw [this, Int.fdiv_eq_ediv_of_nonneg _ (by decide)]; omega
    simp -implicitDefEqProofs only [go_skip, go_label, go_exit, go_ret, go_seq, go_block, go_cond, go_region, go_loop, go_dregion, fin_nil, fin_seq_n, fin_seq_e, fin_seq_r, fin_seq_p, fin_blk_n, fin_blk_e, fin_blk_r, fin_blk_p, rg_nil, rg_cons, gK_t, gK_f, aK_op, aK_call, oK_val, oK_skip, fK_go, rK_ret, cK_t, cK_f, dg_nil, dg_cons, dGK_t, dGK_f, dAK_op, dS_q, dS_l, dS_w, dAK_call, dLK_go, dLK2_fp, dLK2_op, dQK_val, dOK_val, dOK_skip, dFK_go, dRK_ret, then_n, then_e, then_r, then_p, guardOk, opEv, oev, oevs, ofV_int, ofV_bool, ofV_str, ofV_nilS, ofV_nilP, ofV_nilM, ofV_nilF, ofV_nilI, List.toList_toArray, eget, setE, dropE, edel, penv, AOp.quiet, AOp.isLoad, pendOk, pendKeep, Nat.reduceEqDiff, ↓reduceIte, reduceCtorEq, bt1, bt2, bt3, bt4, b_add, b_sub, b_mul, b_eql, b_neq, b_lss, b_leq, b_gtr, b_geq, addA, ptr_fp, rel_fp, take1, List.drop_zero, List.drop_succ_cons, List.cons_append, List.nil_append, List.append_nil, Bool.not_true, Bool.not_false, decide_true, decide_false, true_and, and_true, Fin_ret, Fin_normal, rvsEv, rvEv, ex_some, resV, post_fin, ptrCells, reload, hget, hset, hdel, storeH, splice, takeV, cellsOf, AV.plain, and_self, List.take_succ_cons, List.take_zero, List.length_cons, List.length_nil, Nat.reduceAdd, Nat.reduceLeDiff, Nat.zero_add, Nat.add_zero, Nat.le_refl, List.getElem?_cons_zero, List.getElem?_cons_succ, partsE, partsE3, fillE, fillA, List.replicate_succ, List.replicate_zero, List.set_cons_zero, List.set_cons_succ, Nat.reduceLT, Nat.zero_lt_one, eq_self, List.contains_cons, List.contains_nil, Nat.reduceBEq, Bool.or_false, Bool.or_self, Bool.false_or, Bool.true_or, Bool.or_true, A30l0, h0, h1, hc, hw8, b_or, hor, Option.map_some, ea, b_shr _ _ _ _ (show (0 : Int) ≤ 7 by decide), IntKind.bits, hsh]
    refine ⟨q / 128, by omega, q / 128, v2, es' ++ [byE (q % 128 + 128)], ?_⟩
    refine ⟨rfl, by omega, by rw [← heq, hv]; simp, ?_⟩
    repeat' apply And.intro
    all_goals first | assumption | exact g2.1 | exact g2.2.1 | exact g2.2.2.1 | exact g2.2.2.2 | rfl | omega | (simp [eget, *]; done)
  · have hv := varL_lt (n := q) (by omega)
    obtain ⟨v2, h2, n2, ea, g2⟩ := ap q
    have hw9 : IntKind.u8.wrap (q : Int) = (q : Int) := by rw [IntKind.wrap_u8]; omega
    have he2 : es' ++ [byE q] = es ++ (varL m).map byE := by rw [← heq, hv]; rfl
    rw [he2] at g2
    simp -implicitDefEqProofs only [go_skip, go_label, go_exit, go_ret, go_seq, go_block, go_cond, go_region, go_loop, go_dregion, fin_nil, fin_seq_n, fin_seq_e, fin_seq_r, fin_seq_p, fin_blk_n, fin_blk_e, fin_blk_r, fin_blk_p, rg_nil, rg_cons, gK_t, gK_f, aK_op, aK_call, oK_val, oK_skip, fK_go, rK_ret, cK_t, cK_f, dg_nil, dg_cons, dGK_t, dGK_f, dAK_op, dS_q, dS_l, dS_w, dAK_call, dLK_go, dLK2_fp, dLK2_op, dQK_val, dOK_val, dOK_skip, dFK_go, dRK_ret, then_n, then_e, then_r, then_p, guardOk, opEv, oev, oevs, ofV_int, ofV_bool, ofV_str, ofV_nilS, ofV_nilP, ofV_nilM, ofV_nilF, ofV_nilI, List.toList_toArray, eget, setE, dropE, edel, penv, AOp.quiet, AOp.isLoad, pendOk, pendKeep, Nat.reduceEqDiff, ↓reduceIte, reduceCtorEq, bt1, bt2, bt3, bt4, b_add, b_sub, b_mul, b_eql, b_neq, b_lss, b_leq, b_gtr, b_geq, addA, ptr_fp, rel_fp, take1, List.drop_zero, List.drop_succ_cons, List.cons_append, List.nil_append, List.append_nil, Bool.not_true, Bool.not_false, decide_true, decide_false, true_and, and_true, Fin_ret, Fin_normal, rvsEv, rvEv, ex_some, resV, post_fin, ptrCells, reload, hget, hset, hdel, storeH, splice, takeV, cellsOf, AV.plain, and_self, List.take_succ_cons, List.take_zero, List.length_cons, List.length_nil, Nat.reduceAdd, Nat.reduceLeDiff, Nat.zero_add, Nat.add_zero, Nat.le_refl, List.getElem?_cons_zero, List.getElem?_cons_succ, partsE, partsE3, fillE, fillA, List.replicate_succ, List.replicate_zero, List.set_cons_zero, List.set_cons_succ, Nat.reduceLT, Nat.zero_lt_one, eq_self, List.contains_cons, List.contains_nil, Nat.reduceBEq, Bool.or_false, Bool.or_self, Bool.false_or, Bool.true_or, Bool.or_true, A30l0, h0, h1, hc, hw9, ea, R30]
    exact ⟨_, rfl, g2⟩
end Go.Proofs.Ytmnlfgnpmpebmaa
