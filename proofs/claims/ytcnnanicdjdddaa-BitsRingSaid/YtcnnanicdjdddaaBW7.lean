/- Binary, the statements' helpers, and texts. -/
import Derived.Test.YtcnnanicdjdddaaBW6
namespace Go.Proofs.Ytcnnanicdjdddaa
open Go Go.Ab Go.Proofs
set_option linter.unusedVariables false
set_option linter.unusedSimpArgs false
set_option maxRecDepth 20000

/-- An operation's value, before it is cut to the width. -/
def rawV (k n x y : Nat) : Nat :=
  match k with
  | 5 => (x + y) % 18446744073709551616
  | 6 => (x + (18446744073709551616 - y)) % 18446744073709551616
  | 7 => x * y % 18446744073709551616
  | 8 => x &&& y
  | 9 => x ||| y
  | 10 => x ^^^ y
  | 11 => x * 2 ^ (min y 64) % 18446744073709551616
  | 12 => x / 2 ^ (min y 64)
  | 13 => (IntKind.u64.wrap ((sgn n x).fdiv (2 ^ (min y 64)))).toNat
  | 14 => if y = 0 then 18446744073709551615 else x / y
  | 15 => if y = 0 then x else x % y
  | 16 => if x = y then 1 else 0
  | 17 => if x < y then 1 else 0
  | _ => if sgn n x < sgn n y then 1 else 0
theorem wOp (k n x y : Nat) (h1 : 5 ≤ k) (h2 : k ≤ 18) (n1 : 1 ≤ n) (n2 : n ≤ 64) (hx : x < 2 ^ n) (hy : y < 2 ^ n) : Pure Try.prog (fnOf k) [.int .i64 n, .int .u64 x, .int .u64 y] (.int .u64 (rawV k n x y)) := by
  have hp := pow_le64 n2
  have : k = 5 ∨ k = 6 ∨ k = 7 ∨ k = 8 ∨ k = 9 ∨ k = 10 ∨ k = 11 ∨ k = 12 ∨ k = 13 ∨ k = 14 ∨ k = 15 ∨ k = 16 ∨ k = 17 ∨ k = 18 := by omega
  rcases this with rfl | rfl | rfl | rfl | rfl | rfl | rfl | rfl | rfl | rfl | rfl | rfl | rfl | rfl
  · exact w62 _ _ _
  · exact w63 _ _ _ (by omega)
  · exact w64m _ _ _
  · exact w65 _ _ _ (by omega) (by omega)
  · exact w66 _ _ _ (by omega) (by omega)
  · exact w67 _ _ _ (by omega) (by omega)
  · exact w68 _ _ _
  · exact w70 _ _ _
  · have := w71 n x y n1 n2 hx
    have h0 : 0 ≤ IntKind.u64.wrap ((sgn n x).fdiv (2 ^ (min y 64))) := by rw [IntKind.wrap_u64]; omega
    simp only [rawV, fnOf, Int.toNat_of_nonneg h0]
    exact this
  · exact w72 _ _ _ (by omega)
  · exact w73 _ _ _
  · exact w74 _ _ _
  · exact w76 _ _ _
  · exact w77 _ _ _ n1 n2 hx hy
theorem rawV_lt (k n x y : Nat) (n2 : n ≤ 64) (hx : x < 2 ^ n) (hy : y < 2 ^ n) : rawV k n x y < 18446744073709551616 := by
  have hp := pow_le64 n2
  unfold rawV
  split
  · omega
  · omega
  · exact Nat.mod_lt _ (by omega)
  · have : x &&& y ≤ x := Nat.and_le_left
    omega
  · exact Nat.or_lt_two_pow (n := 64) (by omega) (by omega)
  · exact Nat.xor_lt_two_pow (n := 64) (by omega) (by omega)
  · exact Nat.mod_lt _ (by omega)
  · have := Nat.div_le_self x (2 ^ (min y 64)); generalize x / 2 ^ (min y 64) = q at this ⊢; omega
  · rw [IntKind.wrap_u64]; omega
  · split
    · omega
    · have := Nat.div_le_self x y; generalize x / y = q at this ⊢; omega
  · split
    · omega
    · have := Nat.mod_le x y; generalize x % y = q at this ⊢; omega
  · split <;> omega
  · split <;> omega
  · split <;> omega
/-- An operation's value. -/
def opV (k n x y : Nat) : Nat := rawV k n x y % 2 ^ n
def kindBad (k : Nat) : Prop := k < 5 ∨ 18 < k
instance (k : Nat) : Decidable (kindBad k) := by unfold kindBad; infer_instance
def bothOk (w : Int) (x y : Nat) : Prop := (x : Int) ≤ mk w ∧ (y : Int) ≤ mk w
instance (w : Int) (x y : Nat) : Decidable (bothOk w x y) := by unfold bothOk; infer_instance
def binR (k : Nat) (w : Int) (x y : Nat) : Int × Int :=
  if wide w then (if kindBad k then (0, 2) else if bothOk w x y then ((opV k w.toNat x y : Nat), 0) else (0, 8)) else (0, 14)
theorem w44b (w : Int) (x y : Nat) : Pure Try.prog 44 [.int .i64 w, .lst 1 [[.int .u64 x], [.int .u64 y]]] (.int .i64 (if wide w then (if bothOk w x y then 0 else 8) else 14)) := by
  have : checkI w [(x : Int), y] = if wide w then (if bothOk w x y then 0 else 8) else 14 := by simp [checkI, bothOk]
  rw [← this]; exact w44 w [(x : Int), y] (by simp)
theorem w34 (k : Nat) (w : Int) (x y : Nat) : Pure Try.prog 34 [.int .u8 k, .int .i64 w, .int .u64 x, .int .u64 y] (.tup [.int .u64 (binR k w x y).1, .int .i64 (binR k w x y).2]) := by
  refine Pure.of fun nx => AC.go mixed is34 (by simp) ?_
  simp -implicitDefEqProofs only [go_skip, go_label, go_exit, go_ret, go_seq, go_block, go_cond, go_region, go_loop, go_dregion, fin_nil, fin_seq_n, fin_seq_e, fin_seq_r, fin_seq_p, fin_blk_n, fin_blk_e, fin_blk_r, fin_blk_p, rg_nil, rg_cons, gK_t, gK_f, aK_op, aK_call, oK_val, oK_skip, fK_go, rK_ret, cK_t, cK_f, dg_nil, dg_cons, dGK_t, dGK_f, dAK_op, dS_q, dS_l, dS_w, dAK_call, dLK_go, dLK2_fp, dLK2_op, dQK_val, dOK_val, dOK_skip, dFK_go, dRK_ret, then_n, then_e, then_r, then_p, guardOk, opEv, oev, oevs, ofV_int, ofV_bool, ofV_str, ofV_nilS, ofV_nilP, ofV_nilM, ofV_nilF, ofV_nilI, List.toList_toArray, eget, setE, dropE, edel, penv, AOp.quiet, AOp.isLoad, pendOk, pendKeep, Nat.reduceEqDiff, ↓reduceIte, reduceCtorEq, bt1, bt2, bt3, bt4, b_add, b_sub, b_mul, b_eql, b_neq, b_lss, b_leq, b_gtr, b_geq, addA, ptr_fp, rel_fp, take1, List.drop_zero, List.drop_succ_cons, List.cons_append, List.nil_append, List.append_nil, Bool.not_true, Bool.not_false, decide_true, decide_false, true_and, and_true, Fin_ret, Fin_normal, rvsEv, rvEv, ex_some, resV, post_fin, ptrCells, reload, hget, hset, hdel, storeH, splice, takeV, cellsOf, AV.plain, and_self, List.take_succ_cons, List.take_zero, List.length_cons, List.length_nil, Nat.reduceAdd, Nat.reduceLeDiff, Nat.zero_add, Nat.add_zero, Nat.le_refl, List.getElem?_cons_zero, List.getElem?_cons_succ, partsE, partsE3, fillE, fillA, List.replicate_succ, List.replicate_zero, List.set_cons_zero, List.set_cons_succ, Nat.reduceLT, Nat.zero_lt_one, eq_self, A34]
  refine (w48 w).use fun n' hle => ?_
  by_cases h : wide w
  case neg => simp -implicitDefEqProofs only [go_skip, go_label, go_exit, go_ret, go_seq, go_block, go_cond, go_region, go_loop, go_dregion, fin_nil, fin_seq_n, fin_seq_e, fin_seq_r, fin_seq_p, fin_blk_n, fin_blk_e, fin_blk_r, fin_blk_p, rg_nil, rg_cons, gK_t, gK_f, aK_op, aK_call, oK_val, oK_skip, fK_go, rK_ret, cK_t, cK_f, dg_nil, dg_cons, dGK_t, dGK_f, dAK_op, dS_q, dS_l, dS_w, dAK_call, dLK_go, dLK2_fp, dLK2_op, dQK_val, dOK_val, dOK_skip, dFK_go, dRK_ret, then_n, then_e, then_r, then_p, guardOk, opEv, oev, oevs, ofV_int, ofV_bool, ofV_str, ofV_nilS, ofV_nilP, ofV_nilM, ofV_nilF, ofV_nilI, List.toList_toArray, eget, setE, dropE, edel, penv, AOp.quiet, AOp.isLoad, pendOk, pendKeep, Nat.reduceEqDiff, ↓reduceIte, reduceCtorEq, bt1, bt2, bt3, bt4, b_add, b_sub, b_mul, b_eql, b_neq, b_lss, b_leq, b_gtr, b_geq, addA, ptr_fp, rel_fp, take1, List.drop_zero, List.drop_succ_cons, List.cons_append, List.nil_append, List.append_nil, Bool.not_true, Bool.not_false, decide_true, decide_false, true_and, and_true, Fin_ret, Fin_normal, rvsEv, rvEv, ex_some, resV, post_fin, ptrCells, reload, hget, hset, hdel, storeH, splice, takeV, cellsOf, AV.plain, and_self, List.take_succ_cons, List.take_zero, List.length_cons, List.length_nil, Nat.reduceAdd, Nat.reduceLeDiff, Nat.zero_add, Nat.add_zero, Nat.le_refl, List.getElem?_cons_zero, List.getElem?_cons_succ, partsE, partsE3, fillE, fillA, List.replicate_succ, List.replicate_zero, List.set_cons_zero, List.set_cons_succ, Nat.reduceLT, Nat.zero_lt_one, eq_self, h, unA, R34, binR]
  by_cases h1 : (k : Int) < 5
  · have hq : kindBad k := .inl (by omega)
    simp -implicitDefEqProofs only [go_skip, go_label, go_exit, go_ret, go_seq, go_block, go_cond, go_region, go_loop, go_dregion, fin_nil, fin_seq_n, fin_seq_e, fin_seq_r, fin_seq_p, fin_blk_n, fin_blk_e, fin_blk_r, fin_blk_p, rg_nil, rg_cons, gK_t, gK_f, aK_op, aK_call, oK_val, oK_skip, fK_go, rK_ret, cK_t, cK_f, dg_nil, dg_cons, dGK_t, dGK_f, dAK_op, dS_q, dS_l, dS_w, dAK_call, dLK_go, dLK2_fp, dLK2_op, dQK_val, dOK_val, dOK_skip, dFK_go, dRK_ret, then_n, then_e, then_r, then_p, guardOk, opEv, oev, oevs, ofV_int, ofV_bool, ofV_str, ofV_nilS, ofV_nilP, ofV_nilM, ofV_nilF, ofV_nilI, List.toList_toArray, eget, setE, dropE, edel, penv, AOp.quiet, AOp.isLoad, pendOk, pendKeep, Nat.reduceEqDiff, ↓reduceIte, reduceCtorEq, bt1, bt2, bt3, bt4, b_add, b_sub, b_mul, b_eql, b_neq, b_lss, b_leq, b_gtr, b_geq, addA, ptr_fp, rel_fp, take1, List.drop_zero, List.drop_succ_cons, List.cons_append, List.nil_append, List.append_nil, Bool.not_true, Bool.not_false, decide_true, decide_false, true_and, and_true, Fin_ret, Fin_normal, rvsEv, rvEv, ex_some, resV, post_fin, ptrCells, reload, hget, hset, hdel, storeH, splice, takeV, cellsOf, AV.plain, and_self, List.take_succ_cons, List.take_zero, List.length_cons, List.length_nil, Nat.reduceAdd, Nat.reduceLeDiff, Nat.zero_add, Nat.add_zero, Nat.le_refl, List.getElem?_cons_zero, List.getElem?_cons_succ, partsE, partsE3, fillE, fillA, List.replicate_succ, List.replicate_zero, List.set_cons_zero, List.set_cons_succ, Nat.reduceLT, Nat.zero_lt_one, eq_self, h, unA, h1, R34, binR, hq]
  by_cases h2 : (18 : Int) < k
  · have hq : kindBad k := .inr (by omega)
    simp -implicitDefEqProofs only [go_skip, go_label, go_exit, go_ret, go_seq, go_block, go_cond, go_region, go_loop, go_dregion, fin_nil, fin_seq_n, fin_seq_e, fin_seq_r, fin_seq_p, fin_blk_n, fin_blk_e, fin_blk_r, fin_blk_p, rg_nil, rg_cons, gK_t, gK_f, aK_op, aK_call, oK_val, oK_skip, fK_go, rK_ret, cK_t, cK_f, dg_nil, dg_cons, dGK_t, dGK_f, dAK_op, dS_q, dS_l, dS_w, dAK_call, dLK_go, dLK2_fp, dLK2_op, dQK_val, dOK_val, dOK_skip, dFK_go, dRK_ret, then_n, then_e, then_r, then_p, guardOk, opEv, oev, oevs, ofV_int, ofV_bool, ofV_str, ofV_nilS, ofV_nilP, ofV_nilM, ofV_nilF, ofV_nilI, List.toList_toArray, eget, setE, dropE, edel, penv, AOp.quiet, AOp.isLoad, pendOk, pendKeep, Nat.reduceEqDiff, ↓reduceIte, reduceCtorEq, bt1, bt2, bt3, bt4, b_add, b_sub, b_mul, b_eql, b_neq, b_lss, b_leq, b_gtr, b_geq, addA, ptr_fp, rel_fp, take1, List.drop_zero, List.drop_succ_cons, List.cons_append, List.nil_append, List.append_nil, Bool.not_true, Bool.not_false, decide_true, decide_false, true_and, and_true, Fin_ret, Fin_normal, rvsEv, rvEv, ex_some, resV, post_fin, ptrCells, reload, hget, hset, hdel, storeH, splice, takeV, cellsOf, AV.plain, and_self, List.take_succ_cons, List.take_zero, List.length_cons, List.length_nil, Nat.reduceAdd, Nat.reduceLeDiff, Nat.zero_add, Nat.add_zero, Nat.le_refl, List.getElem?_cons_zero, List.getElem?_cons_succ, partsE, partsE3, fillE, fillA, List.replicate_succ, List.replicate_zero, List.set_cons_zero, List.set_cons_succ, Nat.reduceLT, Nat.zero_lt_one, eq_self, h, unA, h1, h2, R34, binR, hq]
  have hq : ¬ kindBad k := by unfold kindBad; omega
  simp -implicitDefEqProofs only [go_skip, go_label, go_exit, go_ret, go_seq, go_block, go_cond, go_region, go_loop, go_dregion, fin_nil, fin_seq_n, fin_seq_e, fin_seq_r, fin_seq_p, fin_blk_n, fin_blk_e, fin_blk_r, fin_blk_p, rg_nil, rg_cons, gK_t, gK_f, aK_op, aK_call, oK_val, oK_skip, fK_go, rK_ret, cK_t, cK_f, dg_nil, dg_cons, dGK_t, dGK_f, dAK_op, dS_q, dS_l, dS_w, dAK_call, dLK_go, dLK2_fp, dLK2_op, dQK_val, dOK_val, dOK_skip, dFK_go, dRK_ret, then_n, then_e, then_r, then_p, guardOk, opEv, oev, oevs, ofV_int, ofV_bool, ofV_str, ofV_nilS, ofV_nilP, ofV_nilM, ofV_nilF, ofV_nilI, List.toList_toArray, eget, setE, dropE, edel, penv, AOp.quiet, AOp.isLoad, pendOk, pendKeep, Nat.reduceEqDiff, ↓reduceIte, reduceCtorEq, bt1, bt2, bt3, bt4, b_add, b_sub, b_mul, b_eql, b_neq, b_lss, b_leq, b_gtr, b_geq, addA, ptr_fp, rel_fp, take1, List.drop_zero, List.drop_succ_cons, List.cons_append, List.nil_append, List.append_nil, Bool.not_true, Bool.not_false, decide_true, decide_false, true_and, and_true, Fin_ret, Fin_normal, rvsEv, rvEv, ex_some, resV, post_fin, ptrCells, reload, hget, hset, hdel, storeH, splice, takeV, cellsOf, AV.plain, and_self, List.take_succ_cons, List.take_zero, List.length_cons, List.length_nil, Nat.reduceAdd, Nat.reduceLeDiff, Nat.zero_add, Nat.add_zero, Nat.le_refl, List.getElem?_cons_zero, List.getElem?_cons_succ, partsE, partsE3, fillE, fillA, List.replicate_succ, List.replicate_zero, List.set_cons_zero, List.set_cons_succ, Nat.reduceLT, Nat.zero_lt_one, eq_self, h, unA, h1, h2]
  refine (w44b w x y).use fun n' hle => ?_
  by_cases hb : bothOk w x y
  case neg => simp -implicitDefEqProofs only [go_skip, go_label, go_exit, go_ret, go_seq, go_block, go_cond, go_region, go_loop, go_dregion, fin_nil, fin_seq_n, fin_seq_e, fin_seq_r, fin_seq_p, fin_blk_n, fin_blk_e, fin_blk_r, fin_blk_p, rg_nil, rg_cons, gK_t, gK_f, aK_op, aK_call, oK_val, oK_skip, fK_go, rK_ret, cK_t, cK_f, dg_nil, dg_cons, dGK_t, dGK_f, dAK_op, dS_q, dS_l, dS_w, dAK_call, dLK_go, dLK2_fp, dLK2_op, dQK_val, dOK_val, dOK_skip, dFK_go, dRK_ret, then_n, then_e, then_r, then_p, guardOk, opEv, oev, oevs, ofV_int, ofV_bool, ofV_str, ofV_nilS, ofV_nilP, ofV_nilM, ofV_nilF, ofV_nilI, List.toList_toArray, eget, setE, dropE, edel, penv, AOp.quiet, AOp.isLoad, pendOk, pendKeep, Nat.reduceEqDiff, ↓reduceIte, reduceCtorEq, bt1, bt2, bt3, bt4, b_add, b_sub, b_mul, b_eql, b_neq, b_lss, b_leq, b_gtr, b_geq, addA, ptr_fp, rel_fp, take1, List.drop_zero, List.drop_succ_cons, List.cons_append, List.nil_append, List.append_nil, Bool.not_true, Bool.not_false, decide_true, decide_false, true_and, and_true, Fin_ret, Fin_normal, rvsEv, rvEv, ex_some, resV, post_fin, ptrCells, reload, hget, hset, hdel, storeH, splice, takeV, cellsOf, AV.plain, and_self, List.take_succ_cons, List.take_zero, List.length_cons, List.length_nil, Nat.reduceAdd, Nat.reduceLeDiff, Nat.zero_add, Nat.add_zero, Nat.le_refl, List.getElem?_cons_zero, List.getElem?_cons_succ, partsE, partsE3, fillE, fillA, List.replicate_succ, List.replicate_zero, List.set_cons_zero, List.set_cons_succ, Nat.reduceLT, Nat.zero_lt_one, eq_self, h, hb, Int.reduceEq, R34, binR, hq]
  simp -implicitDefEqProofs only [go_skip, go_label, go_exit, go_ret, go_seq, go_block, go_cond, go_region, go_loop, go_dregion, fin_nil, fin_seq_n, fin_seq_e, fin_seq_r, fin_seq_p, fin_blk_n, fin_blk_e, fin_blk_r, fin_blk_p, rg_nil, rg_cons, gK_t, gK_f, aK_op, aK_call, oK_val, oK_skip, fK_go, rK_ret, cK_t, cK_f, dg_nil, dg_cons, dGK_t, dGK_f, dAK_op, dS_q, dS_l, dS_w, dAK_call, dLK_go, dLK2_fp, dLK2_op, dQK_val, dOK_val, dOK_skip, dFK_go, dRK_ret, then_n, then_e, then_r, then_p, guardOk, opEv, oev, oevs, ofV_int, ofV_bool, ofV_str, ofV_nilS, ofV_nilP, ofV_nilM, ofV_nilF, ofV_nilI, List.toList_toArray, eget, setE, dropE, edel, penv, AOp.quiet, AOp.isLoad, pendOk, pendKeep, Nat.reduceEqDiff, ↓reduceIte, reduceCtorEq, bt1, bt2, bt3, bt4, b_add, b_sub, b_mul, b_eql, b_neq, b_lss, b_leq, b_gtr, b_geq, addA, ptr_fp, rel_fp, take1, List.drop_zero, List.drop_succ_cons, List.cons_append, List.nil_append, List.append_nil, Bool.not_true, Bool.not_false, decide_true, decide_false, true_and, and_true, Fin_ret, Fin_normal, rvsEv, rvEv, ex_some, resV, post_fin, ptrCells, reload, hget, hset, hdel, storeH, splice, takeV, cellsOf, AV.plain, and_self, List.take_succ_cons, List.take_zero, List.length_cons, List.length_nil, Nat.reduceAdd, Nat.reduceLeDiff, Nat.zero_add, Nat.add_zero, Nat.le_refl, List.getElem?_cons_zero, List.getElem?_cons_succ, partsE, partsE3, fillE, fillA, List.replicate_succ, List.replicate_zero, List.set_cons_zero, List.set_cons_succ, Nat.reduceLT, Nat.zero_lt_one, eq_self, h, hb]
  refine (w55 k (by omega) (by omega)).use fun n' hle => ?_
  obtain ⟨n, rfl, n1, n2⟩ := wide_nat h
  have hx := (le_mk n1 n2).1 hb.1
  have hy := (le_mk n1 n2).1 hb.2
  simp -implicitDefEqProofs only [go_skip, go_label, go_exit, go_ret, go_seq, go_block, go_cond, go_region, go_loop, go_dregion, fin_nil, fin_seq_n, fin_seq_e, fin_seq_r, fin_seq_p, fin_blk_n, fin_blk_e, fin_blk_r, fin_blk_p, rg_nil, rg_cons, gK_t, gK_f, aK_op, aK_call, oK_val, oK_skip, fK_go, rK_ret, cK_t, cK_f, dg_nil, dg_cons, dGK_t, dGK_f, dAK_op, dS_q, dS_l, dS_w, dAK_call, dLK_go, dLK2_fp, dLK2_op, dQK_val, dOK_val, dOK_skip, dFK_go, dRK_ret, then_n, then_e, then_r, then_p, guardOk, opEv, oev, oevs, ofV_int, ofV_bool, ofV_str, ofV_nilS, ofV_nilP, ofV_nilM, ofV_nilF, ofV_nilI, List.toList_toArray, eget, setE, dropE, edel, penv, AOp.quiet, AOp.isLoad, pendOk, pendKeep, Nat.reduceEqDiff, ↓reduceIte, reduceCtorEq, bt1, bt2, bt3, bt4, b_add, b_sub, b_mul, b_eql, b_neq, b_lss, b_leq, b_gtr, b_geq, addA, ptr_fp, rel_fp, take1, List.drop_zero, List.drop_succ_cons, List.cons_append, List.nil_append, List.append_nil, Bool.not_true, Bool.not_false, decide_true, decide_false, true_and, and_true, Fin_ret, Fin_normal, rvsEv, rvEv, ex_some, resV, post_fin, ptrCells, reload, hget, hset, hdel, storeH, splice, takeV, cellsOf, AV.plain, and_self, List.take_succ_cons, List.take_zero, List.length_cons, List.length_nil, Nat.reduceAdd, Nat.reduceLeDiff, Nat.zero_add, Nat.add_zero, Nat.le_refl, List.getElem?_cons_zero, List.getElem?_cons_succ, partsE, partsE3, fillE, fillA, List.replicate_succ, List.replicate_zero, List.set_cons_zero, List.set_cons_succ, Nat.reduceLT, Nat.zero_lt_one, eq_self]
  refine (wOp k n x y (by omega) (by omega) n1 n2 hx hy).use fun n' hle => ?_
  simp -implicitDefEqProofs only [go_skip, go_label, go_exit, go_ret, go_seq, go_block, go_cond, go_region, go_loop, go_dregion, fin_nil, fin_seq_n, fin_seq_e, fin_seq_r, fin_seq_p, fin_blk_n, fin_blk_e, fin_blk_r, fin_blk_p, rg_nil, rg_cons, gK_t, gK_f, aK_op, aK_call, oK_val, oK_skip, fK_go, rK_ret, cK_t, cK_f, dg_nil, dg_cons, dGK_t, dGK_f, dAK_op, dS_q, dS_l, dS_w, dAK_call, dLK_go, dLK2_fp, dLK2_op, dQK_val, dOK_val, dOK_skip, dFK_go, dRK_ret, then_n, then_e, then_r, then_p, guardOk, opEv, oev, oevs, ofV_int, ofV_bool, ofV_str, ofV_nilS, ofV_nilP, ofV_nilM, ofV_nilF, ofV_nilI, List.toList_toArray, eget, setE, dropE, edel, penv, AOp.quiet, AOp.isLoad, pendOk, pendKeep, Nat.reduceEqDiff, ↓reduceIte, reduceCtorEq, bt1, bt2, bt3, bt4, b_add, b_sub, b_mul, b_eql, b_neq, b_lss, b_leq, b_gtr, b_geq, addA, ptr_fp, rel_fp, take1, List.drop_zero, List.drop_succ_cons, List.cons_append, List.nil_append, List.append_nil, Bool.not_true, Bool.not_false, decide_true, decide_false, true_and, and_true, Fin_ret, Fin_normal, rvsEv, rvEv, ex_some, resV, post_fin, ptrCells, reload, hget, hset, hdel, storeH, splice, takeV, cellsOf, AV.plain, and_self, List.take_succ_cons, List.take_zero, List.length_cons, List.length_nil, Nat.reduceAdd, Nat.reduceLeDiff, Nat.zero_add, Nat.add_zero, Nat.le_refl, List.getElem?_cons_zero, List.getElem?_cons_succ, partsE, partsE3, fillE, fillA, List.replicate_succ, List.replicate_zero, List.set_cons_zero, List.set_cons_succ, Nat.reduceLT, Nat.zero_lt_one, eq_self]
  refine (w24 n).use fun n' hle => ?_
  simp -implicitDefEqProofs only [go_skip, go_label, go_exit, go_ret, go_seq, go_block, go_cond, go_region, go_loop, go_dregion, fin_nil, fin_seq_n, fin_seq_e, fin_seq_r, fin_seq_p, fin_blk_n, fin_blk_e, fin_blk_r, fin_blk_p, rg_nil, rg_cons, gK_t, gK_f, aK_op, aK_call, oK_val, oK_skip, fK_go, rK_ret, cK_t, cK_f, dg_nil, dg_cons, dGK_t, dGK_f, dAK_op, dS_q, dS_l, dS_w, dAK_call, dLK_go, dLK2_fp, dLK2_op, dQK_val, dOK_val, dOK_skip, dFK_go, dRK_ret, then_n, then_e, then_r, then_p, guardOk, opEv, oev, oevs, ofV_int, ofV_bool, ofV_str, ofV_nilS, ofV_nilP, ofV_nilM, ofV_nilF, ofV_nilI, List.toList_toArray, eget, setE, dropE, edel, penv, AOp.quiet, AOp.isLoad, pendOk, pendKeep, Nat.reduceEqDiff, ↓reduceIte, reduceCtorEq, bt1, bt2, bt3, bt4, b_add, b_sub, b_mul, b_eql, b_neq, b_lss, b_leq, b_gtr, b_geq, addA, ptr_fp, rel_fp, take1, List.drop_zero, List.drop_succ_cons, List.cons_append, List.nil_append, List.append_nil, Bool.not_true, Bool.not_false, decide_true, decide_false, true_and, and_true, Fin_ret, Fin_normal, rvsEv, rvEv, ex_some, resV, post_fin, ptrCells, reload, hget, hset, hdel, storeH, splice, takeV, cellsOf, AV.plain, and_self, List.take_succ_cons, List.take_zero, List.length_cons, List.length_nil, Nat.reduceAdd, Nat.reduceLeDiff, Nat.zero_add, Nat.add_zero, Nat.le_refl, List.getElem?_cons_zero, List.getElem?_cons_succ, partsE, partsE3, fillE, fillA, List.replicate_succ, List.replicate_zero, List.set_cons_zero, List.set_cons_succ, Nat.reduceLT, Nat.zero_lt_one, eq_self, b_and, band_mask (rawV_lt k n x y n2 hx hy) n1 n2, Option.map_some, R34, binR, h, hq, hb, Int.toNat_natCast, opV]
theorem binR_ok {k n x y : Nat} (h1 : 5 ≤ k) (h2 : k ≤ 18) (n1 : 1 ≤ n) (n2 : n ≤ 64) (hx : x < 2 ^ n) (hy : y < 2 ^ n) : binR k n x y = (((opV k n x y : Nat) : Int), 0) := by
  have hw : wide (n : Int) := by unfold wide; omega
  have hq : ¬ kindBad k := by unfold kindBad; omega
  have hb : bothOk (n : Int) x y := ⟨(le_mk n1 n2).2 hx, (le_mk n1 n2).2 hy⟩
  rw [binR, if_pos hw, if_neg hq, if_pos hb, Int.toNat_natCast]
theorem w37 (k n x y : Nat) (h1 : 5 ≤ k) (h2 : k ≤ 18) (n1 : 1 ≤ n) (n2 : n ≤ 64) (hx : x < 2 ^ n) (hy : y < 2 ^ n) : Pure Try.prog 37 [.int .u8 k, .int .i64 n, .int .u64 x, .int .u64 y] (.int .u64 (opV k n x y : Nat)) := by
  refine Pure.of fun nx => AC.go mixed is37 (by simp) ?_
  simp -implicitDefEqProofs only [go_skip, go_label, go_exit, go_ret, go_seq, go_block, go_cond, go_region, go_loop, go_dregion, fin_nil, fin_seq_n, fin_seq_e, fin_seq_r, fin_seq_p, fin_blk_n, fin_blk_e, fin_blk_r, fin_blk_p, rg_nil, rg_cons, gK_t, gK_f, aK_op, aK_call, oK_val, oK_skip, fK_go, rK_ret, cK_t, cK_f, dg_nil, dg_cons, dGK_t, dGK_f, dAK_op, dS_q, dS_l, dS_w, dAK_call, dLK_go, dLK2_fp, dLK2_op, dQK_val, dOK_val, dOK_skip, dFK_go, dRK_ret, then_n, then_e, then_r, then_p, guardOk, opEv, oev, oevs, ofV_int, ofV_bool, ofV_str, ofV_nilS, ofV_nilP, ofV_nilM, ofV_nilF, ofV_nilI, List.toList_toArray, eget, setE, dropE, edel, penv, AOp.quiet, AOp.isLoad, pendOk, pendKeep, Nat.reduceEqDiff, ↓reduceIte, reduceCtorEq, bt1, bt2, bt3, bt4, b_add, b_sub, b_mul, b_eql, b_neq, b_lss, b_leq, b_gtr, b_geq, addA, ptr_fp, rel_fp, take1, List.drop_zero, List.drop_succ_cons, List.cons_append, List.nil_append, List.append_nil, Bool.not_true, Bool.not_false, decide_true, decide_false, true_and, and_true, Fin_ret, Fin_normal, rvsEv, rvEv, ex_some, resV, post_fin, ptrCells, reload, hget, hset, hdel, storeH, splice, takeV, cellsOf, AV.plain, and_self, List.take_succ_cons, List.take_zero, List.length_cons, List.length_nil, Nat.reduceAdd, Nat.reduceLeDiff, Nat.zero_add, Nat.add_zero, Nat.le_refl, List.getElem?_cons_zero, List.getElem?_cons_succ, partsE, partsE3, fillE, fillA, List.replicate_succ, List.replicate_zero, List.set_cons_zero, List.set_cons_succ, Nat.reduceLT, Nat.zero_lt_one, eq_self, A37]
  refine (w34 k n x y).use fun n' hle => ?_
  rw [binR_ok h1 h2 n1 n2 hx hy]
  simp -implicitDefEqProofs only [go_skip, go_label, go_exit, go_ret, go_seq, go_block, go_cond, go_region, go_loop, go_dregion, fin_nil, fin_seq_n, fin_seq_e, fin_seq_r, fin_seq_p, fin_blk_n, fin_blk_e, fin_blk_r, fin_blk_p, rg_nil, rg_cons, gK_t, gK_f, aK_op, aK_call, oK_val, oK_skip, fK_go, rK_ret, cK_t, cK_f, dg_nil, dg_cons, dGK_t, dGK_f, dAK_op, dS_q, dS_l, dS_w, dAK_call, dLK_go, dLK2_fp, dLK2_op, dQK_val, dOK_val, dOK_skip, dFK_go, dRK_ret, then_n, then_e, then_r, then_p, guardOk, opEv, oev, oevs, ofV_int, ofV_bool, ofV_str, ofV_nilS, ofV_nilP, ofV_nilM, ofV_nilF, ofV_nilI, List.toList_toArray, eget, setE, dropE, edel, penv, AOp.quiet, AOp.isLoad, pendOk, pendKeep, Nat.reduceEqDiff, ↓reduceIte, reduceCtorEq, bt1, bt2, bt3, bt4, b_add, b_sub, b_mul, b_eql, b_neq, b_lss, b_leq, b_gtr, b_geq, addA, ptr_fp, rel_fp, take1, List.drop_zero, List.drop_succ_cons, List.cons_append, List.nil_append, List.append_nil, Bool.not_true, Bool.not_false, decide_true, decide_false, true_and, and_true, Fin_ret, Fin_normal, rvsEv, rvEv, ex_some, resV, post_fin, ptrCells, reload, hget, hset, hdel, storeH, splice, takeV, cellsOf, AV.plain, and_self, List.take_succ_cons, List.take_zero, List.length_cons, List.length_nil, Nat.reduceAdd, Nat.reduceLeDiff, Nat.zero_add, Nat.add_zero, Nat.le_refl, List.getElem?_cons_zero, List.getElem?_cons_succ, partsE, partsE3, fillE, fillA, List.replicate_succ, List.replicate_zero, List.set_cons_zero, List.set_cons_succ, Nat.reduceLT, Nat.zero_lt_one, eq_self, R37]
/-- The width of a number. -/
def cutW (k : Nat) : Nat := k % 64 + 1
theorem w36 (k x : Nat) (hk : k < 256) (hx : x < 18446744073709551616) : Pure Try.prog 36 [.int .u8 k, .int .u64 x] (.tup [.int .i64 (cutW k : Nat), .int .u64 (x % 2 ^ cutW k : Nat)]) := by
  refine Pure.of fun nx => AC.go mixed is36 (by simp) ?_
  have hr : (k : Int).tmod 64 = ((k % 64 : Nat) : Int) := by rw [Int.tmod_eq_emod_of_nonneg (Int.natCast_nonneg _)]; omega
  have hm : k % 64 < 64 := Nat.mod_lt _ (by omega)
  have hc : IntKind.i64.wrap ((k % 64 : Nat) : Int) = ((k % 64 : Nat) : Int) := w64 (by omega) (by omega)
  have ha : IntKind.i64.wrap (((k % 64 : Nat) : Int) + 1) = ((cutW k : Nat) : Int) := by rw [w64 (by omega) (by omega), cutW]; omega
  have hcw : cutW k ≤ 64 := by unfold cutW; omega
  have hcw1 : 1 ≤ cutW k := by unfold cutW; omega
  have hu : IntKind.u64.wrap ((cutW k : Nat) : Int) = ((cutW k : Nat) : Int) := wu64 (by omega) (by omega)
  have hs : IntKind.u64.wrap (64 - ((cutW k : Nat) : Int)) = 64 - ((cutW k : Nat) : Int) := wu64 (by omega) (by omega)
  have hsh := shr_ones (cutW k) (by omega) hcw1
  rw [← mk_nat hcw1 hcw] at hsh
  simp -implicitDefEqProofs only [go_skip, go_label, go_exit, go_ret, go_seq, go_block, go_cond, go_region, go_loop, go_dregion, fin_nil, fin_seq_n, fin_seq_e, fin_seq_r, fin_seq_p, fin_blk_n, fin_blk_e, fin_blk_r, fin_blk_p, rg_nil, rg_cons, gK_t, gK_f, aK_op, aK_call, oK_val, oK_skip, fK_go, rK_ret, cK_t, cK_f, dg_nil, dg_cons, dGK_t, dGK_f, dAK_op, dS_q, dS_l, dS_w, dAK_call, dLK_go, dLK2_fp, dLK2_op, dQK_val, dOK_val, dOK_skip, dFK_go, dRK_ret, then_n, then_e, then_r, then_p, guardOk, opEv, oev, oevs, ofV_int, ofV_bool, ofV_str, ofV_nilS, ofV_nilP, ofV_nilM, ofV_nilF, ofV_nilI, List.toList_toArray, eget, setE, dropE, edel, penv, AOp.quiet, AOp.isLoad, pendOk, pendKeep, Nat.reduceEqDiff, ↓reduceIte, reduceCtorEq, bt1, bt2, bt3, bt4, b_add, b_sub, b_mul, b_eql, b_neq, b_lss, b_leq, b_gtr, b_geq, addA, ptr_fp, rel_fp, take1, List.drop_zero, List.drop_succ_cons, List.cons_append, List.nil_append, List.append_nil, Bool.not_true, Bool.not_false, decide_true, decide_false, true_and, and_true, Fin_ret, Fin_normal, rvsEv, rvEv, ex_some, resV, post_fin, ptrCells, reload, hget, hset, hdel, storeH, splice, takeV, cellsOf, AV.plain, and_self, List.take_succ_cons, List.take_zero, List.length_cons, List.length_nil, Nat.reduceAdd, Nat.reduceLeDiff, Nat.zero_add, Nat.add_zero, Nat.le_refl, List.getElem?_cons_zero, List.getElem?_cons_succ, partsE, partsE3, fillE, fillA, List.replicate_succ, List.replicate_zero, List.set_cons_zero, List.set_cons_succ, Nat.reduceLT, Nat.zero_lt_one, eq_self, A36, R36, b_rem _ _ 64 (by decide), hr, hc, ha, hu, hs, b_shr _ _ _ _ (show (0 : Int) ≤ 64 - ((cutW k : Nat) : Int) by omega), IntKind.bits, hsh, b_and, band_mask hx hcw1 hcw, Option.map_some]

/-! ### Texts -/
def digs : List UInt8 := [48, 49, 50, 51, 52, 53, 54, 55, 56, 57, 97, 98, 99, 100, 101, 102]
def dig (d : Nat) : UInt8 := digs.getD d 0
def u8E (b : UInt8) : List AV := [.int .u8 (b.toNat : Int)]
theorem u8E_len (l : List UInt8) : ∀ x ∈ l.map u8E, x.length = 1 := fun x hx => by
  obtain ⟨b, _, rfl⟩ := List.mem_map.1 hx; rfl
theorem bytesOf_u8E : ∀ l : List UInt8, bytesOf ((l.map u8E).flatten) = some l
  | [] => rfl
  | b :: l => by
    simp only [List.map_cons, u8E, List.flatten_cons, List.cons_append, List.nil_append, bytesOf, Int.toNat_natCast]
    rw [bytesOf_u8E l]
    simp
theorem own_cells {e sz : Nat} {h : Heap} {nx : Nat} {x : AV} {es : List (List AV)} (ho : OwnSl e sz h nx x es) (hs : ∀ z ∈ es, z.length = sz) : sliceCells h x = some (es.length, es.flatten) ∧ slSz x sz = true := by
  rcases ho with ⟨rfl, rfl⟩ | ⟨b, rfl, hb, _⟩
  · exact ⟨rfl, rfl⟩
  · refine ⟨?_, by simp [slSz]⟩
    have hf := flat_len hs
    simp only [sliceCells, hb, Nat.zero_add, hf, Nat.le_refl, if_true, List.drop_zero]
    rw [List.take_of_length_le (by omega)]
def widthT (n : Nat) : List UInt8 := (if 9 < n then [dig (n / 10)] else []) ++ [dig (n % 10), 58]
def hexT (m x j : Nat) : List UInt8 := (List.range j).map fun i => dig (x / 2 ^ (4 * (m - 1 - i)) % 16)
/-- The text of a bit vector. -/
def textL (n x : Nat) : List UInt8 := widthT n ++ hexT ((n + 3) / 4) x ((n + 3) / 4)
theorem dig_at {d : Nat} (h : d < 16) : digs[d]? = some (dig d) := by
  have : d < digs.length := by simpa [digs] using h
  simp [dig, List.getD_eq_getElem?_getD, this]
theorem textL_len (n x j : Nat) (hn : n ≤ 64) : (widthT n ++ hexT ((n + 3) / 4) x j).length ≤ 3 + j := by
  simp only [List.length_append, widthT, hexT, List.length_map, List.length_range]
  split <;> simp <;> omega
def textR (w : Int) (x : Nat) : List UInt8 × Int := if wide w then (if (x : Int) ≤ mk w then (textL w.toNat x, 0) else ([], 8)) else ([], 14)
theorem w12 (w : Int) (x : Nat) (hx0 : x < 18446744073709551616) : Pure Try.prog 12 [.int .i64 w, .int .u64 x] (.tup [.str (textR w x).1, .int .i64 (textR w x).2]) := by
  refine Pure.of fun nx => AC.go mixed is12 (by simp) ?_
  simp -implicitDefEqProofs only [go_skip, go_label, go_exit, go_ret, go_seq, go_block, go_cond, go_region, go_loop, go_dregion, fin_nil, fin_seq_n, fin_seq_e, fin_seq_r, fin_seq_p, fin_blk_n, fin_blk_e, fin_blk_r, fin_blk_p, rg_nil, rg_cons, gK_t, gK_f, aK_op, aK_call, oK_val, oK_skip, fK_go, rK_ret, cK_t, cK_f, dg_nil, dg_cons, dGK_t, dGK_f, dAK_op, dS_q, dS_l, dS_w, dAK_call, dLK_go, dLK2_fp, dLK2_op, dQK_val, dOK_val, dOK_skip, dFK_go, dRK_ret, then_n, then_e, then_r, then_p, guardOk, opEv, oev, oevs, ofV_int, ofV_bool, ofV_str, ofV_nilS, ofV_nilP, ofV_nilM, ofV_nilF, ofV_nilI, List.toList_toArray, eget, setE, dropE, edel, penv, AOp.quiet, AOp.isLoad, pendOk, pendKeep, Nat.reduceEqDiff, ↓reduceIte, reduceCtorEq, bt1, bt2, bt3, bt4, b_add, b_sub, b_mul, b_eql, b_neq, b_lss, b_leq, b_gtr, b_geq, addA, ptr_fp, rel_fp, take1, List.drop_zero, List.drop_succ_cons, List.cons_append, List.nil_append, List.append_nil, Bool.not_true, Bool.not_false, decide_true, decide_false, true_and, and_true, Fin_ret, Fin_normal, rvsEv, rvEv, ex_some, resV, post_fin, ptrCells, reload, hget, hset, hdel, storeH, splice, takeV, cellsOf, AV.plain, and_self, List.take_succ_cons, List.take_zero, List.length_cons, List.length_nil, Nat.reduceAdd, Nat.reduceLeDiff, Nat.zero_add, Nat.add_zero, Nat.le_refl, List.getElem?_cons_zero, List.getElem?_cons_succ, partsE, partsE3, fillE, fillA, List.replicate_succ, List.replicate_zero, List.set_cons_zero, List.set_cons_succ, Nat.reduceLT, Nat.zero_lt_one, eq_self, A12, ofV, ofC]
  refine (w44a w x).use fun n' hle => ?_
  by_cases h : wide w
  case neg => simp -implicitDefEqProofs only [go_skip, go_label, go_exit, go_ret, go_seq, go_block, go_cond, go_region, go_loop, go_dregion, fin_nil, fin_seq_n, fin_seq_e, fin_seq_r, fin_seq_p, fin_blk_n, fin_blk_e, fin_blk_r, fin_blk_p, rg_nil, rg_cons, gK_t, gK_f, aK_op, aK_call, oK_val, oK_skip, fK_go, rK_ret, cK_t, cK_f, dg_nil, dg_cons, dGK_t, dGK_f, dAK_op, dS_q, dS_l, dS_w, dAK_call, dLK_go, dLK2_fp, dLK2_op, dQK_val, dOK_val, dOK_skip, dFK_go, dRK_ret, then_n, then_e, then_r, then_p, guardOk, opEv, oev, oevs, ofV_int, ofV_bool, ofV_str, ofV_nilS, ofV_nilP, ofV_nilM, ofV_nilF, ofV_nilI, List.toList_toArray, eget, setE, dropE, edel, penv, AOp.quiet, AOp.isLoad, pendOk, pendKeep, Nat.reduceEqDiff, ↓reduceIte, reduceCtorEq, bt1, bt2, bt3, bt4, b_add, b_sub, b_mul, b_eql, b_neq, b_lss, b_leq, b_gtr, b_geq, addA, ptr_fp, rel_fp, take1, List.drop_zero, List.drop_succ_cons, List.cons_append, List.nil_append, List.append_nil, Bool.not_true, Bool.not_false, decide_true, decide_false, true_and, and_true, Fin_ret, Fin_normal, rvsEv, rvEv, ex_some, resV, post_fin, ptrCells, reload, hget, hset, hdel, storeH, splice, takeV, cellsOf, AV.plain, and_self, List.take_succ_cons, List.take_zero, List.length_cons, List.length_nil, Nat.reduceAdd, Nat.reduceLeDiff, Nat.zero_add, Nat.add_zero, Nat.le_refl, List.getElem?_cons_zero, List.getElem?_cons_succ, partsE, partsE3, fillE, fillA, List.replicate_succ, List.replicate_zero, List.set_cons_zero, List.set_cons_succ, Nat.reduceLT, Nat.zero_lt_one, eq_self, h, Int.reduceEq, R12, textR]
  by_cases hx : (x : Int) ≤ mk w
  case neg => simp -implicitDefEqProofs only [go_skip, go_label, go_exit, go_ret, go_seq, go_block, go_cond, go_region, go_loop, go_dregion, fin_nil, fin_seq_n, fin_seq_e, fin_seq_r, fin_seq_p, fin_blk_n, fin_blk_e, fin_blk_r, fin_blk_p, rg_nil, rg_cons, gK_t, gK_f, aK_op, aK_call, oK_val, oK_skip, fK_go, rK_ret, cK_t, cK_f, dg_nil, dg_cons, dGK_t, dGK_f, dAK_op, dS_q, dS_l, dS_w, dAK_call, dLK_go, dLK2_fp, dLK2_op, dQK_val, dOK_val, dOK_skip, dFK_go, dRK_ret, then_n, then_e, then_r, then_p, guardOk, opEv, oev, oevs, ofV_int, ofV_bool, ofV_str, ofV_nilS, ofV_nilP, ofV_nilM, ofV_nilF, ofV_nilI, List.toList_toArray, eget, setE, dropE, edel, penv, AOp.quiet, AOp.isLoad, pendOk, pendKeep, Nat.reduceEqDiff, ↓reduceIte, reduceCtorEq, bt1, bt2, bt3, bt4, b_add, b_sub, b_mul, b_eql, b_neq, b_lss, b_leq, b_gtr, b_geq, addA, ptr_fp, rel_fp, take1, List.drop_zero, List.drop_succ_cons, List.cons_append, List.nil_append, List.append_nil, Bool.not_true, Bool.not_false, decide_true, decide_false, true_and, and_true, Fin_ret, Fin_normal, rvsEv, rvEv, ex_some, resV, post_fin, ptrCells, reload, hget, hset, hdel, storeH, splice, takeV, cellsOf, AV.plain, and_self, List.take_succ_cons, List.take_zero, List.length_cons, List.length_nil, Nat.reduceAdd, Nat.reduceLeDiff, Nat.zero_add, Nat.add_zero, Nat.le_refl, List.getElem?_cons_zero, List.getElem?_cons_succ, partsE, partsE3, fillE, fillA, List.replicate_succ, List.replicate_zero, List.set_cons_zero, List.set_cons_succ, Nat.reduceLT, Nat.zero_lt_one, eq_self, h, hx, Int.reduceEq, R12, textR]
  obtain ⟨n, rfl, n1, n2⟩ := wide_nat h
  have hq : IntKind.i64.wrap ((n : Int).tdiv 10) = ((n / 10 : Nat) : Int) := by
    rw [Int.tdiv_eq_ediv_of_nonneg (Int.natCast_nonneg _), w64 (by omega) (by omega)]; omega
  have hr : (n : Int).tmod 10 = ((n % 10 : Nat) : Int) := by rw [Int.tmod_eq_emod_of_nonneg (Int.natCast_nonneg _)]; omega
  have hd1 := dig_at (d := n / 10) (by omega)
  have hd2 := dig_at (d := n % 10) (by omega)
  have e1 : (0 : Int) ≤ ((n / 10 : Nat) : Int) := Int.natCast_nonneg _
  have e2 : (0 : Int) ≤ ((n % 10 : Nat) : Int) := Int.natCast_nonneg _
  have hds : [48, 49, 50, 51, 52, 53, 54, 55, 56, 57, 97, 98, 99, 100, 101, 102] = digs := rfl
  have hm1 : IntKind.i64.wrap ((n : Int) + 3) = (n : Int) + 3 := w64 (by omega) (by omega)
  have hm2 : IntKind.i64.wrap (((n : Int) + 3).tdiv 4) = (((n + 3) / 4 : Nat) : Int) := by
    rw [Int.tdiv_eq_ediv_of_nonneg (by omega), w64 (by omega) (by omega)]; omega
  have e3 : IntKind.i64.wrap (4 : Int) = 4 := w64 (by omega) (by omega)
  have app2 : ∀ (v : AV) (h' : Heap) (n2 : Nat) (front : List UInt8), front.length ≤ 1 → OwnSl 5 1 h' n2 v (front.map u8E) → ∃ v2 h2 n3, appA 5 1 1 h' n2 v (.lst 1 [[.int .u8 ((dig (n % 10)).toNat : Int)], [.int .u8 58]]) = some (v2, h2, n3) ∧ OwnSl 5 1 h2 n3 v2 ((front ++ [dig (n % 10), 58]).map u8E) := by
    intro v h' n2 front hl ho
    obtain ⟨v2, h2, n3, ea, ho2, _, _⟩ := ho.app (bytes := 1) (ns := [u8E (dig (n % 10)), u8E 58]) (u8E_len _) (fun z hz => by simp at hz; rcases hz with rfl | rfl <;> rfl) (by simp; omega) (by simp [maxLen]; omega)
    exact ⟨v2, h2, n3, ea, by rw [List.map_append]; exact ho2⟩
  have lp : ∀ (st : ASt) (v : AV) (Q : AX → ASt → Prop), eget st.env 1 = some (.int .u64 x) → eget st.env 7 = some v → eget st.env 8 = some (.int .i64 ((n + 3) / 4 : Nat)) → eget st.env 34 = some (.int .i64 ((n + 3) / 4 : Nat)) → eget st.env 35 = some (.int .i64 0) → st.dm = [] → OwnSl 5 1 st.heap st.nx v ((widthT n).map u8E) →
      (∀ st' v', eget st'.env 7 = some v' → st'.dm = [] → OwnSl 5 1 st'.heap st'.nx v' ((textL n x).map u8E) → Q (.exit 0) st') → AW Try.prog (fun _ _ => false) none 53 (.loop A12l0) Q st := by
    intro st v Q g1 g7 g8 g34 g35 gd go gq
    refine AW_loop (fun q st => ∃ (i : Nat) (v : AV), q = (n + 3) / 4 - i ∧ i ≤ (n + 3) / 4 ∧ eget st.env 1 = some (.int .u64 x) ∧ eget st.env 7 = some v ∧ eget st.env 8 = some (.int .i64 ((n + 3) / 4 : Nat)) ∧ eget st.env 34 = some (.int .i64 ((n + 3) / 4 : Nat)) ∧ eget st.env 35 = some (.int .i64 i) ∧ st.dm = [] ∧
      OwnSl 5 1 st.heap st.nx v ((widthT n ++ hexT ((n + 3) / 4) x i).map u8E)) (n := (n + 3) / 4) ⟨0, v, by simp, by omega, g1, g7, g8, g34, g35, gd, by simpa [hexT] using go⟩ ?_
    rintro q ⟨env, heap, nx', dm⟩ ⟨i, v, rfl, hi, h1, h7, h8, h34, h35, hdm, ho⟩
    simp only at h1 h7 h8 h34 h35 hdm ho
    subst hdm
    refine AW_go mixed ?_
    simp -implicitDefEqProofs only [go_skip, go_label, go_exit, go_ret, go_seq, go_block, go_cond, go_region, go_loop, go_dregion, fin_nil, fin_seq_n, fin_seq_e, fin_seq_r, fin_seq_p, fin_blk_n, fin_blk_e, fin_blk_r, fin_blk_p, rg_nil, rg_cons, gK_t, gK_f, aK_op, aK_call, oK_val, oK_skip, fK_go, rK_ret, cK_t, cK_f, dg_nil, dg_cons, dGK_t, dGK_f, dAK_op, dS_q, dS_l, dS_w, dAK_call, dLK_go, dLK2_fp, dLK2_op, dQK_val, dOK_val, dOK_skip, dFK_go, dRK_ret, then_n, then_e, then_r, then_p, guardOk, opEv, oev, oevs, ofV_int, ofV_bool, ofV_str, ofV_nilS, ofV_nilP, ofV_nilM, ofV_nilF, ofV_nilI, List.toList_toArray, eget, setE, dropE, edel, penv, AOp.quiet, AOp.isLoad, pendOk, pendKeep, Nat.reduceEqDiff, ↓reduceIte, reduceCtorEq, bt1, bt2, bt3, bt4, b_add, b_sub, b_mul, b_eql, b_neq, b_lss, b_leq, b_gtr, b_geq, addA, ptr_fp, rel_fp, take1, List.drop_zero, List.drop_succ_cons, List.cons_append, List.nil_append, List.append_nil, Bool.not_true, Bool.not_false, decide_true, decide_false, true_and, and_true, Fin_ret, Fin_normal, rvsEv, rvEv, ex_some, resV, post_fin, ptrCells, reload, hget, hset, hdel, storeH, splice, takeV, cellsOf, AV.plain, and_self, List.take_succ_cons, List.take_zero, List.length_cons, List.length_nil, Nat.reduceAdd, Nat.reduceLeDiff, Nat.zero_add, Nat.add_zero, Nat.le_refl, List.getElem?_cons_zero, List.getElem?_cons_succ, partsE, partsE3, fillE, fillA, List.replicate_succ, List.replicate_zero, List.set_cons_zero, List.set_cons_succ, Nat.reduceLT, Nat.zero_lt_one, eq_self, A12l0, h1, h7, h8, h34, h35]
    generalize hM : (n + 3) / 4 = M at *
    have hM16 : M ≤ 16 := by omega
    refine cK_dec (fun hc => ?_) (fun hc => ?_)
    · have s1 : IntKind.i64.wrap ((M : Int) - 1) = (M : Int) - 1 := w64 (by omega) (by omega)
      have s2 : IntKind.i64.wrap ((M : Int) - 1 - (i : Int)) = ((M - 1 - i : Nat) : Int) := by rw [w64 (by omega) (by omega)]; omega
      have s3 : IntKind.i64.wrap (4 * ((M - 1 - i : Nat) : Int)) = ((4 * (M - 1 - i) : Nat) : Int) := by rw [w64 (by omega) (by omega)]; omega
      have s4 : min (((4 * (M - 1 - i) : Nat) : Int)).toNat 64 = 4 * (M - 1 - i) := by omega
      have s4' : min (4 * (M - 1 - i)) 64 = 4 * (M - 1 - i) := by omega
      have hdl := Nat.div_le_self x (2 ^ (4 * (M - 1 - i)))
      have s5 : bitsA .and .u64 ((x / 2 ^ (4 * (M - 1 - i)) : Nat) : Int) 15 = some ((x / 2 ^ (4 * (M - 1 - i)) % 16 : Nat) : Int) := by
        generalize x / 2 ^ (4 * (M - 1 - i)) = y at hdl ⊢
        have := band (x := y) (y := 15) (by omega) (by omega)
        rw [Nat.and_two_pow_sub_one_eq_mod y 4] at this
        exact this
      have hlt : x / 2 ^ (4 * (M - 1 - i)) % 16 < 16 := Nat.mod_lt _ (by omega)
      have hd := dig_at hlt
      have e4 : (0 : Int) ≤ ((x / 2 ^ (4 * (M - 1 - i)) % 16 : Nat) : Int) := Int.natCast_nonneg _
      have hlen := textL_len n x i n2
      rw [hM] at hlen
      obtain ⟨v2, h2, n3, ea, ho2, _, _⟩ := ho.app (bytes := 1) (ns := [u8E (dig (x / 2 ^ (4 * (M - 1 - i)) % 16))]) (u8E_len _) (fun z hz => by simp at hz; subst hz; rfl)
        (by rw [List.length_map]; simp only [List.length_cons, List.length_nil]; omega) (by rw [List.length_map]; simp only [List.length_cons, List.length_nil, maxLen]; omega)
      have ho3 : OwnSl 5 1 h2 n3 v2 ((widthT n ++ hexT M x (i + 1)).map u8E) := by
        have : hexT M x (i + 1) = hexT M x i ++ [dig (x / 2 ^ (4 * (M - 1 - i)) % 16)] := by simp [hexT, List.range_succ]
        rw [this, ← List.append_assoc, List.map_append]; exact ho2
      have ha : IntKind.i64.wrap ((i : Int) + 1) = ((i + 1 : Nat) : Int) := by rw [w64 (by omega) (by omega)]; omega
      simp only [u8E] at ea
      simp -implicitDefEqProofs only [go_skip, go_label, go_exit, go_ret, go_seq, go_block, go_cond, go_region, go_loop, go_dregion, fin_nil, fin_seq_n, fin_seq_e, fin_seq_r, fin_seq_p, fin_blk_n, fin_blk_e, fin_blk_r, fin_blk_p, rg_nil, rg_cons, gK_t, gK_f, aK_op, aK_call, oK_val, oK_skip, fK_go, rK_ret, cK_t, cK_f, dg_nil, dg_cons, dGK_t, dGK_f, dAK_op, dS_q, dS_l, dS_w, dAK_call, dLK_go, dLK2_fp, dLK2_op, dQK_val, dOK_val, dOK_skip, dFK_go, dRK_ret, then_n, then_e, then_r, then_p, guardOk, opEv, oev, oevs, ofV_int, ofV_bool, ofV_str, ofV_nilS, ofV_nilP, ofV_nilM, ofV_nilF, ofV_nilI, List.toList_toArray, eget, setE, dropE, edel, penv, AOp.quiet, AOp.isLoad, pendOk, pendKeep, Nat.reduceEqDiff, ↓reduceIte, reduceCtorEq, bt1, bt2, bt3, bt4, b_add, b_sub, b_mul, b_eql, b_neq, b_lss, b_leq, b_gtr, b_geq, addA, ptr_fp, rel_fp, take1, List.drop_zero, List.drop_succ_cons, List.cons_append, List.nil_append, List.append_nil, Bool.not_true, Bool.not_false, decide_true, decide_false, true_and, and_true, Fin_ret, Fin_normal, rvsEv, rvEv, ex_some, resV, post_fin, ptrCells, reload, hget, hset, hdel, storeH, splice, takeV, cellsOf, AV.plain, and_self, List.take_succ_cons, List.take_zero, List.length_cons, List.length_nil, Nat.reduceAdd, Nat.reduceLeDiff, Nat.zero_add, Nat.add_zero, Nat.le_refl, List.getElem?_cons_zero, List.getElem?_cons_succ, partsE, partsE3, fillE, fillA, List.replicate_succ, List.replicate_zero, List.set_cons_zero, List.set_cons_succ, Nat.reduceLT, Nat.zero_lt_one, eq_self, h1, h7, h8, h34, h35, s1, s2, s3, b_shr _ _ _ _ (Int.natCast_nonneg (4 * (M - 1 - i))), IntKind.bits, s4, s4', fdiv_pow, b_and, s5, Option.map_some, hds, e4, Int.toNat_natCast, hd, ea, ha]
      refine ⟨M - (i + 1), by omega, i + 1, v2, rfl, by omega, ?_⟩
      first | exact ho3 | exact ⟨rfl, ho3⟩ | exact ⟨rfl, rfl, ho3⟩ | exact ⟨rfl, rfl, rfl, ho3⟩ | exact ⟨rfl, rfl, rfl, rfl, ho3⟩ | exact ⟨rfl, rfl, rfl, rfl, rfl, ho3⟩
    · obtain rfl : i = M := by omega
      refine gq _ v ?_ rfl ?_
      · simp only [eget, Nat.reduceEqDiff, if_false, h7]
      · rw [textL, hM]; exact ho
  have fin1 : ∀ (st' : ASt) (v' : AV), OwnSl 5 1 st'.heap st'.nx v' ((textL n x).map u8E) → ∃ m cs, sliceCells st'.heap v' = some (m, cs) ∧ slSz v' 1 = true ∧ bytesOf cs = some (textL n x) := fun st' v' ho => by
    obtain ⟨c1, c2⟩ := own_cells ho (u8E_len _)
    exact ⟨_, _, c1, c2, bytesOf_u8E _⟩
  rcases Nat.lt_or_ge 9 n with h9 | h9
  · obtain ⟨v, h', n2', ea, ho, hle2, _⟩ := OwnSl.app (e := 5) (sz := 1) (bytes := 1) (h := []) (nx := n') (x := .nilS) (es := []) (ns := [u8E (dig (n / 10))]) (.inl ⟨rfl, rfl⟩) (fun z hz => by simp at hz) (fun z hz => by simp at hz; subst hz; rfl) (by simp) (by simp [maxLen])
    obtain ⟨v2, h2, n3, ea2, ho2⟩ := app2 v h' n2' [dig (n / 10)] (by simp) ho
    have hw : widthT n = [dig (n / 10)] ++ [dig (n % 10), 58] := by rw [widthT, if_pos h9]
    simp only [u8E] at ea
    have h9' : (9 : Int) < (n : Int) := by omega
    simp -implicitDefEqProofs only [go_skip, go_label, go_exit, go_ret, go_seq, go_block, go_cond, go_region, go_loop, go_dregion, fin_nil, fin_seq_n, fin_seq_e, fin_seq_r, fin_seq_p, fin_blk_n, fin_blk_e, fin_blk_r, fin_blk_p, rg_nil, rg_cons, gK_t, gK_f, aK_op, aK_call, oK_val, oK_skip, fK_go, rK_ret, cK_t, cK_f, dg_nil, dg_cons, dGK_t, dGK_f, dAK_op, dS_q, dS_l, dS_w, dAK_call, dLK_go, dLK2_fp, dLK2_op, dQK_val, dOK_val, dOK_skip, dFK_go, dRK_ret, then_n, then_e, then_r, then_p, guardOk, opEv, oev, oevs, ofV_int, ofV_bool, ofV_str, ofV_nilS, ofV_nilP, ofV_nilM, ofV_nilF, ofV_nilI, List.toList_toArray, eget, setE, dropE, edel, penv, AOp.quiet, AOp.isLoad, pendOk, pendKeep, Nat.reduceEqDiff, ↓reduceIte, reduceCtorEq, bt1, bt2, bt3, bt4, b_add, b_sub, b_mul, b_eql, b_neq, b_lss, b_leq, b_gtr, b_geq, addA, ptr_fp, rel_fp, take1, List.drop_zero, List.drop_succ_cons, List.cons_append, List.nil_append, List.append_nil, Bool.not_true, Bool.not_false, decide_true, decide_false, true_and, and_true, Fin_ret, Fin_normal, rvsEv, rvEv, ex_some, resV, post_fin, ptrCells, reload, hget, hset, hdel, storeH, splice, takeV, cellsOf, AV.plain, and_self, List.take_succ_cons, List.take_zero, List.length_cons, List.length_nil, Nat.reduceAdd, Nat.reduceLeDiff, Nat.zero_add, Nat.add_zero, Nat.le_refl, List.getElem?_cons_zero, List.getElem?_cons_succ, partsE, partsE3, fillE, fillA, List.replicate_succ, List.replicate_zero, List.set_cons_zero, List.set_cons_succ, Nat.reduceLT, Nat.zero_lt_one, eq_self, h, hx, h9', b_quo _ _ 10 (by decide), b_quo _ _ 4 (by decide), b_rem _ _ 10 (by decide), hq, hr, hds, e1, e2, Int.toNat_natCast, hd1, hd2, ea, ea2, hm1, hm2]
    refine lp _ v2 _ (by simp [eget]) (by simp [eget]) (by simp [eget]) (by simp [eget]) (by simp [eget]) rfl (by rw [hw]; exact ho2) ?_
    rintro ⟨env, heap, nx2, dm⟩ v' g7 gd ho'
    simp only at g7 gd ho'
    subst gd
    obtain ⟨m, cs, c1, c2, c3⟩ := fin1 ⟨env, heap, nx2, []⟩ v' ho'
    simp only at c1
    simp -implicitDefEqProofs only [go_skip, go_label, go_exit, go_ret, go_seq, go_block, go_cond, go_region, go_loop, go_dregion, fin_nil, fin_seq_n, fin_seq_e, fin_seq_r, fin_seq_p, fin_blk_n, fin_blk_e, fin_blk_r, fin_blk_p, rg_nil, rg_cons, gK_t, gK_f, aK_op, aK_call, oK_val, oK_skip, fK_go, rK_ret, cK_t, cK_f, dg_nil, dg_cons, dGK_t, dGK_f, dAK_op, dS_q, dS_l, dS_w, dAK_call, dLK_go, dLK2_fp, dLK2_op, dQK_val, dOK_val, dOK_skip, dFK_go, dRK_ret, then_n, then_e, then_r, then_p, guardOk, opEv, oev, oevs, ofV_int, ofV_bool, ofV_str, ofV_nilS, ofV_nilP, ofV_nilM, ofV_nilF, ofV_nilI, List.toList_toArray, eget, setE, dropE, edel, penv, AOp.quiet, AOp.isLoad, pendOk, pendKeep, Nat.reduceEqDiff, ↓reduceIte, reduceCtorEq, bt1, bt2, bt3, bt4, b_add, b_sub, b_mul, b_eql, b_neq, b_lss, b_leq, b_gtr, b_geq, addA, ptr_fp, rel_fp, take1, List.drop_zero, List.drop_succ_cons, List.cons_append, List.nil_append, List.append_nil, Bool.not_true, Bool.not_false, decide_true, decide_false, true_and, and_true, Fin_ret, Fin_normal, rvsEv, rvEv, ex_some, resV, post_fin, ptrCells, reload, hget, hset, hdel, storeH, splice, takeV, cellsOf, AV.plain, and_self, List.take_succ_cons, List.take_zero, List.length_cons, List.length_nil, Nat.reduceAdd, Nat.reduceLeDiff, Nat.zero_add, Nat.add_zero, Nat.le_refl, List.getElem?_cons_zero, List.getElem?_cons_succ, partsE, partsE3, fillE, fillA, List.replicate_succ, List.replicate_zero, List.set_cons_zero, List.set_cons_succ, Nat.reduceLT, Nat.zero_lt_one, eq_self, g7, c1, c2, c3, R12, textR, h, hx, Int.toNat_natCast]
  · obtain ⟨v2, h2, n3, ea2, ho2⟩ := app2 .nilS [] n' [] (by simp) (.inl ⟨rfl, rfl⟩)
    have hw : widthT n = [] ++ [dig (n % 10), 58] := by rw [widthT, if_neg (by omega)]
    have h9' : ¬ (9 : Int) < (n : Int) := by omega
    simp -implicitDefEqProofs only [go_skip, go_label, go_exit, go_ret, go_seq, go_block, go_cond, go_region, go_loop, go_dregion, fin_nil, fin_seq_n, fin_seq_e, fin_seq_r, fin_seq_p, fin_blk_n, fin_blk_e, fin_blk_r, fin_blk_p, rg_nil, rg_cons, gK_t, gK_f, aK_op, aK_call, oK_val, oK_skip, fK_go, rK_ret, cK_t, cK_f, dg_nil, dg_cons, dGK_t, dGK_f, dAK_op, dS_q, dS_l, dS_w, dAK_call, dLK_go, dLK2_fp, dLK2_op, dQK_val, dOK_val, dOK_skip, dFK_go, dRK_ret, then_n, then_e, then_r, then_p, guardOk, opEv, oev, oevs, ofV_int, ofV_bool, ofV_str, ofV_nilS, ofV_nilP, ofV_nilM, ofV_nilF, ofV_nilI, List.toList_toArray, eget, setE, dropE, edel, penv, AOp.quiet, AOp.isLoad, pendOk, pendKeep, Nat.reduceEqDiff, ↓reduceIte, reduceCtorEq, bt1, bt2, bt3, bt4, b_add, b_sub, b_mul, b_eql, b_neq, b_lss, b_leq, b_gtr, b_geq, addA, ptr_fp, rel_fp, take1, List.drop_zero, List.drop_succ_cons, List.cons_append, List.nil_append, List.append_nil, Bool.not_true, Bool.not_false, decide_true, decide_false, true_and, and_true, Fin_ret, Fin_normal, rvsEv, rvEv, ex_some, resV, post_fin, ptrCells, reload, hget, hset, hdel, storeH, splice, takeV, cellsOf, AV.plain, and_self, List.take_succ_cons, List.take_zero, List.length_cons, List.length_nil, Nat.reduceAdd, Nat.reduceLeDiff, Nat.zero_add, Nat.add_zero, Nat.le_refl, List.getElem?_cons_zero, List.getElem?_cons_succ, partsE, partsE3, fillE, fillA, List.replicate_succ, List.replicate_zero, List.set_cons_zero, List.set_cons_succ, Nat.reduceLT, Nat.zero_lt_one, eq_self, h, hx, h9', b_quo _ _ 4 (by decide), b_rem _ _ 10 (by decide), hr, hds, e2, Int.toNat_natCast, hd2, ea2, hm1, hm2]
    refine lp _ v2 _ (by simp [eget]) (by simp [eget]) (by simp [eget]) (by simp [eget]) (by simp [eget]) rfl (by rw [hw]; exact ho2) ?_
    rintro ⟨env, heap, nx2, dm⟩ v' g7 gd ho'
    simp only at g7 gd ho'
    subst gd
    obtain ⟨m, cs, c1, c2, c3⟩ := fin1 ⟨env, heap, nx2, []⟩ v' ho'
    simp only at c1
    simp -implicitDefEqProofs only [go_skip, go_label, go_exit, go_ret, go_seq, go_block, go_cond, go_region, go_loop, go_dregion, fin_nil, fin_seq_n, fin_seq_e, fin_seq_r, fin_seq_p, fin_blk_n, fin_blk_e, fin_blk_r, fin_blk_p, rg_nil, rg_cons, gK_t, gK_f, aK_op, aK_call, oK_val, oK_skip, fK_go, rK_ret, cK_t, cK_f, dg_nil, dg_cons, dGK_t, dGK_f, dAK_op, dS_q, dS_l, dS_w, dAK_call, dLK_go, dLK2_fp, dLK2_op, dQK_val, dOK_val, dOK_skip, dFK_go, dRK_ret, then_n, then_e, then_r, then_p, guardOk, opEv, oev, oevs, ofV_int, ofV_bool, ofV_str, ofV_nilS, ofV_nilP, ofV_nilM, ofV_nilF, ofV_nilI, List.toList_toArray, eget, setE, dropE, edel, penv, AOp.quiet, AOp.isLoad, pendOk, pendKeep, Nat.reduceEqDiff, ↓reduceIte, reduceCtorEq, bt1, bt2, bt3, bt4, b_add, b_sub, b_mul, b_eql, b_neq, b_lss, b_leq, b_gtr, b_geq, addA, ptr_fp, rel_fp, take1, List.drop_zero, List.drop_succ_cons, List.cons_append, List.nil_append, List.append_nil, Bool.not_true, Bool.not_false, decide_true, decide_false, true_and, and_true, Fin_ret, Fin_normal, rvsEv, rvEv, ex_some, resV, post_fin, ptrCells, reload, hget, hset, hdel, storeH, splice, takeV, cellsOf, AV.plain, and_self, List.take_succ_cons, List.take_zero, List.length_cons, List.length_nil, Nat.reduceAdd, Nat.reduceLeDiff, Nat.zero_add, Nat.add_zero, Nat.le_refl, List.getElem?_cons_zero, List.getElem?_cons_succ, partsE, partsE3, fillE, fillA, List.replicate_succ, List.replicate_zero, List.set_cons_zero, List.set_cons_succ, Nat.reduceLT, Nat.zero_lt_one, eq_self, g7, c1, c2, c3, R12, textR, h, hx, Int.toNat_natCast]
end Go.Proofs.Ytcnnanicdjdddaa
