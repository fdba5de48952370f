/- Packed tables, read back: the next byte, the next number. -/
import Derived.Test.YtmnlfgnpmpebmaaRW11
namespace Go.Proofs.Ytmnlfgnpmpebmaa
open Go Go.Ab Go.Proofs
set_option linter.unusedVariables false
set_option linter.unusedSimpArgs false
set_option maxRecDepth 20000

theorem bvn (x : Nat) : (BitVec.ofInt IntKind.u64.bits (x : Int)) = BitVec.ofNat 64 x := by
  simp [IntKind.bits]
theorem bor {x y : Nat} (hx : x < 18446744073709551616) (hy : y < 18446744073709551616) : bitsA .or .u64 (x : Int) (y : Int) = some ((x ||| y : Nat) : Int) := by
  simp only [bitsA, bvn]
  congr 1
  have h1 : (BitVec.ofNat 64 x ||| BitVec.ofNat 64 y).toNat = x ||| y := by
    rw [BitVec.toNat_or, BitVec.toNat_ofNat, BitVec.toNat_ofNat, Nat.mod_eq_of_lt (by omega), Nat.mod_eq_of_lt (by omega)]
  show IntKind.u64.wrap (((BitVec.ofNat 64 x ||| BitVec.ofNat 64 y).toNat : Nat) : Int) = _
  rw [h1]
  have : x ||| y < 2 ^ 64 := Nat.or_lt_two_pow (by omega) (by omega)
  exact wu _ (by omega) (by omega)
theorem and127 : ∀ x : Nat, x < 256 → bitsA .and .u8 (x : Int) 127 = some ((x % 128 : Nat) : Int) := by decide +kernel
theorem or_add {n y j : Nat} (hn : n < 2 ^ j) : n ||| (y * 2 ^ j) = n + y * 2 ^ j := by
  have := Nat.two_pow_add_eq_or_of_lt hn y
  rw [Nat.mul_comm y, Nat.or_comm, ← this]; omega

theorem w33 (b : List Nat) (p4 p1 : Nat) (H : Heap) (nx k : Nat) (h4 : hget H p4 = some (.cells [.int .i64 (k : Int)])) (h1 : hget H p1 = some (.cells [bytesA b])) (hne : p4 ≠ p1) (hk : k ≤ b.length) (hl : b.length ≤ 1000000) :
    AC Try.prog 33 [.op p4 0, .op p1 0] H nx fun y h' n' => nx ≤ n' ∧ ((∃ x, b[k]? = some x ∧ y = .ret (.tup [.int .u8 (x : Int), .bool true]) ∧ h' = (p4, .cells [.int .i64 ((k + 1 : Nat) : Int)]) :: H) ∨ (k = b.length ∧ y = .ret (.tup [.int .u8 0, .bool false]) ∧ h' = H)) := by
  refine AC.go mixed is33 (by simp) ?_
  have lb := bytes_len b
  have q4 : ptrCells H (.op p4 0) = some [.int .i64 (k : Int)] := by simp only [ptrCells, h4]; rfl
  have q1 : ptrCells H (.op p1 0) = some [bytesA b] := by simp only [ptrCells, h1]; rfl
  by_cases hc : (b.length : Int) ≤ (k : Int)
  · simp -implicitDefEqProofs only [go_skip, go_label, go_exit, go_ret, go_seq, go_block, go_cond, go_region, go_loop, go_dregion, fin_nil, fin_seq_n, fin_seq_e, fin_seq_r, fin_seq_p, fin_blk_n, fin_blk_e, fin_blk_r, fin_blk_p, rg_nil, rg_cons, gK_t, gK_f, aK_op, aK_call, oK_val, oK_skip, fK_go, rK_ret, cK_t, cK_f, dg_nil, dg_cons, dGK_t, dGK_f, dAK_op, dS_q, dS_l, dS_w, dAK_call, dLK_go, dLK2_fp, dLK2_op, dQK_val, dOK_val, dOK_skip, dFK_go, dRK_ret, then_n, then_e, then_r, then_p, guardOk, opEv, oev, oevs, ofV_int, ofV_bool, ofV_str, ofV_nilS, ofV_nilP, ofV_nilM, ofV_nilF, ofV_nilI, List.toList_toArray, eget, setE, dropE, edel, penv, AOp.quiet, AOp.isLoad, pendOk, pendKeep, Nat.reduceEqDiff, ↓reduceIte, reduceCtorEq, bt1, bt2, bt3, bt4, b_add, b_sub, b_mul, b_eql, b_neq, b_lss, b_leq, b_gtr, b_geq, addA, ptr_fp, rel_fp, take1, List.drop_zero, List.drop_succ_cons, List.cons_append, List.nil_append, List.append_nil, Bool.not_true, Bool.not_false, decide_true, decide_false, true_and, and_true, Fin_ret, Fin_normal, rvsEv, rvEv, ex_some, resV, post_fin, takeV, cellsOf, AV.plain, and_self, List.take_succ_cons, List.take_zero, List.length_cons, List.length_nil, Nat.reduceAdd, Nat.reduceLeDiff, Nat.zero_add, Nat.add_zero, Nat.le_refl, List.getElem?_cons_zero, List.getElem?_cons_succ, partsE, partsE3, fillE, fillA, List.replicate_succ, List.replicate_zero, List.set_cons_zero, List.set_cons_succ, Nat.reduceLT, Nat.zero_lt_one, eq_self, List.contains_cons, List.contains_nil, Nat.reduceBEq, Bool.or_false, Bool.or_self, Bool.false_or, Bool.true_or, Bool.or_true, A33, q4, q1, lb, hc, R33]
    exact .inr (by omega)
  · have hx := List.getElem?_eq_getElem (show k < b.length by omega)
    generalize b[k] = x at hx
    have hix := bytes_idx hx
    have f1 : IntKind.i64.wrap ((k : Int) + 1) = ((k + 1 : Nat) : Int) := by rw [w64 (by omega) (by omega)]; omega
    have f2 : IntKind.i64.wrap (((k + 1 : Nat) : Int) - 1) = (k : Int) := by rw [w64 (by omega) (by omega)]; omega
    have hst : storeH H (.op p4 0) [.int .i64 ((k + 1 : Nat) : Int)] = some ((p4, .cells [.int .i64 ((k + 1 : Nat) : Int)]) :: H) := by
      simp [storeH, h4, splice, hset]
    have q5 : ptrCells ((p4, .cells [.int .i64 ((k + 1 : Nat) : Int)]) :: H) (.op p4 0) = some [.int .i64 ((k + 1 : Nat) : Int)] := by simp [ptrCells, hget]
    have q6 : ptrCells ((p4, .cells [.int .i64 ((k + 1 : Nat) : Int)]) :: H) (.op p1 0) = some [bytesA b] := by
      simp only [ptrCells]; rw [hget_cons, if_neg hne, h1]; rfl
    simp -implicitDefEqProofs only [go_skip, go_label, go_exit, go_ret, go_seq, go_block, go_cond, go_region, go_loop, go_dregion, fin_nil, fin_seq_n, fin_seq_e, fin_seq_r, fin_seq_p, fin_blk_n, fin_blk_e, fin_blk_r, fin_blk_p, rg_nil, rg_cons, gK_t, gK_f, aK_op, aK_call, oK_val, oK_skip, fK_go, rK_ret, cK_t, cK_f, dg_nil, dg_cons, dGK_t, dGK_f, dAK_op, dS_q, dS_l, dS_w, dAK_call, dLK_go, dLK2_fp, dLK2_op, dQK_val, dOK_val, dOK_skip, dFK_go, dRK_ret, then_n, then_e, then_r, then_p, guardOk, opEv, oev, oevs, ofV_int, ofV_bool, ofV_str, ofV_nilS, ofV_nilP, ofV_nilM, ofV_nilF, ofV_nilI, List.toList_toArray, eget, setE, dropE, edel, penv, AOp.quiet, AOp.isLoad, pendOk, pendKeep, Nat.reduceEqDiff, ↓reduceIte, reduceCtorEq, bt1, bt2, bt3, bt4, b_add, b_sub, b_mul, b_eql, b_neq, b_lss, b_leq, b_gtr, b_geq, addA, ptr_fp, rel_fp, take1, List.drop_zero, List.drop_succ_cons, List.cons_append, List.nil_append, List.append_nil, Bool.not_true, Bool.not_false, decide_true, decide_false, true_and, and_true, Fin_ret, Fin_normal, rvsEv, rvEv, ex_some, resV, post_fin, takeV, cellsOf, AV.plain, and_self, List.take_succ_cons, List.take_zero, List.length_cons, List.length_nil, Nat.reduceAdd, Nat.reduceLeDiff, Nat.zero_add, Nat.add_zero, Nat.le_refl, List.getElem?_cons_zero, List.getElem?_cons_succ, partsE, partsE3, fillE, fillA, List.replicate_succ, List.replicate_zero, List.set_cons_zero, List.set_cons_succ, Nat.reduceLT, Nat.zero_lt_one, eq_self, List.contains_cons, List.contains_nil, Nat.reduceBEq, Bool.or_false, Bool.or_self, Bool.false_or, Bool.true_or, Bool.or_true, A33, q4, q1, lb, hc, f1, hst, q5, q6, f2, hix, byE, R33]
    exact .inl ⟨x, hx, rfl⟩

theorem w34 (b : List Nat) (hby : ∀ x ∈ b, x < 256) (p5 p4 p1 : Nat) (H : Heap) (nx k : Nat) (h5 : hget H p5 = some (.cells [.fn (.func 33) [.op p4 0, .op p1 0]])) (h4 : hget H p4 = some (.cells [.int .i64 (k : Int)])) (h1 : hget H p1 = some (.cells [bytesA b]))
    (e1 : p4 ≠ p1) (e2 : p5 ≠ p4) (hk : k ≤ b.length) (hl : b.length ≤ 1000000) :
    AC Try.prog 34 [.op p5 0] H nx fun y h' n' => nx ≤ n' ∧ ∃ (m k' : Nat) (ok : Bool), y = .ret (.tup [.int .u64 (m : Int), .bool ok]) ∧ m < 34359738368 ∧ k' ≤ b.length ∧ hget h' p4 = some (.cells [.int .i64 (k' : Int)]) ∧ (∀ c, c ≠ p4 → hget h' c = hget H c) ∧
      (∀ m' c, rdN 5 true (b.drop k) = some (m', c) → m = m' ∧ ok = true ∧ k' = k + c) ∧ (rdN 5 true (b.drop k) = none → ok = false) := by
  obtain ⟨Qv, hQ⟩ : ∃ Qv : AE → Heap → Nat → Prop, Qv = fun y h' n' => nx ≤ n' ∧ ∃ (m k' : Nat) (ok : Bool), y = .ret (.tup [.int .u64 (m : Int), .bool ok]) ∧ m < 34359738368 ∧ k' ≤ b.length ∧ hget h' p4 = some (.cells [.int .i64 (k' : Int)]) ∧ (∀ c, c ≠ p4 → hget h' c = hget H c) ∧
      (∀ m' c, rdN 5 true (b.drop k) = some (m', c) → m = m' ∧ ok = true ∧ k' = k + c) ∧ (rdN 5 true (b.drop k) = none → ok = false) := ⟨_, rfl⟩
  rw [← hQ]
  have failR : ∀ (H2 : Heap) (n' k2 : Nat), nx ≤ n' → k2 ≤ b.length → hget H2 p4 = some (.cells [.int .i64 (k2 : Int)]) → (∀ c, c ≠ p4 → hget H2 c = hget H c) → rdN 5 true (b.drop k) = none → Qv (.ret (.tup [.int .u64 0, .bool false])) H2 n' := by
    intro H2 n' k2 c1 c2 c3 c4 hnone
    rw [hQ]
    exact ⟨c1, 0, k2, false, rfl, by omega, c2, c3, c4, fun m' c h => (by rw [hnone] at h; cases h), fun _ => rfl⟩
  have okR : ∀ (H2 : Heap) (n' k2 m c' : Nat), nx ≤ n' → k2 ≤ b.length → hget H2 p4 = some (.cells [.int .i64 (k2 : Int)]) → (∀ c, c ≠ p4 → hget H2 c = hget H c) → rdN 5 true (b.drop k) = some (m, c') → k2 = k + c' → Qv (.ret (.tup [.int .u64 (m : Int), .bool true])) H2 n' := by
    intro H2 n' k2 m c' c1 c2 c3 c4 hs hk2
    have hp : (128 : Nat) ^ 5 = 34359738368 := by decide
    have hmb := (rdN_sound 5 true _ m c' (fun x hx => hby x (List.mem_of_mem_drop hx)) hs).2.2.1
    rw [hQ]
    exact ⟨c1, m, k2, true, rfl, by omega, c2, c3, c4, fun m2 c2 h => by rw [hs] at h; injection h with h; injection h with a1 a2; exact ⟨a1, rfl, by omega⟩, fun h => by rw [hs] at h; cases h⟩
  refine AC.go mixed is34 (by simp) ?_
  simp -implicitDefEqProofs only [go_skip, go_label, go_exit, go_ret, go_seq, go_block, go_cond, go_region, go_loop, go_dregion, fin_nil, fin_seq_n, fin_seq_e, fin_seq_r, fin_seq_p, fin_blk_n, fin_blk_e, fin_blk_r, fin_blk_p, rg_nil, rg_cons, gK_t, gK_f, aK_op, aK_call, oK_val, oK_skip, fK_go, rK_ret, cK_t, cK_f, dg_nil, dg_cons, dGK_t, dGK_f, dAK_op, dS_q, dS_l, dS_w, dAK_call, dLK_go, dLK2_fp, dLK2_op, dQK_val, dOK_val, dOK_skip, dFK_go, dRK_ret, then_n, then_e, then_r, then_p, guardOk, opEv, oev, oevs, ofV_int, ofV_bool, ofV_str, ofV_nilS, ofV_nilP, ofV_nilM, ofV_nilF, ofV_nilI, List.toList_toArray, eget, setE, dropE, edel, penv, AOp.quiet, AOp.isLoad, pendOk, pendKeep, Nat.reduceEqDiff, ↓reduceIte, reduceCtorEq, bt1, bt2, bt3, bt4, b_add, b_sub, b_mul, b_eql, b_neq, b_lss, b_leq, b_gtr, b_geq, addA, ptr_fp, rel_fp, take1, List.drop_zero, List.drop_succ_cons, List.cons_append, List.nil_append, List.append_nil, Bool.not_true, Bool.not_false, decide_true, decide_false, true_and, and_true, Fin_ret, Fin_normal, rvsEv, rvEv, ex_some, resV, post_fin, takeV, cellsOf, AV.plain, and_self, List.take_succ_cons, List.take_zero, List.length_cons, List.length_nil, Nat.reduceAdd, Nat.reduceLeDiff, Nat.zero_add, Nat.add_zero, Nat.le_refl, List.getElem?_cons_zero, List.getElem?_cons_succ, partsE, partsE3, fillE, fillA, List.replicate_succ, List.replicate_zero, List.set_cons_zero, List.set_cons_succ, Nat.reduceLT, Nat.zero_lt_one, eq_self, List.contains_cons, List.contains_nil, Nat.reduceBEq, Bool.or_false, Bool.or_self, Bool.false_or, Bool.true_or, Bool.or_true, A34]
  refine go_rounds (fun q st => ∃ i n : Nat, q = 5 - i ∧ i ≤ 5 ∧ n < 2 ^ (7 * i) ∧ k + i ≤ b.length ∧ rdN 5 true (b.drop k) = (rdN (5 - i) (decide (i = 0)) (b.drop (k + i))).map (fun p => (n + 2 ^ (7 * i) * p.1, p.2 + i)) ∧
      eget st.env 0 = some (.op p5 0) ∧ eget st.env 3 = some (.int .u64 (n : Int)) ∧ eget st.env 7 = some (.int .i64 i) ∧ hget st.heap p4 = some (.cells [.int .i64 ((k + i : Nat) : Int)]) ∧ (∀ c, c ≠ p4 → hget st.heap c = hget H c) ∧ nx ≤ st.nx ∧ st.dm = []) (n := 5) mixed
    ⟨0, 0, rfl, by omega, by simp, by simpa using hk, by
      have : (fun p : Nat × Nat => (0 + 2 ^ (7 * 0) * p.1, p.2 + 0)) = id := by funext p; simp
      rw [this, Option.map_id]; rfl, by simp [eget], by simp [eget], by simp [eget], by simpa using h4, fun c _ => rfl, Nat.le_refl _, rfl⟩ ?_
  rintro q ⟨env, heap, nx', dm⟩ ⟨i, n, rfl, hi, hn, hki, hrd, g0, g3, g7, k4, kk, hnx, hdm⟩
  simp only at g0 g3 g7 k4 kk hnx hdm
  subst hdm
  by_cases hi5 : (i : Int) < 5
  case neg =>
    obtain rfl : i = 5 := by omega
    simp -implicitDefEqProofs only [go_skip, go_label, go_exit, go_ret, go_seq, go_block, go_cond, go_region, go_loop, go_dregion, fin_nil, fin_seq_n, fin_seq_e, fin_seq_r, fin_seq_p, fin_blk_n, fin_blk_e, fin_blk_r, fin_blk_p, rg_nil, rg_cons, gK_t, gK_f, aK_op, aK_call, oK_val, oK_skip, fK_go, rK_ret, cK_t, cK_f, dg_nil, dg_cons, dGK_t, dGK_f, dAK_op, dS_q, dS_l, dS_w, dAK_call, dLK_go, dLK2_fp, dLK2_op, dQK_val, dOK_val, dOK_skip, dFK_go, dRK_ret, then_n, then_e, then_r, then_p, guardOk, opEv, oev, oevs, ofV_int, ofV_bool, ofV_str, ofV_nilS, ofV_nilP, ofV_nilM, ofV_nilF, ofV_nilI, List.toList_toArray, eget, setE, dropE, edel, penv, AOp.quiet, AOp.isLoad, pendOk, pendKeep, Nat.reduceEqDiff, ↓reduceIte, reduceCtorEq, bt1, bt2, bt3, bt4, b_add, b_sub, b_mul, b_eql, b_neq, b_lss, b_leq, b_gtr, b_geq, addA, ptr_fp, rel_fp, take1, List.drop_zero, List.drop_succ_cons, List.cons_append, List.nil_append, List.append_nil, Bool.not_true, Bool.not_false, decide_true, decide_false, true_and, and_true, Fin_ret, Fin_normal, rvsEv, rvEv, ex_some, resV, post_fin, takeV, cellsOf, AV.plain, and_self, List.take_succ_cons, List.take_zero, List.length_cons, List.length_nil, Nat.reduceAdd, Nat.reduceLeDiff, Nat.zero_add, Nat.add_zero, Nat.le_refl, List.getElem?_cons_zero, List.getElem?_cons_succ, partsE, partsE3, fillE, fillA, List.replicate_succ, List.replicate_zero, List.set_cons_zero, List.set_cons_succ, Nat.reduceLT, Nat.zero_lt_one, eq_self, List.contains_cons, List.contains_nil, Nat.reduceBEq, Bool.or_false, Bool.or_self, Bool.false_or, Bool.true_or, Bool.or_true, A34l0, g7, hi5, R34]
    exact failR _ _ _ hnx hki k4 kk (by rw [hrd]; simp [rdN])
  have p0 : (2 : Nat) ^ (7 * i) ≤ 2 ^ 28 := Nat.pow_le_pow_right (by omega) (by omega)
  have pp : (2 : Nat) ^ (7 * (i + 1)) = 2 ^ (7 * i) * 128 := by rw [show 7 * (i + 1) = 7 * i + 7 by omega, Nat.pow_add]
  have q5 : ptrCells heap (.op p5 0) = some [.fn (.func 33) [.op p4 0, .op p1 0]] := by simp only [ptrCells]; rw [kk _ e2, h5]; rfl
  have f1 : IntKind.i64.wrap (7 * (i : Int)) = ((7 * i : Nat) : Int) := by rw [w64 (by omega) (by omega)]; omega
  have f2 : IntKind.u64.wrap ((7 * i : Nat) : Int) = ((7 * i : Nat) : Int) := wu _ (by omega) (by omega)
  have f3 : IntKind.i64.wrap ((i : Int) + 1) = ((i + 1 : Nat) : Int) := by rw [w64 (by omega) (by omega)]; omega
  have f0 : (0 : Int) ≤ ((7 * i : Nat) : Int) := Int.natCast_nonneg _
  have mn : min (7 * i) 64 = 7 * i := by omega
  have vals : ∀ x : Nat, x < 256 → IntKind.u64.wrap ((x % 128 : Nat) : Int) = ((x % 128 : Nat) : Int) ∧ IntKind.u64.wrap (((x % 128 : Nat) : Int) * 2 ^ (7 * i)) = ((x % 128 * 2 ^ (7 * i) : Nat) : Int) ∧
      bitsA .or .u64 (n : Int) ((x % 128 * 2 ^ (7 * i) : Nat) : Int) = some ((n + x % 128 * 2 ^ (7 * i) : Nat) : Int) ∧ n + x % 128 * 2 ^ (7 * i) < 2 ^ (7 * (i + 1)) := by
    intro x hx
    have hb : x % 128 * 2 ^ (7 * i) ≤ 127 * 2 ^ (7 * i) := Nat.mul_le_mul_right _ (by omega)
    have hcast : ((x % 128 : Nat) : Int) * 2 ^ (7 * i) = ((x % 128 * 2 ^ (7 * i) : Nat) : Int) := by simp
    refine ⟨wu _ (by omega) (by omega), ?_, ?_, by rw [pp]; omega⟩
    · rw [hcast, wu _ (by omega) (by omega)]
    · rw [bor (by omega) (by omega), or_add hn]
  simp -implicitDefEqProofs only [go_skip, go_label, go_exit, go_ret, go_seq, go_block, go_cond, go_region, go_loop, go_dregion, fin_nil, fin_seq_n, fin_seq_e, fin_seq_r, fin_seq_p, fin_blk_n, fin_blk_e, fin_blk_r, fin_blk_p, rg_nil, rg_cons, gK_t, gK_f, aK_op, aK_call, oK_val, oK_skip, fK_go, rK_ret, cK_t, cK_f, dg_nil, dg_cons, dGK_t, dGK_f, dAK_op, dS_q, dS_l, dS_w, dAK_call, dLK_go, dLK2_fp, dLK2_op, dQK_val, dOK_val, dOK_skip, dFK_go, dRK_ret, then_n, then_e, then_r, then_p, guardOk, opEv, oev, oevs, ofV_int, ofV_bool, ofV_str, ofV_nilS, ofV_nilP, ofV_nilM, ofV_nilF, ofV_nilI, List.toList_toArray, eget, setE, dropE, edel, penv, AOp.quiet, AOp.isLoad, pendOk, pendKeep, Nat.reduceEqDiff, ↓reduceIte, reduceCtorEq, bt1, bt2, bt3, bt4, b_add, b_sub, b_mul, b_eql, b_neq, b_lss, b_leq, b_gtr, b_geq, addA, ptr_fp, rel_fp, take1, List.drop_zero, List.drop_succ_cons, List.cons_append, List.nil_append, List.append_nil, Bool.not_true, Bool.not_false, decide_true, decide_false, true_and, and_true, Fin_ret, Fin_normal, rvsEv, rvEv, ex_some, resV, post_fin, takeV, cellsOf, AV.plain, and_self, List.take_succ_cons, List.take_zero, List.length_cons, List.length_nil, Nat.reduceAdd, Nat.reduceLeDiff, Nat.zero_add, Nat.add_zero, Nat.le_refl, List.getElem?_cons_zero, List.getElem?_cons_succ, partsE, partsE3, fillE, fillA, List.replicate_succ, List.replicate_zero, List.set_cons_zero, List.set_cons_succ, Nat.reduceLT, Nat.zero_lt_one, eq_self, List.contains_cons, List.contains_nil, Nat.reduceBEq, Bool.or_false, Bool.or_self, Bool.false_or, Bool.true_or, Bool.or_true, A34l0, g0, g7, hi5, q5]
  refine (w33 b p4 p1 heap nx' (k + i) k4 (by rw [kk _ (fun h => e1 h.symm)]; exact h1) e1 hki hl).mono ?_
  rintro y h' n' ⟨hn', hcase⟩
  rcases hcase with ⟨x, hx, rfl, rfl⟩ | ⟨hend, rfl, rfl⟩
  · have hx256 := hby x (List.mem_of_getElem? hx)
    obtain ⟨v1, v2, v3, v4⟩ := vals x hx256
    have va := and127 x hx256
    have hki2 := (List.getElem?_eq_some_iff.1 hx).1
    have hdr : b.drop (k + i) = x :: b.drop (k + (i + 1)) := by
      rw [List.drop_eq_getElem_cons hki2, (List.getElem?_eq_some_iff.1 hx).2]; rfl
    have h5i : 5 - i = (4 - i) + 1 := by omega
    rw [hdr, h5i] at hrd
    simp only [rdN] at hrd
    have kk' : ∀ c, c ≠ p4 → hget ((p4, AO.cells [.int .i64 ((k + i + 1 : Nat) : Int)]) :: heap) c = hget H c := fun c hc => by rw [hget_cons, if_neg (fun h => hc h.symm)]; exact kk c hc
    have k4' : hget ((p4, AO.cells [.int .i64 ((k + i + 1 : Nat) : Int)]) :: heap) p4 = some (.cells [.int .i64 ((k + i + 1 : Nat) : Int)]) := by rw [hget_cons, if_pos rfl]
    generalize ((p4, AO.cells [.int .i64 ((k + i + 1 : Nat) : Int)]) :: heap : Heap) = H2 at *
    by_cases hi0 : (0 : Int) < (i : Int)
    · rcases dec_cases ((x : Int) = 0) with ⟨hx0, ex0⟩ | ⟨hx0, ex0⟩
      · rw [if_pos ⟨by simp; omega, by omega⟩] at hrd
        simp -implicitDefEqProofs only [go_skip, go_label, go_exit, go_ret, go_seq, go_block, go_cond, go_region, go_loop, go_dregion, fin_nil, fin_seq_n, fin_seq_e, fin_seq_r, fin_seq_p, fin_blk_n, fin_blk_e, fin_blk_r, fin_blk_p, rg_nil, rg_cons, gK_t, gK_f, aK_op, aK_call, oK_val, oK_skip, fK_go, rK_ret, cK_t, cK_f, dg_nil, dg_cons, dGK_t, dGK_f, dAK_op, dS_q, dS_l, dS_w, dAK_call, dLK_go, dLK2_fp, dLK2_op, dQK_val, dOK_val, dOK_skip, dFK_go, dRK_ret, then_n, then_e, then_r, then_p, guardOk, opEv, oev, oevs, ofV_int, ofV_bool, ofV_str, ofV_nilS, ofV_nilP, ofV_nilM, ofV_nilF, ofV_nilI, List.toList_toArray, eget, setE, dropE, edel, penv, AOp.quiet, AOp.isLoad, pendOk, pendKeep, Nat.reduceEqDiff, ↓reduceIte, reduceCtorEq, bt1, bt2, bt3, bt4, b_add, b_sub, b_mul, b_eql, b_neq, b_lss, b_leq, b_gtr, b_geq, addA, ptr_fp, rel_fp, take1, List.drop_zero, List.drop_succ_cons, List.cons_append, List.nil_append, List.append_nil, Bool.not_true, Bool.not_false, decide_true, decide_false, true_and, and_true, Fin_ret, Fin_normal, rvsEv, rvEv, ex_some, resV, post_fin, takeV, cellsOf, AV.plain, and_self, List.take_succ_cons, List.take_zero, List.length_cons, List.length_nil, Nat.reduceAdd, Nat.reduceLeDiff, Nat.zero_add, Nat.add_zero, Nat.le_refl, List.getElem?_cons_zero, List.getElem?_cons_succ, partsE, partsE3, fillE, fillA, List.replicate_succ, List.replicate_zero, List.set_cons_zero, List.set_cons_succ, Nat.reduceLT, Nat.zero_lt_one, eq_self, List.contains_cons, List.contains_nil, Nat.reduceBEq, Bool.or_false, Bool.or_self, Bool.false_or, Bool.true_or, Bool.or_true, g3, va, v1, b_and, f1, f2, b_shl _ _ _ _ f0, IntKind.bits, Int.toNat_natCast, mn, v2, b_or, v3, Option.map_some, unA, hi0, ex0, R34]
        exact failR _ _ _ (Nat.le_trans hnx hn') (by omega) k4' kk' hrd
      · rw [if_neg (by rintro ⟨_, h⟩; omega)] at hrd
        by_cases h128 : (x : Int) < 128
        · rw [if_pos (by omega)] at hrd
          simp -implicitDefEqProofs only [go_skip, go_label, go_exit, go_ret, go_seq, go_block, go_cond, go_region, go_loop, go_dregion, fin_nil, fin_seq_n, fin_seq_e, fin_seq_r, fin_seq_p, fin_blk_n, fin_blk_e, fin_blk_r, fin_blk_p, rg_nil, rg_cons, gK_t, gK_f, aK_op, aK_call, oK_val, oK_skip, fK_go, rK_ret, cK_t, cK_f, dg_nil, dg_cons, dGK_t, dGK_f, dAK_op, dS_q, dS_l, dS_w, dAK_call, dLK_go, dLK2_fp, dLK2_op, dQK_val, dOK_val, dOK_skip, dFK_go, dRK_ret, then_n, then_e, then_r, then_p, guardOk, opEv, oev, oevs, ofV_int, ofV_bool, ofV_str, ofV_nilS, ofV_nilP, ofV_nilM, ofV_nilF, ofV_nilI, List.toList_toArray, eget, setE, dropE, edel, penv, AOp.quiet, AOp.isLoad, pendOk, pendKeep, Nat.reduceEqDiff, ↓reduceIte, reduceCtorEq, bt1, bt2, bt3, bt4, b_add, b_sub, b_mul, b_eql, b_neq, b_lss, b_leq, b_gtr, b_geq, addA, ptr_fp, rel_fp, take1, List.drop_zero, List.drop_succ_cons, List.cons_append, List.nil_append, List.append_nil, Bool.not_true, Bool.not_false, decide_true, decide_false, true_and, and_true, Fin_ret, Fin_normal, rvsEv, rvEv, ex_some, resV, post_fin, takeV, cellsOf, AV.plain, and_self, List.take_succ_cons, List.take_zero, List.length_cons, List.length_nil, Nat.reduceAdd, Nat.reduceLeDiff, Nat.zero_add, Nat.add_zero, Nat.le_refl, List.getElem?_cons_zero, List.getElem?_cons_succ, partsE, partsE3, fillE, fillA, List.replicate_succ, List.replicate_zero, List.set_cons_zero, List.set_cons_succ, Nat.reduceLT, Nat.zero_lt_one, eq_self, List.contains_cons, List.contains_nil, Nat.reduceBEq, Bool.or_false, Bool.or_self, Bool.false_or, Bool.true_or, Bool.or_true, g3, va, v1, b_and, f1, f2, b_shl _ _ _ _ f0, IntKind.bits, Int.toNat_natCast, mn, v2, b_or, v3, Option.map_some, unA, hi0, ex0, h128, R34]
          refine okR _ _ _ _ (i + 1) (Nat.le_trans hnx hn') (by omega) k4' kk' ?_ (by omega)
          rw [hrd]; simp only [Option.map_some]
          congr 1
          apply Prod.ext
          · simp only; rw [Nat.mod_eq_of_lt (by omega), Nat.mul_comm]
          · simp only; omega
        · rw [if_neg (by omega)] at hrd
          simp -implicitDefEqProofs only [go_skip, go_label, go_exit, go_ret, go_seq, go_block, go_cond, go_region, go_loop, go_dregion, fin_nil, fin_seq_n, fin_seq_e, fin_seq_r, fin_seq_p, fin_blk_n, fin_blk_e, fin_blk_r, fin_blk_p, rg_nil, rg_cons, gK_t, gK_f, aK_op, aK_call, oK_val, oK_skip, fK_go, rK_ret, cK_t, cK_f, dg_nil, dg_cons, dGK_t, dGK_f, dAK_op, dS_q, dS_l, dS_w, dAK_call, dLK_go, dLK2_fp, dLK2_op, dQK_val, dOK_val, dOK_skip, dFK_go, dRK_ret, then_n, then_e, then_r, then_p, guardOk, opEv, oev, oevs, ofV_int, ofV_bool, ofV_str, ofV_nilS, ofV_nilP, ofV_nilM, ofV_nilF, ofV_nilI, List.toList_toArray, eget, setE, dropE, edel, penv, AOp.quiet, AOp.isLoad, pendOk, pendKeep, Nat.reduceEqDiff, ↓reduceIte, reduceCtorEq, bt1, bt2, bt3, bt4, b_add, b_sub, b_mul, b_eql, b_neq, b_lss, b_leq, b_gtr, b_geq, addA, ptr_fp, rel_fp, take1, List.drop_zero, List.drop_succ_cons, List.cons_append, List.nil_append, List.append_nil, Bool.not_true, Bool.not_false, decide_true, decide_false, true_and, and_true, Fin_ret, Fin_normal, rvsEv, rvEv, ex_some, resV, post_fin, takeV, cellsOf, AV.plain, and_self, List.take_succ_cons, List.take_zero, List.length_cons, List.length_nil, Nat.reduceAdd, Nat.reduceLeDiff, Nat.zero_add, Nat.add_zero, Nat.le_refl, List.getElem?_cons_zero, List.getElem?_cons_succ, partsE, partsE3, fillE, fillA, List.replicate_succ, List.replicate_zero, List.set_cons_zero, List.set_cons_succ, Nat.reduceLT, Nat.zero_lt_one, eq_self, List.contains_cons, List.contains_nil, Nat.reduceBEq, Bool.or_false, Bool.or_self, Bool.false_or, Bool.true_or, Bool.or_true, g3, va, v1, b_and, f1, f2, b_shl _ _ _ _ f0, IntKind.bits, Int.toNat_natCast, mn, v2, b_or, v3, Option.map_some, unA, hi0, ex0, h128, g7, f3]
          refine ⟨5 - (i + 1), by omega, i + 1, n + x % 128 * 2 ^ (7 * i), rfl, by omega, v4, by omega, ?_, ?_⟩
          · rw [hrd, show 5 - (i + 1) = 4 - i by omega, show decide (i + 1 = 0) = false by simp]
            rw [Option.map_map]
            congr 1
            funext p
            simp only [Function.comp, pp]
            apply Prod.ext
            · simp only [Nat.mul_add, Nat.mul_assoc]; rw [Nat.mul_comm (x % 128)]; omega
            · simp only; omega
          · repeat' apply And.intro
            all_goals first | assumption | rfl | omega | (simp [eget, *]; done)
    · rw [if_neg (by rintro ⟨h, _⟩; simp at h; omega)] at hrd
      by_cases h128 : (x : Int) < 128
      · rw [if_pos (by omega)] at hrd
        simp -implicitDefEqProofs only [go_skip, go_label, go_exit, go_ret, go_seq, go_block, go_cond, go_region, go_loop, go_dregion, fin_nil, fin_seq_n, fin_seq_e, fin_seq_r, fin_seq_p, fin_blk_n, fin_blk_e, fin_blk_r, fin_blk_p, rg_nil, rg_cons, gK_t, gK_f, aK_op, aK_call, oK_val, oK_skip, fK_go, rK_ret, cK_t, cK_f, dg_nil, dg_cons, dGK_t, dGK_f, dAK_op, dS_q, dS_l, dS_w, dAK_call, dLK_go, dLK2_fp, dLK2_op, dQK_val, dOK_val, dOK_skip, dFK_go, dRK_ret, then_n, then_e, then_r, then_p, guardOk, opEv, oev, oevs, ofV_int, ofV_bool, ofV_str, ofV_nilS, ofV_nilP, ofV_nilM, ofV_nilF, ofV_nilI, List.toList_toArray, eget, setE, dropE, edel, penv, AOp.quiet, AOp.isLoad, pendOk, pendKeep, Nat.reduceEqDiff, ↓reduceIte, reduceCtorEq, bt1, bt2, bt3, bt4, b_add, b_sub, b_mul, b_eql, b_neq, b_lss, b_leq, b_gtr, b_geq, addA, ptr_fp, rel_fp, take1, List.drop_zero, List.drop_succ_cons, List.cons_append, List.nil_append, List.append_nil, Bool.not_true, Bool.not_false, decide_true, decide_false, true_and, and_true, Fin_ret, Fin_normal, rvsEv, rvEv, ex_some, resV, post_fin, takeV, cellsOf, AV.plain, and_self, List.take_succ_cons, List.take_zero, List.length_cons, List.length_nil, Nat.reduceAdd, Nat.reduceLeDiff, Nat.zero_add, Nat.add_zero, Nat.le_refl, List.getElem?_cons_zero, List.getElem?_cons_succ, partsE, partsE3, fillE, fillA, List.replicate_succ, List.replicate_zero, List.set_cons_zero, List.set_cons_succ, Nat.reduceLT, Nat.zero_lt_one, eq_self, List.contains_cons, List.contains_nil, Nat.reduceBEq, Bool.or_false, Bool.or_self, Bool.false_or, Bool.true_or, Bool.or_true, g3, va, v1, b_and, f1, f2, b_shl _ _ _ _ f0, IntKind.bits, Int.toNat_natCast, mn, v2, b_or, v3, Option.map_some, unA, hi0, h128, R34]
        refine okR _ _ _ _ (i + 1) (Nat.le_trans hnx hn') (by omega) k4' kk' ?_ (by omega)
        rw [hrd]; simp only [Option.map_some]
        congr 1
        apply Prod.ext
        · simp only; rw [Nat.mod_eq_of_lt (by omega), Nat.mul_comm]
        · simp only; omega
      · rw [if_neg (by omega)] at hrd
        simp -implicitDefEqProofs only [go_skip, go_label, go_exit, go_ret, go_seq, go_block, go_cond, go_region, go_loop, go_dregion, fin_nil, fin_seq_n, fin_seq_e, fin_seq_r, fin_seq_p, fin_blk_n, fin_blk_e, fin_blk_r, fin_blk_p, rg_nil, rg_cons, gK_t, gK_f, aK_op, aK_call, oK_val, oK_skip, fK_go, rK_ret, cK_t, cK_f, dg_nil, dg_cons, dGK_t, dGK_f, dAK_op, dS_q, dS_l, dS_w, dAK_call, dLK_go, dLK2_fp, dLK2_op, dQK_val, dOK_val, dOK_skip, dFK_go, dRK_ret, then_n, then_e, then_r, then_p, guardOk, opEv, oev, oevs, ofV_int, ofV_bool, ofV_str, ofV_nilS, ofV_nilP, ofV_nilM, ofV_nilF, ofV_nilI, List.toList_toArray, eget, setE, dropE, edel, penv, AOp.quiet, AOp.isLoad, pendOk, pendKeep, Nat.reduceEqDiff, ↓reduceIte, reduceCtorEq, bt1, bt2, bt3, bt4, b_add, b_sub, b_mul, b_eql, b_neq, b_lss, b_leq, b_gtr, b_geq, addA, ptr_fp, rel_fp, take1, List.drop_zero, List.drop_succ_cons, List.cons_append, List.nil_append, List.append_nil, Bool.not_true, Bool.not_false, decide_true, decide_false, true_and, and_true, Fin_ret, Fin_normal, rvsEv, rvEv, ex_some, resV, post_fin, takeV, cellsOf, AV.plain, and_self, List.take_succ_cons, List.take_zero, List.length_cons, List.length_nil, Nat.reduceAdd, Nat.reduceLeDiff, Nat.zero_add, Nat.add_zero, Nat.le_refl, List.getElem?_cons_zero, List.getElem?_cons_succ, partsE, partsE3, fillE, fillA, List.replicate_succ, List.replicate_zero, List.set_cons_zero, List.set_cons_succ, Nat.reduceLT, Nat.zero_lt_one, eq_self, List.contains_cons, List.contains_nil, Nat.reduceBEq, Bool.or_false, Bool.or_self, Bool.false_or, Bool.true_or, Bool.or_true, g3, va, v1, b_and, f1, f2, b_shl _ _ _ _ f0, IntKind.bits, Int.toNat_natCast, mn, v2, b_or, v3, Option.map_some, unA, hi0, h128, g7, f3]
        refine ⟨5 - (i + 1), by omega, i + 1, n + x % 128 * 2 ^ (7 * i), rfl, by omega, v4, by omega, ?_, ?_⟩
        · rw [hrd, show 5 - (i + 1) = 4 - i by omega, show decide (i + 1 = 0) = false by simp]
          rw [Option.map_map]
          congr 1
          funext p
          simp only [Function.comp, pp]
          apply Prod.ext
          · simp only [Nat.mul_add, Nat.mul_assoc]; rw [Nat.mul_comm (x % 128)]; omega
          · simp only; omega
        · repeat' apply And.intro
          all_goals first | assumption | rfl | omega | (simp [eget, *]; done)
  · have hnil : b.drop (k + i) = [] := List.drop_eq_nil_of_le (by omega)
    have hnone : rdN 5 true (b.drop k) = none := by
      rw [hrd, hnil, show 5 - i = (4 - i) + 1 by omega]; rfl
    have va := and127 0 (by omega)
    obtain ⟨v1, v2, v3, v4⟩ := vals 0 (by omega)
    have z0 : ((0 : Nat) : Int) = 0 := rfl
    have va' : bitsA .and .u8 0 127 = some 0 := va
    have v1' : IntKind.u64.wrap 0 = 0 := rfl
    have v2' : IntKind.u64.wrap (0 * 2 ^ (7 * i)) = 0 := by rw [Int.zero_mul]; rfl
    have v3' : bitsA .or .u64 (n : Int) 0 = some (n : Int) := by simpa using v3
    simp -implicitDefEqProofs only [go_skip, go_label, go_exit, go_ret, go_seq, go_block, go_cond, go_region, go_loop, go_dregion, fin_nil, fin_seq_n, fin_seq_e, fin_seq_r, fin_seq_p, fin_blk_n, fin_blk_e, fin_blk_r, fin_blk_p, rg_nil, rg_cons, gK_t, gK_f, aK_op, aK_call, oK_val, oK_skip, fK_go, rK_ret, cK_t, cK_f, dg_nil, dg_cons, dGK_t, dGK_f, dAK_op, dS_q, dS_l, dS_w, dAK_call, dLK_go, dLK2_fp, dLK2_op, dQK_val, dOK_val, dOK_skip, dFK_go, dRK_ret, then_n, then_e, then_r, then_p, guardOk, opEv, oev, oevs, ofV_int, ofV_bool, ofV_str, ofV_nilS, ofV_nilP, ofV_nilM, ofV_nilF, ofV_nilI, List.toList_toArray, eget, setE, dropE, edel, penv, AOp.quiet, AOp.isLoad, pendOk, pendKeep, Nat.reduceEqDiff, ↓reduceIte, reduceCtorEq, bt1, bt2, bt3, bt4, b_add, b_sub, b_mul, b_eql, b_neq, b_lss, b_leq, b_gtr, b_geq, addA, ptr_fp, rel_fp, take1, List.drop_zero, List.drop_succ_cons, List.cons_append, List.nil_append, List.append_nil, Bool.not_true, Bool.not_false, decide_true, decide_false, true_and, and_true, Fin_ret, Fin_normal, rvsEv, rvEv, ex_some, resV, post_fin, takeV, cellsOf, AV.plain, and_self, List.take_succ_cons, List.take_zero, List.length_cons, List.length_nil, Nat.reduceAdd, Nat.reduceLeDiff, Nat.zero_add, Nat.add_zero, Nat.le_refl, List.getElem?_cons_zero, List.getElem?_cons_succ, partsE, partsE3, fillE, fillA, List.replicate_succ, List.replicate_zero, List.set_cons_zero, List.set_cons_succ, Nat.reduceLT, Nat.zero_lt_one, eq_self, List.contains_cons, List.contains_nil, Nat.reduceBEq, Bool.or_false, Bool.or_self, Bool.false_or, Bool.true_or, Bool.or_true, g3, va', v1', b_and, f1, f2, b_shl _ _ _ _ f0, IntKind.bits, Int.toNat_natCast, mn, v2', b_or, v3', Option.map_some, unA, R34]
    exact failR _ _ _ (Nat.le_trans hnx hn') hki k4 kk hnone
end Go.Proofs.Ytmnlfgnpmpebmaa
