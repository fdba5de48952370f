/- Packed tables, read back: the reference. -/
import Derived.Test.YtmnlfgnpmpebmaaRW14
namespace Go.Proofs.Ytmnlfgnpmpebmaa
open Go Go.Ab Go.Proofs
set_option linter.unusedVariables false
set_option linter.unusedSimpArgs false
set_option maxRecDepth 20000

/-- A number of at most so many bytes. -/
def rdL : Nat → List Nat → Option (Nat × Nat)
  | 0, _ => none
  | _ + 1, [] => none
  | k + 1, x :: s => if x < 128 then some (x, 1) else (rdL k s).map fun p => (x % 128 + 128 * p.1, p.2 + 1)
theorem rdL_of_rdN : ∀ (k j : Nat) (f : Bool) (s : List Nat) (p : Nat × Nat), rdN k f s = some p → rdL (k + j) s = some p
  | 0, j, f, s, p, h => by simp [rdN] at h
  | k + 1, j, f, [], p, h => by simp [rdN] at h
  | k + 1, j, f, x :: s, p, h => by
    rw [show k + 1 + j = (k + j) + 1 by omega]
    simp only [rdN] at h
    simp only [rdL]
    split at h
    · cases h
    · split at h
      · rename_i h2; rw [if_pos h2]; exact h
      · rename_i h2
        rw [if_neg h2]
        obtain ⟨q, hq, he⟩ := Option.map_eq_some_iff.1 h
        rw [rdL_of_rdN k j false s q hq]
        simp only [Option.map_some, he]
theorem rdL_bnd : ∀ (k : Nat) (s : List Nat) (m c : Nat), rdL k s = some (m, c) → c ≤ s.length ∧ m < 128 ^ k
  | 0, s, m, c, h => by simp [rdL] at h
  | k + 1, [], m, c, h => by simp [rdL] at h
  | k + 1, x :: s, m, c, h => by
    have hp : 128 ≤ 128 ^ (k + 1) := by
      rw [Nat.pow_succ]
      have := Nat.pos_of_ne_zero (show 128 ^ k ≠ 0 from Nat.pos_iff_ne_zero.1 (Nat.pow_pos (by omega)))
      omega
    simp only [rdL] at h
    split at h
    · injection h with h; injection h with e1 e2; subst e1; subst e2
      exact ⟨by simp, by omega⟩
    · obtain ⟨⟨m', c'⟩, hr, he⟩ := Option.map_eq_some_iff.1 h
      injection he with e1 e2
      simp only at e1 e2
      subst e1; subst e2
      obtain ⟨r1, r2⟩ := rdL_bnd k s m' c' hr
      refine ⟨by simp; omega, ?_⟩
      rw [Nat.pow_succ]; omega
def rdA (b : List Nat) (k : Nat) : Nat × Nat × Bool := match rdL 6 (b.drop k) with
  | some (m, c) => (m, k + c, true)
  | none => (0, 0, false)
theorem w36 (b : List Nat) (k : Nat) (hby : ∀ x ∈ b, x < 256) (hbl : b.length ≤ 1000000) (hk : k ≤ 2000000) : Pure Try.prog 36 [bytesA b, .int .i64 k] (.tup [.int .u64 ((rdA b k).1 : Nat), .int .i64 ((rdA b k).2.1 : Nat), .bool (rdA b k).2.2]) := by
  refine Pure.of fun nx => ?_
  obtain ⟨Qv, hQ⟩ : ∃ Qv : AE → Heap → Nat → Prop, Qv = fun y _ _ => y = AE.ret (.tup [.int .u64 ((rdA b k).1 : Nat), .int .i64 ((rdA b k).2.1 : Nat), .bool (rdA b k).2.2]) := ⟨_, rfl⟩
  rw [← hQ]
  have failR : ∀ h n, rdL 6 (b.drop k) = none → Qv (.ret (.tup [.int .u64 0, .int .i64 0, .bool false])) h n := by
    intro h n hn
    have hA : rdA b k = (0, 0, false) := by unfold rdA; rw [hn]
    rw [hQ, hA]; rfl
  have okR : ∀ h n (m c : Nat), rdL 6 (b.drop k) = some (m, c) → Qv (.ret (.tup [.int .u64 (m : Int), .int .i64 ((k + c : Nat) : Int), .bool true])) h n := by
    intro h n m c hs
    have hA : rdA b k = (m, k + c, true) := by unfold rdA; rw [hs]
    rw [hQ, hA]
  have lb := bytes_len b
  refine AC.go mixed is36 (by simp) ?_
  simp -implicitDefEqProofs only [go_skip, go_label, go_exit, go_ret, go_seq, go_block, go_cond, go_region, go_loop, go_dregion, fin_nil, fin_seq_n, fin_seq_e, fin_seq_r, fin_seq_p, fin_blk_n, fin_blk_e, fin_blk_r, fin_blk_p, rg_nil, rg_cons, gK_t, gK_f, aK_op, aK_call, oK_val, oK_skip, fK_go, rK_ret, cK_t, cK_f, dg_nil, dg_cons, dGK_t, dGK_f, dAK_op, dS_q, dS_l, dS_w, dAK_call, dLK_go, dLK2_fp, dLK2_op, dQK_val, dOK_val, dOK_skip, dFK_go, dRK_ret, then_n, then_e, then_r, then_p, guardOk, opEv, oev, oevs, ofV_int, ofV_bool, ofV_str, ofV_nilS, ofV_nilP, ofV_nilM, ofV_nilF, ofV_nilI, List.toList_toArray, eget, setE, dropE, edel, penv, AOp.quiet, AOp.isLoad, pendOk, pendKeep, Nat.reduceEqDiff, ↓reduceIte, reduceCtorEq, bt1, bt2, bt3, bt4, b_add, b_sub, b_mul, b_eql, b_neq, b_lss, b_leq, b_gtr, b_geq, addA, ptr_fp, rel_fp, take1, List.drop_zero, List.drop_succ_cons, List.cons_append, List.nil_append, List.append_nil, Bool.not_true, Bool.not_false, decide_true, decide_false, true_and, and_true, Fin_ret, Fin_normal, rvsEv, rvEv, ex_some, resV, post_fin, ptrCells, reload, hget, hset, hdel, storeH, splice, takeV, cellsOf, AV.plain, and_self, List.take_succ_cons, List.take_zero, List.length_cons, List.length_nil, Nat.reduceAdd, Nat.reduceLeDiff, Nat.zero_add, Nat.add_zero, Nat.le_refl, List.getElem?_cons_zero, List.getElem?_cons_succ, partsE, partsE3, fillE, fillA, List.replicate_succ, List.replicate_zero, List.set_cons_zero, List.set_cons_succ, Nat.reduceLT, Nat.zero_lt_one, eq_self, List.contains_cons, List.contains_nil, Nat.reduceBEq, Bool.or_false, Bool.or_self, Bool.false_or, Bool.true_or, Bool.or_true, A36]
  refine go_rounds (fun q st => ∃ i n : Nat, q = 6 - i ∧ i ≤ 6 ∧ n < 2 ^ (7 * i) ∧ rdL 6 (b.drop k) = (rdL (6 - i) (b.drop (k + i))).map (fun p => (n + 2 ^ (7 * i) * p.1, p.2 + i)) ∧
      eget st.env 0 = some (bytesA b) ∧ eget st.env 1 = some (.int .i64 (k : Int)) ∧ eget st.env 7 = some (.int .u64 (n : Int)) ∧ eget st.env 8 = some (.int .i64 i) ∧ st.dm = []) (n := 6) mixed
    ⟨0, 0, rfl, by omega, by simp, by
      have : (fun p : Nat × Nat => (0 + 2 ^ (7 * 0) * p.1, p.2 + 0)) = id := by funext p; simp
      rw [this, Option.map_id]; rfl, by simp [eget], by simp [eget], by simp [eget], by simp [eget], rfl⟩ ?_
  rintro q ⟨env, heap, nx', dm⟩ ⟨i, n, rfl, hi, hn, hrd, g0, g1, g7, g8, hdm⟩
  simp only at g0 g1 g7 g8 hdm
  subst hdm
  by_cases hi6 : (i : Int) < 6
  case neg =>
    obtain rfl : i = 6 := by omega
    simp -implicitDefEqProofs only [go_skip, go_label, go_exit, go_ret, go_seq, go_block, go_cond, go_region, go_loop, go_dregion, fin_nil, fin_seq_n, fin_seq_e, fin_seq_r, fin_seq_p, fin_blk_n, fin_blk_e, fin_blk_r, fin_blk_p, rg_nil, rg_cons, gK_t, gK_f, aK_op, aK_call, oK_val, oK_skip, fK_go, rK_ret, cK_t, cK_f, dg_nil, dg_cons, dGK_t, dGK_f, dAK_op, dS_q, dS_l, dS_w, dAK_call, dLK_go, dLK2_fp, dLK2_op, dQK_val, dOK_val, dOK_skip, dFK_go, dRK_ret, then_n, then_e, then_r, then_p, guardOk, opEv, oev, oevs, ofV_int, ofV_bool, ofV_str, ofV_nilS, ofV_nilP, ofV_nilM, ofV_nilF, ofV_nilI, List.toList_toArray, eget, setE, dropE, edel, penv, AOp.quiet, AOp.isLoad, pendOk, pendKeep, Nat.reduceEqDiff, ↓reduceIte, reduceCtorEq, bt1, bt2, bt3, bt4, b_add, b_sub, b_mul, b_eql, b_neq, b_lss, b_leq, b_gtr, b_geq, addA, ptr_fp, rel_fp, take1, List.drop_zero, List.drop_succ_cons, List.cons_append, List.nil_append, List.append_nil, Bool.not_true, Bool.not_false, decide_true, decide_false, true_and, and_true, Fin_ret, Fin_normal, rvsEv, rvEv, ex_some, resV, post_fin, ptrCells, reload, hget, hset, hdel, storeH, splice, takeV, cellsOf, AV.plain, and_self, List.take_succ_cons, List.take_zero, List.length_cons, List.length_nil, Nat.reduceAdd, Nat.reduceLeDiff, Nat.zero_add, Nat.add_zero, Nat.le_refl, List.getElem?_cons_zero, List.getElem?_cons_succ, partsE, partsE3, fillE, fillA, List.replicate_succ, List.replicate_zero, List.set_cons_zero, List.set_cons_succ, Nat.reduceLT, Nat.zero_lt_one, eq_self, List.contains_cons, List.contains_nil, Nat.reduceBEq, Bool.or_false, Bool.or_self, Bool.false_or, Bool.true_or, Bool.or_true, A36l0, g8, hi6, R36]
    exact failR _ _ (by rw [hrd]; simp [rdL])
  have f4 : IntKind.i64.wrap ((k : Int) + (i : Int)) = ((k + i : Nat) : Int) := by rw [w64 (by omega) (by omega)]; omega
  by_cases hki : ((k + i : Nat) : Int) < (b.length : Int)
  case neg =>
    simp -implicitDefEqProofs only [go_skip, go_label, go_exit, go_ret, go_seq, go_block, go_cond, go_region, go_loop, go_dregion, fin_nil, fin_seq_n, fin_seq_e, fin_seq_r, fin_seq_p, fin_blk_n, fin_blk_e, fin_blk_r, fin_blk_p, rg_nil, rg_cons, gK_t, gK_f, aK_op, aK_call, oK_val, oK_skip, fK_go, rK_ret, cK_t, cK_f, dg_nil, dg_cons, dGK_t, dGK_f, dAK_op, dS_q, dS_l, dS_w, dAK_call, dLK_go, dLK2_fp, dLK2_op, dQK_val, dOK_val, dOK_skip, dFK_go, dRK_ret, then_n, then_e, then_r, then_p, guardOk, opEv, oev, oevs, ofV_int, ofV_bool, ofV_str, ofV_nilS, ofV_nilP, ofV_nilM, ofV_nilF, ofV_nilI, List.toList_toArray, eget, setE, dropE, edel, penv, AOp.quiet, AOp.isLoad, pendOk, pendKeep, Nat.reduceEqDiff, ↓reduceIte, reduceCtorEq, bt1, bt2, bt3, bt4, b_add, b_sub, b_mul, b_eql, b_neq, b_lss, b_leq, b_gtr, b_geq, addA, ptr_fp, rel_fp, take1, List.drop_zero, List.drop_succ_cons, List.cons_append, List.nil_append, List.append_nil, Bool.not_true, Bool.not_false, decide_true, decide_false, true_and, and_true, Fin_ret, Fin_normal, rvsEv, rvEv, ex_some, resV, post_fin, ptrCells, reload, hget, hset, hdel, storeH, splice, takeV, cellsOf, AV.plain, and_self, List.take_succ_cons, List.take_zero, List.length_cons, List.length_nil, Nat.reduceAdd, Nat.reduceLeDiff, Nat.zero_add, Nat.add_zero, Nat.le_refl, List.getElem?_cons_zero, List.getElem?_cons_succ, partsE, partsE3, fillE, fillA, List.replicate_succ, List.replicate_zero, List.set_cons_zero, List.set_cons_succ, Nat.reduceLT, Nat.zero_lt_one, eq_self, List.contains_cons, List.contains_nil, Nat.reduceBEq, Bool.or_false, Bool.or_self, Bool.false_or, Bool.true_or, Bool.or_true, A36l0, g0, g1, g8, hi6, f4, lb, hki, R36]
    refine failR _ _ ?_
    rw [hrd, List.drop_eq_nil_of_le (by omega), show 6 - i = (5 - i) + 1 by omega]; rfl
  have hx := List.getElem?_eq_getElem (show k + i < b.length by omega)
  generalize b[k + i] = x at hx
  have hix := bytes_idx hx
  have hx256 := hby x (List.mem_of_getElem? hx)
  have p0 : (2 : Nat) ^ (7 * i) ≤ 2 ^ 35 := Nat.pow_le_pow_right (by omega) (by omega)
  have pp : (2 : Nat) ^ (7 * (i + 1)) = 2 ^ (7 * i) * 128 := by rw [show 7 * (i + 1) = 7 * i + 7 by omega, Nat.pow_add]
  have f1 : IntKind.i64.wrap (7 * (i : Int)) = ((7 * i : Nat) : Int) := by rw [w64 (by omega) (by omega)]; omega
  have f2 : IntKind.u64.wrap ((7 * i : Nat) : Int) = ((7 * i : Nat) : Int) := wu _ (by omega) (by omega)
  have f3 : IntKind.i64.wrap ((i : Int) + 1) = ((i + 1 : Nat) : Int) := by rw [w64 (by omega) (by omega)]; omega
  have f0 : (0 : Int) ≤ ((7 * i : Nat) : Int) := Int.natCast_nonneg _
  have mn : min (7 * i) 64 = 7 * i := by omega
  have hb : x % 128 * 2 ^ (7 * i) ≤ 127 * 2 ^ (7 * i) := Nat.mul_le_mul_right _ (by omega)
  have hcast : ((x % 128 : Nat) : Int) * 2 ^ (7 * i) = ((x % 128 * 2 ^ (7 * i) : Nat) : Int) := by simp
  have v0 : (x : Int).tmod 128 = ((x % 128 : Nat) : Int) := by rw [Int.tmod_eq_emod_of_nonneg (Int.natCast_nonneg _)]; omega
  have v1 : IntKind.u64.wrap ((x % 128 : Nat) : Int) = ((x % 128 : Nat) : Int) := wu _ (by omega) (by omega)
  have v2 : IntKind.u64.wrap (((x % 128 : Nat) : Int) * 2 ^ (7 * i)) = ((x % 128 * 2 ^ (7 * i) : Nat) : Int) := by rw [hcast, wu _ (by omega) (by omega)]
  have v3 : IntKind.u64.wrap ((n : Int) + ((x % 128 * 2 ^ (7 * i) : Nat) : Int)) = ((n + x % 128 * 2 ^ (7 * i) : Nat) : Int) := by rw [wu _ (by omega) (by omega)]; omega
  have v4 : n + x % 128 * 2 ^ (7 * i) < 2 ^ (7 * (i + 1)) := by rw [pp]; omega
  have hki2 := (List.getElem?_eq_some_iff.1 hx).1
  have hdr : b.drop (k + i) = x :: b.drop (k + (i + 1)) := by
    rw [List.drop_eq_getElem_cons hki2, (List.getElem?_eq_some_iff.1 hx).2]; rfl
  rw [hdr, show 6 - i = (5 - i) + 1 by omega] at hrd
  simp only [rdL] at hrd
  by_cases h128 : (x : Int) < 128
  · rw [if_pos (by omega)] at hrd
    have f5 : IntKind.i64.wrap (((k + i : Nat) : Int) + 1) = ((k + (i + 1) : Nat) : Int) := by rw [w64 (by omega) (by omega)]; omega
    simp -implicitDefEqProofs only [go_skip, go_label, go_exit, go_ret, go_seq, go_block, go_cond, go_region, go_loop, go_dregion, fin_nil, fin_seq_n, fin_seq_e, fin_seq_r, fin_seq_p, fin_blk_n, fin_blk_e, fin_blk_r, fin_blk_p, rg_nil, rg_cons, gK_t, gK_f, aK_op, aK_call, oK_val, oK_skip, fK_go, rK_ret, cK_t, cK_f, dg_nil, dg_cons, dGK_t, dGK_f, dAK_op, dS_q, dS_l, dS_w, dAK_call, dLK_go, dLK2_fp, dLK2_op, dQK_val, dOK_val, dOK_skip, dFK_go, dRK_ret, then_n, then_e, then_r, then_p, guardOk, opEv, oev, oevs, ofV_int, ofV_bool, ofV_str, ofV_nilS, ofV_nilP, ofV_nilM, ofV_nilF, ofV_nilI, List.toList_toArray, eget, setE, dropE, edel, penv, AOp.quiet, AOp.isLoad, pendOk, pendKeep, Nat.reduceEqDiff, ↓reduceIte, reduceCtorEq, bt1, bt2, bt3, bt4, b_add, b_sub, b_mul, b_eql, b_neq, b_lss, b_leq, b_gtr, b_geq, addA, ptr_fp, rel_fp, take1, List.drop_zero, List.drop_succ_cons, List.cons_append, List.nil_append, List.append_nil, Bool.not_true, Bool.not_false, decide_true, decide_false, true_and, and_true, Fin_ret, Fin_normal, rvsEv, rvEv, ex_some, resV, post_fin, ptrCells, reload, hget, hset, hdel, storeH, splice, takeV, cellsOf, AV.plain, and_self, List.take_succ_cons, List.take_zero, List.length_cons, List.length_nil, Nat.reduceAdd, Nat.reduceLeDiff, Nat.zero_add, Nat.add_zero, Nat.le_refl, List.getElem?_cons_zero, List.getElem?_cons_succ, partsE, partsE3, fillE, fillA, List.replicate_succ, List.replicate_zero, List.set_cons_zero, List.set_cons_succ, Nat.reduceLT, Nat.zero_lt_one, eq_self, List.contains_cons, List.contains_nil, Nat.reduceBEq, Bool.or_false, Bool.or_self, Bool.false_or, Bool.true_or, Bool.or_true, A36l0, g0, g1, g7, g8, hi6, f4, lb, hki, hix, byE, b_rem _ _ _ (show (128 : Int) ≠ 0 by decide), v0, v1, f1, f2, b_shl _ _ _ _ f0, IntKind.bits, Int.toNat_natCast, mn, v2, v3, h128, f5, R36]
    refine okR _ _ _ _ ?_
    rw [hrd]; simp only [Option.map_some]
    congr 1
    apply Prod.ext
    · simp only; rw [Nat.mod_eq_of_lt (by omega), Nat.mul_comm]
    · simp only; omega
  · rw [if_neg (by omega)] at hrd
    simp -implicitDefEqProofs only [go_skip, go_label, go_exit, go_ret, go_seq, go_block, go_cond, go_region, go_loop, go_dregion, fin_nil, fin_seq_n, fin_seq_e, fin_seq_r, fin_seq_p, fin_blk_n, fin_blk_e, fin_blk_r, fin_blk_p, rg_nil, rg_cons, gK_t, gK_f, aK_op, aK_call, oK_val, oK_skip, fK_go, rK_ret, cK_t, cK_f, dg_nil, dg_cons, dGK_t, dGK_f, dAK_op, dS_q, dS_l, dS_w, dAK_call, dLK_go, dLK2_fp, dLK2_op, dQK_val, dOK_val, dOK_skip, dFK_go, dRK_ret, then_n, then_e, then_r, then_p, guardOk, opEv, oev, oevs, ofV_int, ofV_bool, ofV_str, ofV_nilS, ofV_nilP, ofV_nilM, ofV_nilF, ofV_nilI, List.toList_toArray, eget, setE, dropE, edel, penv, AOp.quiet, AOp.isLoad, pendOk, pendKeep, Nat.reduceEqDiff, ↓reduceIte, reduceCtorEq, bt1, bt2, bt3, bt4, b_add, b_sub, b_mul, b_eql, b_neq, b_lss, b_leq, b_gtr, b_geq, addA, ptr_fp, rel_fp, take1, List.drop_zero, List.drop_succ_cons, List.cons_append, List.nil_append, List.append_nil, Bool.not_true, Bool.not_false, decide_true, decide_false, true_and, and_true, Fin_ret, Fin_normal, rvsEv, rvEv, ex_some, resV, post_fin, ptrCells, reload, hget, hset, hdel, storeH, splice, takeV, cellsOf, AV.plain, and_self, List.take_succ_cons, List.take_zero, List.length_cons, List.length_nil, Nat.reduceAdd, Nat.reduceLeDiff, Nat.zero_add, Nat.add_zero, Nat.le_refl, List.getElem?_cons_zero, List.getElem?_cons_succ, partsE, partsE3, fillE, fillA, List.replicate_succ, List.replicate_zero, List.set_cons_zero, List.set_cons_succ, Nat.reduceLT, Nat.zero_lt_one, eq_self, List.contains_cons, List.contains_nil, Nat.reduceBEq, Bool.or_false, Bool.or_self, Bool.false_or, Bool.true_or, Bool.or_true, A36l0, g0, g1, g7, g8, hi6, f4, lb, hki, hix, byE, b_rem _ _ _ (show (128 : Int) ≠ 0 by decide), v0, v1, f1, f2, b_shl _ _ _ _ f0, IntKind.bits, Int.toNat_natCast, mn, v2, v3, h128, f3]
    refine ⟨6 - (i + 1), by omega, i + 1, n + x % 128 * 2 ^ (7 * i), rfl, by omega, v4, ?_, ?_⟩
    · rw [hrd, show 6 - (i + 1) = 5 - i by omega, Option.map_map]
      congr 1
      funext p
      simp only [Function.comp, pp]
      apply Prod.ext
      · simp only [Nat.mul_add, Nat.mul_assoc]; rw [Nat.mul_comm (x % 128)]; omega
      · simp only; omega
    · repeat' apply And.intro
      all_goals first | assumption | rfl | omega | (simp [eget, *]; done)
end Go.Proofs.Ytmnlfgnpmpebmaa
