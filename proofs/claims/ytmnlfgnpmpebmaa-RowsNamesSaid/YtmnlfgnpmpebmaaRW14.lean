/- Packed tables, read back: the program. -/
import Derived.Test.YtmnlfgnpmpebmaaRW13
namespace Go.Proofs.Ytmnlfgnpmpebmaa
open Go Go.Ab Go.Proofs
set_option linter.unusedVariables false
set_option linter.unusedSimpArgs false
set_option maxRecDepth 20000

theorem Rdd.last {b : List Nat} {l : List (Int × Int)} {k : Nat} (h : Rdd b l k) : 0 ≤ (prevR l l.length).1 ∧ (prevR l l.length).1 ≤ (l.length : Int) * 34359738368 ∧ -((l.length : Int) * 34359738368) ≤ (prevR l l.length).2 ∧ (prevR l l.length).2 ≤ (l.length : Int) * 34359738368 := by
  cases hl : l.length with
  | zero => simp [prevR]
  | succ m =>
    have hm := List.getElem?_eq_getElem (show m < l.length by omega)
    rw [prevR_succ hm]
    have := h.bnd m _ hm
    have e : ((m + 1 : Nat) : Int) = (m : Int) + 1 := by omega
    rw [e]; exact this
theorem plain_bytes (l : List Nat) : (bytesA l).plain = true := rfl
theorem cells_bytes (l : List Nat) : cellsOf (bytesA l) = [bytesA l] := rfl
theorem Rdd.wf {b : List Nat} {l : List (Int × Int)} {k : Nat} (h : Rdd b l k) (hl : l.length ≤ 2000) : wfR l := fun r hr => by
  obtain ⟨j, hj⟩ := List.getElem?_of_mem hr
  obtain ⟨a1, a2, _, _⟩ := h.bnd j r hj
  have hjl := (List.getElem?_eq_some_iff.1 hj).1
  have : ((j : Int) + 1) * 34359738368 ≤ 2001 * 34359738368 := Int.mul_le_mul_of_nonneg_right (by omega) (by omega)
  omega

theorem w22 (b : List Nat) (out : List (Int × Int)) (e : Int) (hby : ∀ x ∈ b, x < 256) (hbl : b.length ≤ 1000000) (hu : Unp b out e) : Pure Try.prog 22 [bytesA b] (.tup [rowsA out, .int .i64 e]) := by
  refine Pure.frz fun N => ?_
  obtain ⟨Qv, hQ⟩ : ∃ Qv : AE → Heap → Nat → Prop, Qv = fun y h' n' => ∃ v h2, y = .ret v ∧ Frz h' v h2 (.tup [rowsA out, .int .i64 e]) := ⟨_, rfl⟩
  rw [← hQ]
  have bad : ∀ (h : Heap) (n : Nat), Non b → Qv (.ret (.tup [.nilS, .int .i64 12])) h n := by
    intro h n hn
    obtain ⟨e1, e2⟩ := hu.non hn
    rw [hQ, e1, e2]
    exact ⟨_, _, rfl, Frz.head (Frz.nilS _ _)⟩
  have lb := bytes_len b
  refine AC.go mixed is22 (by simp) ?_
  simp -implicitDefEqProofs only [go_skip, go_label, go_exit, go_ret, go_seq, go_block, go_cond, go_region, go_loop, go_dregion, fin_nil, fin_seq_n, fin_seq_e, fin_seq_r, fin_seq_p, fin_blk_n, fin_blk_e, fin_blk_r, fin_blk_p, rg_nil, rg_cons, gK_t, gK_f, aK_op, aK_call, oK_val, oK_skip, fK_go, rK_ret, cK_t, cK_f, dg_nil, dg_cons, dGK_t, dGK_f, dAK_op, dS_q, dS_l, dS_w, dAK_call, dLK_go, dLK2_fp, dLK2_op, dQK_val, dOK_val, dOK_skip, dFK_go, dRK_ret, then_n, then_e, then_r, then_p, guardOk, opEv, oev, oevs, ofV_int, ofV_bool, ofV_str, ofV_nilS, ofV_nilP, ofV_nilM, ofV_nilF, ofV_nilI, List.toList_toArray, eget, setE, dropE, edel, penv, AOp.quiet, AOp.isLoad, pendOk, pendKeep, Nat.reduceEqDiff, ↓reduceIte, reduceCtorEq, bt1, bt2, bt3, bt4, b_add, b_sub, b_mul, b_eql, b_neq, b_lss, b_leq, b_gtr, b_geq, addA, ptr_fp, rel_fp, take1, List.drop_zero, List.drop_succ_cons, List.cons_append, List.nil_append, List.append_nil, Bool.not_true, Bool.not_false, decide_true, decide_false, true_and, and_true, Fin_ret, Fin_normal, rvsEv, rvEv, ex_some, resV, post_fin, ptrCells, reload, hget, hset, hdel, storeH, splice, takeV, cellsOf, AV.plain, and_self, List.take_succ_cons, List.take_zero, List.length_cons, List.length_nil, Nat.reduceAdd, Nat.reduceLeDiff, Nat.zero_add, Nat.add_zero, Nat.le_refl, List.getElem?_cons_zero, List.getElem?_cons_succ, partsE, partsE3, fillE, fillA, List.replicate_succ, List.replicate_zero, List.set_cons_zero, List.set_cons_succ, Nat.reduceLT, Nat.zero_lt_one, eq_self, List.contains_cons, List.contains_nil, Nat.reduceBEq, Bool.or_false, Bool.or_self, Bool.false_or, Bool.true_or, Bool.or_true, A22, ↓plain_bytes, ↓cells_bytes, oevs]
  have n1' : ¬ (N + 1 + 1 + 1 = N) := by omega
  have n2' : ¬ (N + 1 + 1 = N) := by omega
  have n3' : ¬ (N + 1 + 1 + 1 = N + 1) := by omega
  refine go_roundsF (fun q st => ∃ (l : List (Int × Int)) (k : Nat) (v : AV), Rdd b l k ∧ q = b.length - k ∧ eget st.env 1 = some (.op N 0) ∧ eget st.env 4 = some (.op (N + 1) 0) ∧ eget st.env 5 = some (.op (N + 2) 0) ∧ eget st.env 6 = some (.fn (.func 34) [.op (N + 2) 0]) ∧ eget st.env 7 = some v ∧ eget st.env 8 = some (.op (N + 3) 0) ∧
      hget st.heap N = some (.cells [bytesA b]) ∧ hget st.heap (N + 1) = some (.cells [.int .i64 (k : Int)]) ∧ hget st.heap (N + 2) = some (.cells [.fn (.func 33) [.op (N + 1) 0, .op N 0]]) ∧ hget st.heap (N + 3) = some (.cells (rowE (prevR l l.length))) ∧ OwnSl 40 2 st.heap st.nx v (l.map rowE) ∧
      blkOf v ≠ some N ∧ blkOf v ≠ some (N + 1) ∧ blkOf v ≠ some (N + 2) ∧ blkOf v ≠ some (N + 3) ∧ N + 4 ≤ st.nx ∧ st.dm = [])
    0 (fun st => ∃ (l : List (Int × Int)) (k : Nat) (v : AV) (s : List Nat), Rdd b l k ∧ b.drop k = 0 :: s ∧ l.length ≤ 1000 ∧ eget st.env 1 = some (.op N 0) ∧ eget st.env 4 = some (.op (N + 1) 0) ∧ eget st.env 7 = some v ∧ hget st.heap N = some (.cells [bytesA b]) ∧ hget st.heap (N + 1) = some (.cells [.int .i64 ((k + 1 : Nat) : Int)]) ∧ OwnSl 40 2 st.heap st.nx v (l.map rowE) ∧
      blkOf v ≠ some N ∧ blkOf v ≠ some (N + 1) ∧ st.dm = []) (n := b.length) mixed
    ⟨[], 0, .nilS, Rdd.init b, rfl, by simp [eget], by simp [eget], by simp [eget], by simp [eget], by simp [eget], by simp [eget], by simp [hget, n1', n2'], by simp [hget, n2', n3'], by simp [hget], by simp [hget, prevR, rowE], .inl ⟨rfl, rfl⟩, by simp [blkOf], by simp [blkOf], by simp [blkOf], by simp [blkOf], by simp, rfl⟩ ?_ ?_
  · rintro q ⟨env, heap, nx', dm⟩ ⟨l, k, v, hrd, rfl, a1e, a4e, a5e, a6e, a7e, a8e, k1, k4, k5, k8, ho, b1, b4, b5, b8, hnx, hdm⟩
    simp only at a1e a4e a5e a6e a7e a8e k1 k4 k5 k8 ho hnx hdm
    subst hdm
    have lv := ho.len
    rw [List.length_map] at lv
    have q5 : ptrCells heap (.op (N + 2) 0) = some [.fn (.func 33) [.op (N + 1) 0, .op N 0]] := by simp only [ptrCells, k5]; rfl
    simp -implicitDefEqProofs only [go_skip, go_label, go_exit, go_ret, go_seq, go_block, go_cond, go_region, go_loop, go_dregion, fin_nil, fin_seq_n, fin_seq_e, fin_seq_r, fin_seq_p, fin_blk_n, fin_blk_e, fin_blk_r, fin_blk_p, rg_nil, rg_cons, gK_t, gK_f, aK_op, aK_call, oK_val, oK_skip, fK_go, rK_ret, cK_t, cK_f, dg_nil, dg_cons, dGK_t, dGK_f, dAK_op, dS_q, dS_l, dS_w, dAK_call, dLK_go, dLK2_fp, dLK2_op, dQK_val, dOK_val, dOK_skip, dFK_go, dRK_ret, then_n, then_e, then_r, then_p, guardOk, opEv, oev, oevs, ofV_int, ofV_bool, ofV_str, ofV_nilS, ofV_nilP, ofV_nilM, ofV_nilF, ofV_nilI, List.toList_toArray, eget, setE, dropE, edel, penv, AOp.quiet, AOp.isLoad, pendOk, pendKeep, Nat.reduceEqDiff, ↓reduceIte, reduceCtorEq, bt1, bt2, bt3, bt4, b_add, b_sub, b_mul, b_eql, b_neq, b_lss, b_leq, b_gtr, b_geq, addA, ptr_fp, rel_fp, take1, List.drop_zero, List.drop_succ_cons, List.cons_append, List.nil_append, List.append_nil, Bool.not_true, Bool.not_false, decide_true, decide_false, true_and, and_true, Fin_ret, Fin_normal, rvsEv, rvEv, ex_some, resV, post_fin, takeV, cellsOf, AV.plain, and_self, List.take_succ_cons, List.take_zero, List.length_cons, List.length_nil, Nat.reduceAdd, Nat.reduceLeDiff, Nat.zero_add, Nat.add_zero, Nat.le_refl, List.getElem?_cons_zero, List.getElem?_cons_succ, partsE, partsE3, fillE, fillA, List.replicate_succ, List.replicate_zero, List.set_cons_zero, List.set_cons_succ, Nat.reduceLT, Nat.zero_lt_one, eq_self, List.contains_cons, List.contains_nil, Nat.reduceBEq, Bool.or_false, Bool.or_self, Bool.false_or, Bool.true_or, Bool.or_true, A22l0, a5e, q5, oevs]
    refine (w33 b (N + 1) N heap nx' k k4 k1 (by omega) hrd.le hbl).mono ?_
    rintro y hh n1 ⟨hn1, hcase⟩
    rcases hcase with ⟨x, hx, rfl, rfl⟩ | ⟨hend, rfl, rfl⟩
    · have hx256 := hby x (List.mem_of_getElem? hx)
      have hkl := (List.getElem?_eq_some_iff.1 hx).1
      have hdr : b.drop k = x :: b.drop (k + 1) := by
        rw [List.drop_eq_getElem_cons hkl, (List.getElem?_eq_some_iff.1 hx).2]
      have kk : ∀ c, c ≠ N + 1 → hget ((N + 1, AO.cells [.int .i64 ((k + 1 : Nat) : Int)]) :: heap) c = hget heap c := fun c h => by rw [hget_cons, if_neg (fun e => h e.symm)]
      have X4 : hget ((N + 1, AO.cells [.int .i64 ((k + 1 : Nat) : Int)]) :: heap) (N + 1) = some (.cells [.int .i64 ((k + 1 : Nat) : Int)]) := by rw [hget_cons, if_pos rfl]
      have X1 := (kk N (by omega)).trans k1
      have X5 := (kk (N + 2) (by omega)).trans k5
      have X8 := (kk (N + 3) (by omega)).trans k8
      have XO : OwnSl 40 2 ((N + 1, AO.cells [.int .i64 ((k + 1 : Nat) : Int)]) :: heap) n1 v (l.map rowE) := ho.keep hn1 fun b' o' hb hg => by
        rw [kk b' (fun h => b4 (by rw [← h]; exact hb))]; exact hg
      clear kk
      generalize ((N + 1, AO.cells [.int .i64 ((k + 1 : Nat) : Int)]) :: heap : Heap) = H2 at *
      have badx : x ≠ 0 → ∀ x' s, b.drop k = x' :: s → x' ≠ 0 := by
        intro h x' s hs
        rw [hdr] at hs; injection hs with hs; omega
      by_cases hA : (1 : Int) < (x : Int) ∧ (x : Int) < 32
      · obtain ⟨h1, h32⟩ := hA
        have hbad : Non b := hrd.fail (badx (by omega)) (by rw [hdr]; simp only [rdRow]; rw [if_neg (by omega), if_neg (by omega)])
        simp -implicitDefEqProofs only [go_skip, go_label, go_exit, go_ret, go_seq, go_block, go_cond, go_region, go_loop, go_dregion, fin_nil, fin_seq_n, fin_seq_e, fin_seq_r, fin_seq_p, fin_blk_n, fin_blk_e, fin_blk_r, fin_blk_p, rg_nil, rg_cons, gK_t, gK_f, aK_op, aK_call, oK_val, oK_skip, fK_go, rK_ret, cK_t, cK_f, dg_nil, dg_cons, dGK_t, dGK_f, dAK_op, dS_q, dS_l, dS_w, dAK_call, dLK_go, dLK2_fp, dLK2_op, dQK_val, dOK_val, dOK_skip, dFK_go, dRK_ret, then_n, then_e, then_r, then_p, guardOk, opEv, oev, oevs, ofV_int, ofV_bool, ofV_str, ofV_nilS, ofV_nilP, ofV_nilM, ofV_nilF, ofV_nilI, List.toList_toArray, eget, setE, dropE, edel, penv, AOp.quiet, AOp.isLoad, pendOk, pendKeep, Nat.reduceEqDiff, ↓reduceIte, reduceCtorEq, bt1, bt2, bt3, bt4, b_add, b_sub, b_mul, b_eql, b_neq, b_lss, b_leq, b_gtr, b_geq, addA, ptr_fp, rel_fp, take1, List.drop_zero, List.drop_succ_cons, List.cons_append, List.nil_append, List.append_nil, Bool.not_true, Bool.not_false, decide_true, decide_false, true_and, and_true, Fin_ret, Fin_normal, rvsEv, rvEv, ex_some, resV, post_fin, takeV, cellsOf, AV.plain, and_self, List.take_succ_cons, List.take_zero, List.length_cons, List.length_nil, Nat.reduceAdd, Nat.reduceLeDiff, Nat.zero_add, Nat.add_zero, Nat.le_refl, List.getElem?_cons_zero, List.getElem?_cons_succ, partsE, partsE3, fillE, fillA, List.replicate_succ, List.replicate_zero, List.set_cons_zero, List.set_cons_succ, Nat.reduceLT, Nat.zero_lt_one, eq_self, List.contains_cons, List.contains_nil, Nat.reduceBEq, Bool.or_false, Bool.or_self, Bool.false_or, Bool.true_or, Bool.or_true, exitJ_e, exitJ_r, exitJ_p, exitJ_n, unA, h1, h32, R22]
        exact bad _ _ hbad
      have cases3 : ((x : Int) = 0 ∧ ¬ (1 : Int) < (x : Int)) ∨ ((x : Int) = 1 ∧ ¬ (1 : Int) < (x : Int)) ∨ ((1 : Int) < (x : Int) ∧ ¬ (x : Int) < 32) := by omega
      by_cases hm : (1000 : Int) < (l.length : Int)
      · have hbad : Non b := hrd.many (by omega)
        rcases cases3 with ⟨_, h1⟩ | ⟨_, h1⟩ | ⟨h1, h32⟩
        · simp -implicitDefEqProofs only [go_skip, go_label, go_exit, go_ret, go_seq, go_block, go_cond, go_region, go_loop, go_dregion, fin_nil, fin_seq_n, fin_seq_e, fin_seq_r, fin_seq_p, fin_blk_n, fin_blk_e, fin_blk_r, fin_blk_p, rg_nil, rg_cons, gK_t, gK_f, aK_op, aK_call, oK_val, oK_skip, fK_go, rK_ret, cK_t, cK_f, dg_nil, dg_cons, dGK_t, dGK_f, dAK_op, dS_q, dS_l, dS_w, dAK_call, dLK_go, dLK2_fp, dLK2_op, dQK_val, dOK_val, dOK_skip, dFK_go, dRK_ret, then_n, then_e, then_r, then_p, guardOk, opEv, oev, oevs, ofV_int, ofV_bool, ofV_str, ofV_nilS, ofV_nilP, ofV_nilM, ofV_nilF, ofV_nilI, List.toList_toArray, eget, setE, dropE, edel, penv, AOp.quiet, AOp.isLoad, pendOk, pendKeep, Nat.reduceEqDiff, ↓reduceIte, reduceCtorEq, bt1, bt2, bt3, bt4, b_add, b_sub, b_mul, b_eql, b_neq, b_lss, b_leq, b_gtr, b_geq, addA, ptr_fp, rel_fp, take1, List.drop_zero, List.drop_succ_cons, List.cons_append, List.nil_append, List.append_nil, Bool.not_true, Bool.not_false, decide_true, decide_false, true_and, and_true, Fin_ret, Fin_normal, rvsEv, rvEv, ex_some, resV, post_fin, takeV, cellsOf, AV.plain, and_self, List.take_succ_cons, List.take_zero, List.length_cons, List.length_nil, Nat.reduceAdd, Nat.reduceLeDiff, Nat.zero_add, Nat.add_zero, Nat.le_refl, List.getElem?_cons_zero, List.getElem?_cons_succ, partsE, partsE3, fillE, fillA, List.replicate_succ, List.replicate_zero, List.set_cons_zero, List.set_cons_succ, Nat.reduceLT, Nat.zero_lt_one, eq_self, List.contains_cons, List.contains_nil, Nat.reduceBEq, Bool.or_false, Bool.or_self, Bool.false_or, Bool.true_or, Bool.or_true, exitJ_e, exitJ_r, exitJ_p, exitJ_n, unA, h1, a7e, lv, hm, R22]
          exact bad _ _ hbad
        · simp -implicitDefEqProofs only [go_skip, go_label, go_exit, go_ret, go_seq, go_block, go_cond, go_region, go_loop, go_dregion, fin_nil, fin_seq_n, fin_seq_e, fin_seq_r, fin_seq_p, fin_blk_n, fin_blk_e, fin_blk_r, fin_blk_p, rg_nil, rg_cons, gK_t, gK_f, aK_op, aK_call, oK_val, oK_skip, fK_go, rK_ret, cK_t, cK_f, dg_nil, dg_cons, dGK_t, dGK_f, dAK_op, dS_q, dS_l, dS_w, dAK_call, dLK_go, dLK2_fp, dLK2_op, dQK_val, dOK_val, dOK_skip, dFK_go, dRK_ret, then_n, then_e, then_r, then_p, guardOk, opEv, oev, oevs, ofV_int, ofV_bool, ofV_str, ofV_nilS, ofV_nilP, ofV_nilM, ofV_nilF, ofV_nilI, List.toList_toArray, eget, setE, dropE, edel, penv, AOp.quiet, AOp.isLoad, pendOk, pendKeep, Nat.reduceEqDiff, ↓reduceIte, reduceCtorEq, bt1, bt2, bt3, bt4, b_add, b_sub, b_mul, b_eql, b_neq, b_lss, b_leq, b_gtr, b_geq, addA, ptr_fp, rel_fp, take1, List.drop_zero, List.drop_succ_cons, List.cons_append, List.nil_append, List.append_nil, Bool.not_true, Bool.not_false, decide_true, decide_false, true_and, and_true, Fin_ret, Fin_normal, rvsEv, rvEv, ex_some, resV, post_fin, takeV, cellsOf, AV.plain, and_self, List.take_succ_cons, List.take_zero, List.length_cons, List.length_nil, Nat.reduceAdd, Nat.reduceLeDiff, Nat.zero_add, Nat.add_zero, Nat.le_refl, List.getElem?_cons_zero, List.getElem?_cons_succ, partsE, partsE3, fillE, fillA, List.replicate_succ, List.replicate_zero, List.set_cons_zero, List.set_cons_succ, Nat.reduceLT, Nat.zero_lt_one, eq_self, List.contains_cons, List.contains_nil, Nat.reduceBEq, Bool.or_false, Bool.or_self, Bool.false_or, Bool.true_or, Bool.or_true, exitJ_e, exitJ_r, exitJ_p, exitJ_n, unA, h1, a7e, lv, hm, R22]
          exact bad _ _ hbad
        · simp -implicitDefEqProofs only [go_skip, go_label, go_exit, go_ret, go_seq, go_block, go_cond, go_region, go_loop, go_dregion, fin_nil, fin_seq_n, fin_seq_e, fin_seq_r, fin_seq_p, fin_blk_n, fin_blk_e, fin_blk_r, fin_blk_p, rg_nil, rg_cons, gK_t, gK_f, aK_op, aK_call, oK_val, oK_skip, fK_go, rK_ret, cK_t, cK_f, dg_nil, dg_cons, dGK_t, dGK_f, dAK_op, dS_q, dS_l, dS_w, dAK_call, dLK_go, dLK2_fp, dLK2_op, dQK_val, dOK_val, dOK_skip, dFK_go, dRK_ret, then_n, then_e, then_r, then_p, guardOk, opEv, oev, oevs, ofV_int, ofV_bool, ofV_str, ofV_nilS, ofV_nilP, ofV_nilM, ofV_nilF, ofV_nilI, List.toList_toArray, eget, setE, dropE, edel, penv, AOp.quiet, AOp.isLoad, pendOk, pendKeep, Nat.reduceEqDiff, ↓reduceIte, reduceCtorEq, bt1, bt2, bt3, bt4, b_add, b_sub, b_mul, b_eql, b_neq, b_lss, b_leq, b_gtr, b_geq, addA, ptr_fp, rel_fp, take1, List.drop_zero, List.drop_succ_cons, List.cons_append, List.nil_append, List.append_nil, Bool.not_true, Bool.not_false, decide_true, decide_false, true_and, and_true, Fin_ret, Fin_normal, rvsEv, rvEv, ex_some, resV, post_fin, takeV, cellsOf, AV.plain, and_self, List.take_succ_cons, List.take_zero, List.length_cons, List.length_nil, Nat.reduceAdd, Nat.reduceLeDiff, Nat.zero_add, Nat.add_zero, Nat.le_refl, List.getElem?_cons_zero, List.getElem?_cons_succ, partsE, partsE3, fillE, fillA, List.replicate_succ, List.replicate_zero, List.set_cons_zero, List.set_cons_succ, Nat.reduceLT, Nat.zero_lt_one, eq_self, List.contains_cons, List.contains_nil, Nat.reduceBEq, Bool.or_false, Bool.or_self, Bool.false_or, Bool.true_or, Bool.or_true, exitJ_e, exitJ_r, exitJ_p, exitJ_n, unA, h1, h32, a7e, lv, hm, R22]
          exact bad _ _ hbad
      rcases cases3 with ⟨hx0, h1⟩ | ⟨hx1, h1⟩ | ⟨h1, h32⟩
      · have ex0 : ((x : Int) = 0) = True := eq_true hx0
        simp -implicitDefEqProofs only [go_skip, go_label, go_exit, go_ret, go_seq, go_block, go_cond, go_region, go_loop, go_dregion, fin_nil, fin_seq_n, fin_seq_e, fin_seq_r, fin_seq_p, fin_blk_n, fin_blk_e, fin_blk_r, fin_blk_p, rg_nil, rg_cons, gK_t, gK_f, aK_op, aK_call, oK_val, oK_skip, fK_go, rK_ret, cK_t, cK_f, dg_nil, dg_cons, dGK_t, dGK_f, dAK_op, dS_q, dS_l, dS_w, dAK_call, dLK_go, dLK2_fp, dLK2_op, dQK_val, dOK_val, dOK_skip, dFK_go, dRK_ret, then_n, then_e, then_r, then_p, guardOk, opEv, oev, oevs, ofV_int, ofV_bool, ofV_str, ofV_nilS, ofV_nilP, ofV_nilM, ofV_nilF, ofV_nilI, List.toList_toArray, eget, setE, dropE, edel, penv, AOp.quiet, AOp.isLoad, pendOk, pendKeep, Nat.reduceEqDiff, ↓reduceIte, reduceCtorEq, bt1, bt2, bt3, bt4, b_add, b_sub, b_mul, b_eql, b_neq, b_lss, b_leq, b_gtr, b_geq, addA, ptr_fp, rel_fp, take1, List.drop_zero, List.drop_succ_cons, List.cons_append, List.nil_append, List.append_nil, Bool.not_true, Bool.not_false, decide_true, decide_false, true_and, and_true, Fin_ret, Fin_normal, rvsEv, rvEv, ex_some, resV, post_fin, takeV, cellsOf, AV.plain, and_self, List.take_succ_cons, List.take_zero, List.length_cons, List.length_nil, Nat.reduceAdd, Nat.reduceLeDiff, Nat.zero_add, Nat.add_zero, Nat.le_refl, List.getElem?_cons_zero, List.getElem?_cons_succ, partsE, partsE3, fillE, fillA, List.replicate_succ, List.replicate_zero, List.set_cons_zero, List.set_cons_succ, Nat.reduceLT, Nat.zero_lt_one, eq_self, List.contains_cons, List.contains_nil, Nat.reduceBEq, Bool.or_false, Bool.or_self, Bool.false_or, Bool.true_or, Bool.or_true, exitJ_e, exitJ_r, exitJ_p, exitJ_n, unA, h1, a7e, lv, hm, ex0]
        refine ⟨l, k, v, b.drop (k + 1), hrd, by rw [hdr]; congr 1; omega, by omega, ?_⟩
        repeat' apply And.intro
        all_goals first | assumption | rfl | omega | (simp [eget, *]; done)
      · obtain rfl : x = 1 := by omega
        have o1 : ((1 : Nat) : Int) = 1 := rfl
        have q5' : ptrCells H2 (.op (N + 2) 0) = some [.fn (.func 33) [.op (N + 1) 0, .op N 0]] := by simp only [ptrCells, X5]; rfl
        simp -implicitDefEqProofs only [go_skip, go_label, go_exit, go_ret, go_seq, go_block, go_cond, go_region, go_loop, go_dregion, fin_nil, fin_seq_n, fin_seq_e, fin_seq_r, fin_seq_p, fin_blk_n, fin_blk_e, fin_blk_r, fin_blk_p, rg_nil, rg_cons, gK_t, gK_f, aK_op, aK_call, oK_val, oK_skip, fK_go, rK_ret, cK_t, cK_f, dg_nil, dg_cons, dGK_t, dGK_f, dAK_op, dS_q, dS_l, dS_w, dAK_call, dLK_go, dLK2_fp, dLK2_op, dQK_val, dOK_val, dOK_skip, dFK_go, dRK_ret, then_n, then_e, then_r, then_p, guardOk, opEv, oev, oevs, ofV_int, ofV_bool, ofV_str, ofV_nilS, ofV_nilP, ofV_nilM, ofV_nilF, ofV_nilI, List.toList_toArray, eget, setE, dropE, edel, penv, AOp.quiet, AOp.isLoad, pendOk, pendKeep, Nat.reduceEqDiff, ↓reduceIte, reduceCtorEq, bt1, bt2, bt3, bt4, b_add, b_sub, b_mul, b_eql, b_neq, b_lss, b_leq, b_gtr, b_geq, addA, ptr_fp, rel_fp, take1, List.drop_zero, List.drop_succ_cons, List.cons_append, List.nil_append, List.append_nil, Bool.not_true, Bool.not_false, decide_true, decide_false, true_and, and_true, Fin_ret, Fin_normal, rvsEv, rvEv, ex_some, resV, post_fin, takeV, cellsOf, AV.plain, and_self, List.take_succ_cons, List.take_zero, List.length_cons, List.length_nil, Nat.reduceAdd, Nat.reduceLeDiff, Nat.zero_add, Nat.add_zero, Nat.le_refl, List.getElem?_cons_zero, List.getElem?_cons_succ, partsE, partsE3, fillE, fillA, List.replicate_succ, List.replicate_zero, List.set_cons_zero, List.set_cons_succ, Nat.reduceLT, Nat.zero_lt_one, eq_self, List.contains_cons, List.contains_nil, Nat.reduceBEq, Bool.or_false, Bool.or_self, Bool.false_or, Bool.true_or, Bool.or_true, exitJ_e, exitJ_r, exitJ_p, exitJ_n, unA, o1, Int.reduceLT, Int.reduceEq, Int.reduceLE, a7e, lv, hm, a6e, oevs]
        refine (w34 b hby (N + 2) (N + 1) N H2 n1 (k + 1) X5 X4 X1 (by omega) (by omega) (by omega) hbl).mono ?_
        rintro y H3 n3 ⟨hn3, m1, k3, ok1, rfl, hm1, hk3, Y4, Yk, hs1, hf1⟩
        have Y1 := (Yk N (by omega)).trans X1
        have Y5 := (Yk (N + 2) (by omega)).trans X5
        have Y8 := (Yk (N + 3) (by omega)).trans X8
        have YO : OwnSl 40 2 H3 n3 v (l.map rowE) := XO.keep hn3 fun b' o' hb hg => by
          rw [Yk b' (fun h => b4 (by rw [← h]; exact hb))]; exact hg
        simp -implicitDefEqProofs only [go_skip, go_label, go_exit, go_ret, go_seq, go_block, go_cond, go_region, go_loop, go_dregion, fin_nil, fin_seq_n, fin_seq_e, fin_seq_r, fin_seq_p, fin_blk_n, fin_blk_e, fin_blk_r, fin_blk_p, rg_nil, rg_cons, gK_t, gK_f, aK_op, aK_call, oK_val, oK_skip, fK_go, rK_ret, cK_t, cK_f, dg_nil, dg_cons, dGK_t, dGK_f, dAK_op, dS_q, dS_l, dS_w, dAK_call, dLK_go, dLK2_fp, dLK2_op, dQK_val, dOK_val, dOK_skip, dFK_go, dRK_ret, then_n, then_e, then_r, then_p, guardOk, opEv, oev, oevs, ofV_int, ofV_bool, ofV_str, ofV_nilS, ofV_nilP, ofV_nilM, ofV_nilF, ofV_nilI, List.toList_toArray, eget, setE, dropE, edel, penv, AOp.quiet, AOp.isLoad, pendOk, pendKeep, Nat.reduceEqDiff, ↓reduceIte, reduceCtorEq, bt1, bt2, bt3, bt4, b_add, b_sub, b_mul, b_eql, b_neq, b_lss, b_leq, b_gtr, b_geq, addA, ptr_fp, rel_fp, take1, List.drop_zero, List.drop_succ_cons, List.cons_append, List.nil_append, List.append_nil, Bool.not_true, Bool.not_false, decide_true, decide_false, true_and, and_true, Fin_ret, Fin_normal, rvsEv, rvEv, ex_some, resV, post_fin, takeV, cellsOf, AV.plain, and_self, List.take_succ_cons, List.take_zero, List.length_cons, List.length_nil, Nat.reduceAdd, Nat.reduceLeDiff, Nat.zero_add, Nat.add_zero, Nat.le_refl, List.getElem?_cons_zero, List.getElem?_cons_succ, partsE, partsE3, fillE, fillA, List.replicate_succ, List.replicate_zero, List.set_cons_zero, List.set_cons_succ, Nat.reduceLT, Nat.zero_lt_one, eq_self, List.contains_cons, List.contains_nil, Nat.reduceBEq, Bool.or_false, Bool.or_self, Bool.false_or, Bool.true_or, Bool.or_true, a6e, oevs]
        refine (w34 b hby (N + 2) (N + 1) N H3 n3 k3 Y5 Y4 Y1 (by omega) (by omega) hk3 hbl).mono ?_
        rintro y H4 n4 ⟨hn4, m2, k4', ok2, rfl, hm2, hk4, Z4, Zk, hs2, hf2⟩
        have Z1 := (Zk N (by omega)).trans Y1
        have Z5 := (Zk (N + 2) (by omega)).trans Y5
        have Z8 := (Zk (N + 3) (by omega)).trans Y8
        have ZO : OwnSl 40 2 H4 n4 v (l.map rowE) := YO.keep hn4 fun b' o' hb hg => by
          rw [Zk b' (fun h => b4 (by rw [← h]; exact hb))]; exact hg
        simp -implicitDefEqProofs only [go_skip, go_label, go_exit, go_ret, go_seq, go_block, go_cond, go_region, go_loop, go_dregion, fin_nil, fin_seq_n, fin_seq_e, fin_seq_r, fin_seq_p, fin_blk_n, fin_blk_e, fin_blk_r, fin_blk_p, rg_nil, rg_cons, gK_t, gK_f, aK_op, aK_call, oK_val, oK_skip, fK_go, rK_ret, cK_t, cK_f, dg_nil, dg_cons, dGK_t, dGK_f, dAK_op, dS_q, dS_l, dS_w, dAK_call, dLK_go, dLK2_fp, dLK2_op, dQK_val, dOK_val, dOK_skip, dFK_go, dRK_ret, then_n, then_e, then_r, then_p, guardOk, opEv, oev, oevs, ofV_int, ofV_bool, ofV_str, ofV_nilS, ofV_nilP, ofV_nilM, ofV_nilF, ofV_nilI, List.toList_toArray, eget, setE, dropE, edel, penv, AOp.quiet, AOp.isLoad, pendOk, pendKeep, Nat.reduceEqDiff, ↓reduceIte, reduceCtorEq, bt1, bt2, bt3, bt4, b_add, b_sub, b_mul, b_eql, b_neq, b_lss, b_leq, b_gtr, b_geq, addA, ptr_fp, rel_fp, take1, List.drop_zero, List.drop_succ_cons, List.cons_append, List.nil_append, List.append_nil, Bool.not_true, Bool.not_false, decide_true, decide_false, true_and, and_true, Fin_ret, Fin_normal, rvsEv, rvEv, ex_some, resV, post_fin, takeV, cellsOf, AV.plain, and_self, List.take_succ_cons, List.take_zero, List.length_cons, List.length_nil, Nat.reduceAdd, Nat.reduceLeDiff, Nat.zero_add, Nat.add_zero, Nat.le_refl, List.getElem?_cons_zero, List.getElem?_cons_succ, partsE, partsE3, fillE, fillA, List.replicate_succ, List.replicate_zero, List.set_cons_zero, List.set_cons_succ, Nat.reduceLT, Nat.zero_lt_one, eq_self, List.contains_cons, List.contains_nil, Nat.reduceBEq, Bool.or_false, Bool.or_self, Bool.false_or, Bool.true_or, Bool.or_true]
        refine (w35 m2 (by omega)).use fun n5 hn5 => ?_
        have hrow : rdRow (b.drop k) = match rdN 5 true (b.drop (k + 1)) with
            | some (d, c) => (match rdN 5 true ((b.drop (k + 1)).drop c) with
              | some (z, c') => if short (d : Int) (unfZ z) then none else some ((d : Int), unfZ z, 1 + c + c')
              | none => none)
            | none => none := by
          rw [hdr]; simp only [rdRow]; rw [if_neg (by omega)]; rfl
        cases hr1 : rdN 5 true (b.drop (k + 1)) with
        | none =>
          have hbad : Non b := hrd.fail (badx (by omega)) (by rw [hrow, hr1])
          obtain rfl := hf1 hr1
          simp -implicitDefEqProofs only [go_skip, go_label, go_exit, go_ret, go_seq, go_block, go_cond, go_region, go_loop, go_dregion, fin_nil, fin_seq_n, fin_seq_e, fin_seq_r, fin_seq_p, fin_blk_n, fin_blk_e, fin_blk_r, fin_blk_p, rg_nil, rg_cons, gK_t, gK_f, aK_op, aK_call, oK_val, oK_skip, fK_go, rK_ret, cK_t, cK_f, dg_nil, dg_cons, dGK_t, dGK_f, dAK_op, dS_q, dS_l, dS_w, dAK_call, dLK_go, dLK2_fp, dLK2_op, dQK_val, dOK_val, dOK_skip, dFK_go, dRK_ret, then_n, then_e, then_r, then_p, guardOk, opEv, oev, oevs, ofV_int, ofV_bool, ofV_str, ofV_nilS, ofV_nilP, ofV_nilM, ofV_nilF, ofV_nilI, List.toList_toArray, eget, setE, dropE, edel, penv, AOp.quiet, AOp.isLoad, pendOk, pendKeep, Nat.reduceEqDiff, ↓reduceIte, reduceCtorEq, bt1, bt2, bt3, bt4, b_add, b_sub, b_mul, b_eql, b_neq, b_lss, b_leq, b_gtr, b_geq, addA, ptr_fp, rel_fp, take1, List.drop_zero, List.drop_succ_cons, List.cons_append, List.nil_append, List.append_nil, Bool.not_true, Bool.not_false, decide_true, decide_false, true_and, and_true, Fin_ret, Fin_normal, rvsEv, rvEv, ex_some, resV, post_fin, takeV, cellsOf, AV.plain, and_self, List.take_succ_cons, List.take_zero, List.length_cons, List.length_nil, Nat.reduceAdd, Nat.reduceLeDiff, Nat.zero_add, Nat.add_zero, Nat.le_refl, List.getElem?_cons_zero, List.getElem?_cons_succ, partsE, partsE3, fillE, fillA, List.replicate_succ, List.replicate_zero, List.set_cons_zero, List.set_cons_succ, Nat.reduceLT, Nat.zero_lt_one, eq_self, List.contains_cons, List.contains_nil, Nat.reduceBEq, Bool.or_false, Bool.or_self, Bool.false_or, Bool.true_or, Bool.or_true, exitJ_e, exitJ_r, exitJ_p, exitJ_n, unA, R22]
          exact bad _ _ hbad
        | some p1 =>
          obtain ⟨d1, c1⟩ := p1
          obtain ⟨rfl, rfl, rfl⟩ := hs1 d1 c1 hr1
          cases hr2 : rdN 5 true (b.drop (k + 1 + c1)) with
          | none =>
            have hbad : Non b := hrd.fail (badx (by omega)) (by rw [hrow, hr1]; simp only; rw [List.drop_drop, hr2])
            obtain rfl := hf2 hr2
            simp -implicitDefEqProofs only [go_skip, go_label, go_exit, go_ret, go_seq, go_block, go_cond, go_region, go_loop, go_dregion, fin_nil, fin_seq_n, fin_seq_e, fin_seq_r, fin_seq_p, fin_blk_n, fin_blk_e, fin_blk_r, fin_blk_p, rg_nil, rg_cons, gK_t, gK_f, aK_op, aK_call, oK_val, oK_skip, fK_go, rK_ret, cK_t, cK_f, dg_nil, dg_cons, dGK_t, dGK_f, dAK_op, dS_q, dS_l, dS_w, dAK_call, dLK_go, dLK2_fp, dLK2_op, dQK_val, dOK_val, dOK_skip, dFK_go, dRK_ret, then_n, then_e, then_r, then_p, guardOk, opEv, oev, oevs, ofV_int, ofV_bool, ofV_str, ofV_nilS, ofV_nilP, ofV_nilM, ofV_nilF, ofV_nilI, List.toList_toArray, eget, setE, dropE, edel, penv, AOp.quiet, AOp.isLoad, pendOk, pendKeep, Nat.reduceEqDiff, ↓reduceIte, reduceCtorEq, bt1, bt2, bt3, bt4, b_add, b_sub, b_mul, b_eql, b_neq, b_lss, b_leq, b_gtr, b_geq, addA, ptr_fp, rel_fp, take1, List.drop_zero, List.drop_succ_cons, List.cons_append, List.nil_append, List.append_nil, Bool.not_true, Bool.not_false, decide_true, decide_false, true_and, and_true, Fin_ret, Fin_normal, rvsEv, rvEv, ex_some, resV, post_fin, takeV, cellsOf, AV.plain, and_self, List.take_succ_cons, List.take_zero, List.length_cons, List.length_nil, Nat.reduceAdd, Nat.reduceLeDiff, Nat.zero_add, Nat.add_zero, Nat.le_refl, List.getElem?_cons_zero, List.getElem?_cons_succ, partsE, partsE3, fillE, fillA, List.replicate_succ, List.replicate_zero, List.set_cons_zero, List.set_cons_succ, Nat.reduceLT, Nat.zero_lt_one, eq_self, List.contains_cons, List.contains_nil, Nat.reduceBEq, Bool.or_false, Bool.or_self, Bool.false_or, Bool.true_or, Bool.or_true, exitJ_e, exitJ_r, exitJ_p, exitJ_n, unA, R22]
            exact bad _ _ hbad
          | some p2 =>
            obtain ⟨d2, c2⟩ := p2
            obtain ⟨rfl, rfl, rfl⟩ := hs2 d2 c2 hr2
            simp -implicitDefEqProofs only [go_skip, go_label, go_exit, go_ret, go_seq, go_block, go_cond, go_region, go_loop, go_dregion, fin_nil, fin_seq_n, fin_seq_e, fin_seq_r, fin_seq_p, fin_blk_n, fin_blk_e, fin_blk_r, fin_blk_p, rg_nil, rg_cons, gK_t, gK_f, aK_op, aK_call, oK_val, oK_skip, fK_go, rK_ret, cK_t, cK_f, dg_nil, dg_cons, dGK_t, dGK_f, dAK_op, dS_q, dS_l, dS_w, dAK_call, dLK_go, dLK2_fp, dLK2_op, dQK_val, dOK_val, dOK_skip, dFK_go, dRK_ret, then_n, then_e, then_r, then_p, guardOk, opEv, oev, oevs, ofV_int, ofV_bool, ofV_str, ofV_nilS, ofV_nilP, ofV_nilM, ofV_nilF, ofV_nilI, List.toList_toArray, eget, setE, dropE, edel, penv, AOp.quiet, AOp.isLoad, pendOk, pendKeep, Nat.reduceEqDiff, ↓reduceIte, reduceCtorEq, bt1, bt2, bt3, bt4, b_add, b_sub, b_mul, b_eql, b_neq, b_lss, b_leq, b_gtr, b_geq, addA, ptr_fp, rel_fp, take1, List.drop_zero, List.drop_succ_cons, List.cons_append, List.nil_append, List.append_nil, Bool.not_true, Bool.not_false, decide_true, decide_false, true_and, and_true, Fin_ret, Fin_normal, rvsEv, rvEv, ex_some, resV, post_fin, takeV, cellsOf, AV.plain, and_self, List.take_succ_cons, List.take_zero, List.length_cons, List.length_nil, Nat.reduceAdd, Nat.reduceLeDiff, Nat.zero_add, Nat.add_zero, Nat.le_refl, List.getElem?_cons_zero, List.getElem?_cons_succ, partsE, partsE3, fillE, fillA, List.replicate_succ, List.replicate_zero, List.set_cons_zero, List.set_cons_succ, Nat.reduceLT, Nat.zero_lt_one, eq_self, List.contains_cons, List.contains_nil, Nat.reduceBEq, Bool.or_false, Bool.or_self, Bool.false_or, Bool.true_or, Bool.or_true, exitJ_e, exitJ_r, exitJ_p, exitJ_n, unA]
            refine (w29 (m1 : Int) (unfZ m2)).use fun n6 hn6 => ?_
            by_cases hsh : short (m1 : Int) (unfZ m2)
            · have hbad : Non b := hrd.fail (badx (by omega)) (by rw [hrow, hr1]; simp only; rw [List.drop_drop, hr2]; simp only; rw [if_pos hsh])
              simp -implicitDefEqProofs only [go_skip, go_label, go_exit, go_ret, go_seq, go_block, go_cond, go_region, go_loop, go_dregion, fin_nil, fin_seq_n, fin_seq_e, fin_seq_r, fin_seq_p, fin_blk_n, fin_blk_e, fin_blk_r, fin_blk_p, rg_nil, rg_cons, gK_t, gK_f, aK_op, aK_call, oK_val, oK_skip, fK_go, rK_ret, cK_t, cK_f, dg_nil, dg_cons, dGK_t, dGK_f, dAK_op, dS_q, dS_l, dS_w, dAK_call, dLK_go, dLK2_fp, dLK2_op, dQK_val, dOK_val, dOK_skip, dFK_go, dRK_ret, then_n, then_e, then_r, then_p, guardOk, opEv, oev, oevs, ofV_int, ofV_bool, ofV_str, ofV_nilS, ofV_nilP, ofV_nilM, ofV_nilF, ofV_nilI, List.toList_toArray, eget, setE, dropE, edel, penv, AOp.quiet, AOp.isLoad, pendOk, pendKeep, Nat.reduceEqDiff, ↓reduceIte, reduceCtorEq, bt1, bt2, bt3, bt4, b_add, b_sub, b_mul, b_eql, b_neq, b_lss, b_leq, b_gtr, b_geq, addA, ptr_fp, rel_fp, take1, List.drop_zero, List.drop_succ_cons, List.cons_append, List.nil_append, List.append_nil, Bool.not_true, Bool.not_false, decide_true, decide_false, true_and, and_true, Fin_ret, Fin_normal, rvsEv, rvEv, ex_some, resV, post_fin, takeV, cellsOf, AV.plain, and_self, List.take_succ_cons, List.take_zero, List.length_cons, List.length_nil, Nat.reduceAdd, Nat.reduceLeDiff, Nat.zero_add, Nat.add_zero, Nat.le_refl, List.getElem?_cons_zero, List.getElem?_cons_succ, partsE, partsE3, fillE, fillA, List.replicate_succ, List.replicate_zero, List.set_cons_zero, List.set_cons_succ, Nat.reduceLT, Nat.zero_lt_one, eq_self, List.contains_cons, List.contains_nil, Nat.reduceBEq, Bool.or_false, Bool.or_self, Bool.false_or, Bool.true_or, Bool.or_true, exitJ_e, exitJ_r, exitJ_p, exitJ_n, unA, hsh, R22]
              exact bad _ _ hbad
            · have hrr : rdRow (b.drop k) = some ((m1 : Int), unfZ m2, 1 + c1 + c2) := by
                rw [hrow, hr1]; simp only; rw [List.drop_drop, hr2]; simp only; rw [if_neg hsh]
              have hub : -34359738368 < unfZ m2 ∧ unfZ m2 < 34359738368 := by unfold unfZ; split <;> omega
              have XO6 := ZO.mono (Nat.le_trans hn5 hn6)
              have Z4' : hget H4 (N + 1) = some (.cells [.int .i64 ((k + (1 + c1 + c2) : Nat) : Int)]) := by rw [Z4]; congr 4; omega
              have hpb := hrd.last
              have hlen1 : l.length ≤ 1000 := by omega
              have hmul : (l.length : Int) * 34359738368 ≤ 1000 * 34359738368 := Int.mul_le_mul_of_nonneg_right (by omega) (by omega)
              have hstep := hrd.step hby hrr
              generalize hp : prevR l l.length = p at *
              have q8 : ptrCells H4 (.op (N + 3) 0) = some [.int .u64 p.1, .int .i64 p.2] := by simp only [ptrCells, Z8]; rfl
              have q81 : ptrCells H4 (.op (N + 3) 1) = some [.int .i64 p.2] := by simp only [ptrCells, Z8]; rfl
              have s1 : IntKind.u64.wrap (p.1 + (m1 : Int)) = p.1 + (m1 : Int) := wu _ (by omega) (by omega)
              have s2 : IntKind.i64.wrap (p.2 + unfZ m2) = p.2 + unfZ m2 := by rw [w64 (by omega) (by omega)]
              have hst : storeH H4 (.op (N + 3) 0) [.int .u64 (p.1 + (m1 : Int)), .int .i64 (p.2 + unfZ m2)] = some ((N + 3, .cells (rowE (p.1 + (m1 : Int), p.2 + unfZ m2))) :: H4) := by
                simp [storeH, Z8, splice, hset, rowE]
              have q9 : ptrCells ((N + 3, .cells (rowE (p.1 + (m1 : Int), p.2 + unfZ m2))) :: H4) (.op (N + 3) 0) = some [.int .u64 (p.1 + (m1 : Int)), .int .i64 (p.2 + unfZ m2)] := by simp [ptrCells, hget, rowE]
              have hk6 : ∀ c, c ≠ N + 3 → hget ((N + 3, .cells (rowE (p.1 + (m1 : Int), p.2 + unfZ m2))) :: H4) c = hget H4 c := fun c h => by rw [hget_cons, if_neg (fun e => h e.symm)]
              have h68 : hget ((N + 3, .cells (rowE (p.1 + (m1 : Int), p.2 + unfZ m2))) :: H4) (N + 3) = some (.cells (rowE (p.1 + (m1 : Int), p.2 + unfZ m2))) := by rw [hget_cons, if_pos rfl]
              have ho6 : OwnSl 40 2 ((N + 3, .cells (rowE (p.1 + (m1 : Int), p.2 + unfZ m2))) :: H4) n6 v (l.map rowE) := XO6.keep (Nat.le_refl _) fun b' o' hb hg => by
                rw [hk6 b' (fun h => b8 (by rw [← h]; exact hb))]; exact hg
              obtain ⟨v', h7, n7, ea, g1, g2, g3, g4⟩ := ho6.grw (bytes := 16) (ns := [rowE (p.1 + (m1 : Int), p.2 + unfZ m2)]) (rowE_len _) (fun z hz => by simp at hz; subst hz; rfl) (by simp; omega) (by simp [maxLen]; omega)
              have ea2 : appA 40 2 16 ((N + 3, .cells (rowE (p.1 + (m1 : Int), p.2 + unfZ m2))) :: H4) n6 v (.lst 2 [[.int .u64 (p.1 + (m1 : Int)), .int .i64 (p.2 + unfZ m2)]]) = some (v', h7, n7) := ea
              have k71 := g3 N _ (by omega) (by rw [hk6 _ (by omega)]; exact Z1) b1
              have k74 := g3 (N + 1) _ (by omega) (by rw [hk6 _ (by omega)]; exact Z4') b4
              have k75 := g3 (N + 2) _ (by omega) (by rw [hk6 _ (by omega)]; exact Z5) b5
              have k78 := g3 (N + 3) _ (by omega) h68 b8
              have hmp : l.map rowE ++ [rowE (p.1 + (m1 : Int), p.2 + unfZ m2)] = (l ++ [(p.1 + (m1 : Int), p.2 + unfZ m2)]).map rowE := by simp
              rw [hmp] at g1
              have hlast : prevR (l ++ [(p.1 + (m1 : Int), p.2 + unfZ m2)]) (l ++ [(p.1 + (m1 : Int), p.2 + unfZ m2)]).length = (p.1 + (m1 : Int), p.2 + unfZ m2) := by
                rw [List.length_append]; exact prevR_succ (by simp)
              have nb : ∀ c, c < N + 4 → blkOf v ≠ some c → blkOf v' ≠ some c := fun c hcl hv h => by
                rcases g4 c h with h' | h'
                · omega
                · exact hv h'
              have b1' := nb N (by omega) b1
              have b4' := nb (N + 1) (by omega) b4
              have b5' := nb (N + 2) (by omega) b5
              have b8' := nb (N + 3) (by omega) b8
              have hnx7 : N + 4 ≤ n7 := by omega
              have hkl := hstep.le
              have hlen2 : (l ++ [(p.1 + (m1 : Int), p.2 + unfZ m2)]).length = l.length + 1 := by simp
              rw [← hlast] at k78
              generalize ((N + 3, .cells (rowE (p.1 + (m1 : Int), p.2 + unfZ m2))) :: H4 : Heap) = H6 at *
              simp -implicitDefEqProofs only [go_skip, go_label, go_exit, go_ret, go_seq, go_block, go_cond, go_region, go_loop, go_dregion, fin_nil, fin_seq_n, fin_seq_e, fin_seq_r, fin_seq_p, fin_blk_n, fin_blk_e, fin_blk_r, fin_blk_p, rg_nil, rg_cons, gK_t, gK_f, aK_op, aK_call, oK_val, oK_skip, fK_go, rK_ret, cK_t, cK_f, dg_nil, dg_cons, dGK_t, dGK_f, dAK_op, dS_q, dS_l, dS_w, dAK_call, dLK_go, dLK2_fp, dLK2_op, dQK_val, dOK_val, dOK_skip, dFK_go, dRK_ret, then_n, then_e, then_r, then_p, guardOk, opEv, oev, oevs, ofV_int, ofV_bool, ofV_str, ofV_nilS, ofV_nilP, ofV_nilM, ofV_nilF, ofV_nilI, List.toList_toArray, eget, setE, dropE, edel, penv, AOp.quiet, AOp.isLoad, pendOk, pendKeep, Nat.reduceEqDiff, ↓reduceIte, reduceCtorEq, bt1, bt2, bt3, bt4, b_add, b_sub, b_mul, b_eql, b_neq, b_lss, b_leq, b_gtr, b_geq, addA, ptr_fp, rel_fp, take1, List.drop_zero, List.drop_succ_cons, List.cons_append, List.nil_append, List.append_nil, Bool.not_true, Bool.not_false, decide_true, decide_false, true_and, and_true, Fin_ret, Fin_normal, rvsEv, rvEv, ex_some, resV, post_fin, takeV, cellsOf, AV.plain, and_self, List.take_succ_cons, List.take_zero, List.length_cons, List.length_nil, Nat.reduceAdd, Nat.reduceLeDiff, Nat.zero_add, Nat.add_zero, Nat.le_refl, List.getElem?_cons_zero, List.getElem?_cons_succ, partsE, partsE3, fillE, fillA, List.replicate_succ, List.replicate_zero, List.set_cons_zero, List.set_cons_succ, Nat.reduceLT, Nat.zero_lt_one, eq_self, List.contains_cons, List.contains_nil, Nat.reduceBEq, Bool.or_false, Bool.or_self, Bool.false_or, Bool.true_or, Bool.or_true, exitJ_e, exitJ_r, exitJ_p, exitJ_n, unA, hsh, a1e, a4e, a5e, a6e, a7e, a8e, q8, q81, s1, s2, hst, q9, ea2, splice]
              refine ⟨b.length - (k + (1 + c1 + c2)), by omega, l ++ [(p.1 + (m1 : Int), p.2 + unfZ m2)], k + (1 + c1 + c2), v', hstep, rfl, ?_⟩
              repeat' apply And.intro
              all_goals first | assumption | rfl | omega | (simp [eget, *]; done)
      · have hrr : rdRow (b.drop k) = some ((((x - 32) / 16 + 1 : Nat) : Int), (((x - 32) % 16 : Nat) : Int) - 8, 1) := by
          rw [hdr]; simp only [rdRow]; rw [if_pos (by omega)]
        have hx0 : ¬ (x : Int) = 0 := by omega
        have h32' : (32 : Int) ≤ (x : Int) := by omega
        have r1 : IntKind.u8.wrap ((x : Int) - 32) = ((x - 32 : Nat) : Int) := by rw [IntKind.wrap_u8]; omega
        have r2 : IntKind.u64.wrap ((x - 32 : Nat) : Int) = ((x - 32 : Nat) : Int) := wu _ (by omega) (by omega)
        have r3 : IntKind.u64.wrap (((x - 32 : Nat) : Int).tdiv 16) = (((x - 32) / 16 : Nat) : Int) := by
          rw [Int.tdiv_eq_ediv_of_nonneg (Int.natCast_nonneg _), wu _ (by omega) (by omega)]; omega
        have r4 : IntKind.u64.wrap ((((x - 32) / 16 : Nat) : Int) + 1) = (((x - 32) / 16 + 1 : Nat) : Int) := by rw [wu _ (by omega) (by omega)]; omega
        have r5 : IntKind.i64.wrap ((x - 32 : Nat) : Int) = ((x - 32 : Nat) : Int) := by rw [w64 (by omega) (by omega)]
        have r6 : ((x - 32 : Nat) : Int).tmod 16 = (((x - 32) % 16 : Nat) : Int) := by rw [Int.tmod_eq_emod_of_nonneg (Int.natCast_nonneg _)]; omega
        have r7 : IntKind.i64.wrap ((((x - 32) % 16 : Nat) : Int) - 8) = (((x - 32) % 16 : Nat) : Int) - 8 := by rw [w64 (by omega) (by omega)]
        obtain ⟨D, hD⟩ : ∃ D : Int, D = (((x - 32) / 16 + 1 : Nat) : Int) := ⟨_, rfl⟩
        obtain ⟨M, hM⟩ : ∃ M : Int, M = (((x - 32) % 16 : Nat) : Int) - 8 := ⟨_, rfl⟩
        rw [← hD] at r4 hrr
        have r7 := r7.trans hM.symm
        rw [← hM] at hrr
        have hpb := hrd.last
        have hlen1 : l.length ≤ 1000 := by omega
        have hmul : (l.length : Int) * 34359738368 ≤ 1000 * 34359738368 := Int.mul_le_mul_of_nonneg_right (by omega) (by omega)
        have hstep := hrd.step hby hrr
        generalize hp : prevR l l.length = p at *
        have q8 : ptrCells H2 (.op (N + 3) 0) = some [.int .u64 p.1, .int .i64 p.2] := by simp only [ptrCells, X8]; rfl
        have q81 : ptrCells H2 (.op (N + 3) 1) = some [.int .i64 p.2] := by simp only [ptrCells, X8]; rfl
        have s1 : IntKind.u64.wrap (p.1 + D) = p.1 + D := wu _ (by omega) (by omega)
        have s2 : IntKind.i64.wrap (p.2 + M) = p.2 + M := by rw [w64 (by omega) (by omega)]
        have hst : storeH H2 (.op (N + 3) 0) [.int .u64 (p.1 + D), .int .i64 (p.2 + M)] = some ((N + 3, .cells (rowE (p.1 + D, p.2 + M))) :: H2) := by
          simp [storeH, X8, splice, hset, rowE]
        have q9 : ptrCells ((N + 3, .cells (rowE (p.1 + D, p.2 + M))) :: H2) (.op (N + 3) 0) = some [.int .u64 (p.1 + D), .int .i64 (p.2 + M)] := by simp [ptrCells, hget, rowE]
        have hk6 : ∀ c, c ≠ N + 3 → hget ((N + 3, .cells (rowE (p.1 + D, p.2 + M))) :: H2) c = hget H2 c := fun c h => by rw [hget_cons, if_neg (fun e => h e.symm)]
        have h68 : hget ((N + 3, .cells (rowE (p.1 + D, p.2 + M))) :: H2) (N + 3) = some (.cells (rowE (p.1 + D, p.2 + M))) := by rw [hget_cons, if_pos rfl]
        have ho6 : OwnSl 40 2 ((N + 3, .cells (rowE (p.1 + D, p.2 + M))) :: H2) n1 v (l.map rowE) := XO.keep (Nat.le_refl _) fun b' o' hb hg => by
          rw [hk6 b' (fun h => b8 (by rw [← h]; exact hb))]; exact hg
        obtain ⟨v', h7, n7, ea, g1, g2, g3, g4⟩ := ho6.grw (bytes := 16) (ns := [rowE (p.1 + D, p.2 + M)]) (rowE_len _) (fun z hz => by simp at hz; subst hz; rfl) (by simp; omega) (by simp [maxLen]; omega)
        have ea2 : appA 40 2 16 ((N + 3, .cells (rowE (p.1 + D, p.2 + M))) :: H2) n1 v (.lst 2 [[.int .u64 (p.1 + D), .int .i64 (p.2 + M)]]) = some (v', h7, n7) := ea
        have k71 := g3 N _ (by omega) (by rw [hk6 _ (by omega)]; exact X1) b1
        have k74 := g3 (N + 1) _ (by omega) (by rw [hk6 _ (by omega)]; exact X4) b4
        have k75 := g3 (N + 2) _ (by omega) (by rw [hk6 _ (by omega)]; exact X5) b5
        have k78 := g3 (N + 3) _ (by omega) h68 b8
        have hmp : l.map rowE ++ [rowE (p.1 + D, p.2 + M)] = (l ++ [(p.1 + D, p.2 + M)]).map rowE := by simp
        rw [hmp] at g1
        have hlast : prevR (l ++ [(p.1 + D, p.2 + M)]) (l ++ [(p.1 + D, p.2 + M)]).length = (p.1 + D, p.2 + M) := by
          rw [List.length_append]; exact prevR_succ (by simp)
        have nb : ∀ c, c < N + 4 → blkOf v ≠ some c → blkOf v' ≠ some c := fun c hcl hv h => by
          rcases g4 c h with h' | h'
          · omega
          · exact hv h'
        have b1' := nb N (by omega) b1
        have b4' := nb (N + 1) (by omega) b4
        have b5' := nb (N + 2) (by omega) b5
        have b8' := nb (N + 3) (by omega) b8
        have hnx7 : N + 4 ≤ n7 := by omega
        have hkl := hstep.le
        have hlen2 : (l ++ [(p.1 + D, p.2 + M)]).length = l.length + 1 := by simp
        rw [← hlast] at k78
        generalize ((N + 3, .cells (rowE (p.1 + D, p.2 + M))) :: H2 : Heap) = H6 at *
        simp -implicitDefEqProofs only [go_skip, go_label, go_exit, go_ret, go_seq, go_block, go_cond, go_region, go_loop, go_dregion, fin_nil, fin_seq_n, fin_seq_e, fin_seq_r, fin_seq_p, fin_blk_n, fin_blk_e, fin_blk_r, fin_blk_p, rg_nil, rg_cons, gK_t, gK_f, aK_op, aK_call, oK_val, oK_skip, fK_go, rK_ret, cK_t, cK_f, dg_nil, dg_cons, dGK_t, dGK_f, dAK_op, dS_q, dS_l, dS_w, dAK_call, dLK_go, dLK2_fp, dLK2_op, dQK_val, dOK_val, dOK_skip, dFK_go, dRK_ret, then_n, then_e, then_r, then_p, guardOk, opEv, oev, oevs, ofV_int, ofV_bool, ofV_str, ofV_nilS, ofV_nilP, ofV_nilM, ofV_nilF, ofV_nilI, List.toList_toArray, eget, setE, dropE, edel, penv, AOp.quiet, AOp.isLoad, pendOk, pendKeep, Nat.reduceEqDiff, ↓reduceIte, reduceCtorEq, bt1, bt2, bt3, bt4, b_add, b_sub, b_mul, b_eql, b_neq, b_lss, b_leq, b_gtr, b_geq, addA, ptr_fp, rel_fp, take1, List.drop_zero, List.drop_succ_cons, List.cons_append, List.nil_append, List.append_nil, Bool.not_true, Bool.not_false, decide_true, decide_false, true_and, and_true, Fin_ret, Fin_normal, rvsEv, rvEv, ex_some, resV, post_fin, takeV, cellsOf, AV.plain, and_self, List.take_succ_cons, List.take_zero, List.length_cons, List.length_nil, Nat.reduceAdd, Nat.reduceLeDiff, Nat.zero_add, Nat.add_zero, Nat.le_refl, List.getElem?_cons_zero, List.getElem?_cons_succ, partsE, partsE3, fillE, fillA, List.replicate_succ, List.replicate_zero, List.set_cons_zero, List.set_cons_succ, Nat.reduceLT, Nat.zero_lt_one, eq_self, List.contains_cons, List.contains_nil, Nat.reduceBEq, Bool.or_false, Bool.or_self, Bool.false_or, Bool.true_or, Bool.or_true, exitJ_e, exitJ_r, exitJ_p, exitJ_n, unA, h1, h32, h32', a7e, lv, hm, hx0, b_quo _ _ _ (show (16 : Int) ≠ 0 by decide), b_rem _ _ _ (show (16 : Int) ≠ 0 by decide), r1, r2, r3, r4, r5, r6, r7, a1e, a4e, a5e, a6e, a7e, a8e, q8, q81, s1, s2, hst, q9, ea2, splice]
        refine ⟨b.length - (k + 1), by omega, l ++ [(p.1 + D, p.2 + M)], k + 1, v', hstep, rfl, ?_⟩
        repeat' apply And.intro
        all_goals first | assumption | rfl | omega | (simp [eget, *]; done)
    · have hbad : Non b := hrd.fail (fun x s h => by rw [List.drop_eq_nil_of_le (by omega)] at h; cases h) (by rw [List.drop_eq_nil_of_le (by omega)]; rfl)
      simp -implicitDefEqProofs only [go_skip, go_label, go_exit, go_ret, go_seq, go_block, go_cond, go_region, go_loop, go_dregion, fin_nil, fin_seq_n, fin_seq_e, fin_seq_r, fin_seq_p, fin_blk_n, fin_blk_e, fin_blk_r, fin_blk_p, rg_nil, rg_cons, gK_t, gK_f, aK_op, aK_call, oK_val, oK_skip, fK_go, rK_ret, cK_t, cK_f, dg_nil, dg_cons, dGK_t, dGK_f, dAK_op, dS_q, dS_l, dS_w, dAK_call, dLK_go, dLK2_fp, dLK2_op, dQK_val, dOK_val, dOK_skip, dFK_go, dRK_ret, then_n, then_e, then_r, then_p, guardOk, opEv, oev, oevs, ofV_int, ofV_bool, ofV_str, ofV_nilS, ofV_nilP, ofV_nilM, ofV_nilF, ofV_nilI, List.toList_toArray, eget, setE, dropE, edel, penv, AOp.quiet, AOp.isLoad, pendOk, pendKeep, Nat.reduceEqDiff, ↓reduceIte, reduceCtorEq, bt1, bt2, bt3, bt4, b_add, b_sub, b_mul, b_eql, b_neq, b_lss, b_leq, b_gtr, b_geq, addA, ptr_fp, rel_fp, take1, List.drop_zero, List.drop_succ_cons, List.cons_append, List.nil_append, List.append_nil, Bool.not_true, Bool.not_false, decide_true, decide_false, true_and, and_true, Fin_ret, Fin_normal, rvsEv, rvEv, ex_some, resV, post_fin, takeV, cellsOf, AV.plain, and_self, List.take_succ_cons, List.take_zero, List.length_cons, List.length_nil, Nat.reduceAdd, Nat.reduceLeDiff, Nat.zero_add, Nat.add_zero, Nat.le_refl, List.getElem?_cons_zero, List.getElem?_cons_succ, partsE, partsE3, fillE, fillA, List.replicate_succ, List.replicate_zero, List.set_cons_zero, List.set_cons_succ, Nat.reduceLT, Nat.zero_lt_one, eq_self, List.contains_cons, List.contains_nil, Nat.reduceBEq, Bool.or_false, Bool.or_self, Bool.false_or, Bool.true_or, Bool.or_true, exitJ_e, exitJ_r, exitJ_p, exitJ_n, unA, R22]
      exact bad _ _ hbad
  · rintro ⟨env, heap, nx', dm⟩ ⟨l, k, v, s, hrd, hdr, hll, a1e, a4e, a7e, k1, k4, ho, b1, b4, hdm⟩
    simp only at a1e a4e a7e k1 k4 ho hdm
    subst hdm
    obtain ⟨h', hf, hk'⟩ := ho.frz2 (rowE_len l)
    refine ⟨7, v, rowsA l, h', a7e, hf, ?_⟩
    have j1 := hk' N _ k1 (apart_ne fun b' hb' h => b1 (by rw [← h]; exact hb'))
    have j4 := hk' (N + 1) _ k4 (apart_ne fun b' hb' h => b4 (by rw [← h]; exact hb'))
    have q1 : ptrCells h' (.op N 0) = some [bytesA b] := by simp only [ptrCells, j1]; rfl
    have q4 : ptrCells h' (.op (N + 1) 0) = some [.int .i64 ((k + 1 : Nat) : Int)] := by simp only [ptrCells, j4]; rfl
    rw [post_fin]
    rcases dec_cases (((k + 1 : Nat) : Int) = (b.length : Int)) with ⟨he, ee⟩ | ⟨he, ee⟩
    · simp -implicitDefEqProofs only [go_skip, go_label, go_exit, go_ret, go_seq, go_block, go_cond, go_region, go_loop, go_dregion, fin_nil, fin_seq_n, fin_seq_e, fin_seq_r, fin_seq_p, fin_blk_n, fin_blk_e, fin_blk_r, fin_blk_p, rg_nil, rg_cons, gK_t, gK_f, aK_op, aK_call, oK_val, oK_skip, fK_go, rK_ret, cK_t, cK_f, dg_nil, dg_cons, dGK_t, dGK_f, dAK_op, dS_q, dS_l, dS_w, dAK_call, dLK_go, dLK2_fp, dLK2_op, dQK_val, dOK_val, dOK_skip, dFK_go, dRK_ret, then_n, then_e, then_r, then_p, guardOk, opEv, oev, oevs, ofV_int, ofV_bool, ofV_str, ofV_nilS, ofV_nilP, ofV_nilM, ofV_nilF, ofV_nilI, List.toList_toArray, eget, setE, dropE, edel, penv, AOp.quiet, AOp.isLoad, pendOk, pendKeep, Nat.reduceEqDiff, ↓reduceIte, reduceCtorEq, bt1, bt2, bt3, bt4, b_add, b_sub, b_mul, b_eql, b_neq, b_lss, b_leq, b_gtr, b_geq, addA, ptr_fp, rel_fp, take1, List.drop_zero, List.drop_succ_cons, List.cons_append, List.nil_append, List.append_nil, Bool.not_true, Bool.not_false, decide_true, decide_false, true_and, and_true, Fin_ret, Fin_normal, rvsEv, rvEv, ex_some, resV, post_fin, takeV, cellsOf, AV.plain, and_self, List.take_succ_cons, List.take_zero, List.length_cons, List.length_nil, Nat.reduceAdd, Nat.reduceLeDiff, Nat.zero_add, Nat.add_zero, Nat.le_refl, List.getElem?_cons_zero, List.getElem?_cons_succ, partsE, partsE3, fillE, fillA, List.replicate_succ, List.replicate_zero, List.set_cons_zero, List.set_cons_succ, Nat.reduceLT, Nat.zero_lt_one, eq_self, List.contains_cons, List.contains_nil, Nat.reduceBEq, Bool.or_false, Bool.or_self, Bool.false_or, Bool.true_or, Bool.or_true, a1e, a4e, q1, q4, lb, ee]
      refine (w13 l (by omega)).use fun n2 hn2 => ?_
      have hs0 : s = [] := by
        have := congrArg List.length hdr
        rw [List.length_drop, List.length_cons] at this
        exact List.eq_nil_of_length_eq_zero (by omega)
      rw [hs0] at hdr
      rcases dec_cases (chk l = 0) with ⟨hc, ec⟩ | ⟨hc, ec⟩
      · obtain ⟨rfl, rfl⟩ : out = l ∧ e = 0 := by
          rcases hu with ⟨h1, h2, h3, h4⟩ | ⟨h1, _⟩
          · exact ⟨(hrd.stop hdr h1 h2 h3).1.symm, h4⟩
          · exact absurd (hrd.whole hdr) (h1 l hc (hrd.wf (by omega)))
        simp -implicitDefEqProofs only [go_skip, go_label, go_exit, go_ret, go_seq, go_block, go_cond, go_region, go_loop, go_dregion, fin_nil, fin_seq_n, fin_seq_e, fin_seq_r, fin_seq_p, fin_blk_n, fin_blk_e, fin_blk_r, fin_blk_p, rg_nil, rg_cons, gK_t, gK_f, aK_op, aK_call, oK_val, oK_skip, fK_go, rK_ret, cK_t, cK_f, dg_nil, dg_cons, dGK_t, dGK_f, dAK_op, dS_q, dS_l, dS_w, dAK_call, dLK_go, dLK2_fp, dLK2_op, dQK_val, dOK_val, dOK_skip, dFK_go, dRK_ret, then_n, then_e, then_r, then_p, guardOk, opEv, oev, oevs, ofV_int, ofV_bool, ofV_str, ofV_nilS, ofV_nilP, ofV_nilM, ofV_nilF, ofV_nilI, List.toList_toArray, eget, setE, dropE, edel, penv, AOp.quiet, AOp.isLoad, pendOk, pendKeep, Nat.reduceEqDiff, ↓reduceIte, reduceCtorEq, bt1, bt2, bt3, bt4, b_add, b_sub, b_mul, b_eql, b_neq, b_lss, b_leq, b_gtr, b_geq, addA, ptr_fp, rel_fp, take1, List.drop_zero, List.drop_succ_cons, List.cons_append, List.nil_append, List.append_nil, Bool.not_true, Bool.not_false, decide_true, decide_false, true_and, and_true, Fin_ret, Fin_normal, rvsEv, rvEv, ex_some, resV, post_fin, takeV, cellsOf, AV.plain, and_self, List.take_succ_cons, List.take_zero, List.length_cons, List.length_nil, Nat.reduceAdd, Nat.reduceLeDiff, Nat.zero_add, Nat.add_zero, Nat.le_refl, List.getElem?_cons_zero, List.getElem?_cons_succ, partsE, partsE3, fillE, fillA, List.replicate_succ, List.replicate_zero, List.set_cons_zero, List.set_cons_succ, Nat.reduceLT, Nat.zero_lt_one, eq_self, List.contains_cons, List.contains_nil, Nat.reduceBEq, Bool.or_false, Bool.or_self, Bool.false_or, Bool.true_or, Bool.or_true, ec, R22]
        rw [hQ]
        exact ⟨_, _, rfl, Frz.refl _ _⟩
      · have hbad : Non b := fun l' h1 h2 h3 => by
          obtain ⟨e1, _⟩ := hrd.stop hdr h1 h2 h3
          rw [e1] at hc; exact hc h1
        simp -implicitDefEqProofs only [go_skip, go_label, go_exit, go_ret, go_seq, go_block, go_cond, go_region, go_loop, go_dregion, fin_nil, fin_seq_n, fin_seq_e, fin_seq_r, fin_seq_p, fin_blk_n, fin_blk_e, fin_blk_r, fin_blk_p, rg_nil, rg_cons, gK_t, gK_f, aK_op, aK_call, oK_val, oK_skip, fK_go, rK_ret, cK_t, cK_f, dg_nil, dg_cons, dGK_t, dGK_f, dAK_op, dS_q, dS_l, dS_w, dAK_call, dLK_go, dLK2_fp, dLK2_op, dQK_val, dOK_val, dOK_skip, dFK_go, dRK_ret, then_n, then_e, then_r, then_p, guardOk, opEv, oev, oevs, ofV_int, ofV_bool, ofV_str, ofV_nilS, ofV_nilP, ofV_nilM, ofV_nilF, ofV_nilI, List.toList_toArray, eget, setE, dropE, edel, penv, AOp.quiet, AOp.isLoad, pendOk, pendKeep, Nat.reduceEqDiff, ↓reduceIte, reduceCtorEq, bt1, bt2, bt3, bt4, b_add, b_sub, b_mul, b_eql, b_neq, b_lss, b_leq, b_gtr, b_geq, addA, ptr_fp, rel_fp, take1, List.drop_zero, List.drop_succ_cons, List.cons_append, List.nil_append, List.append_nil, Bool.not_true, Bool.not_false, decide_true, decide_false, true_and, and_true, Fin_ret, Fin_normal, rvsEv, rvEv, ex_some, resV, post_fin, takeV, cellsOf, AV.plain, and_self, List.take_succ_cons, List.take_zero, List.length_cons, List.length_nil, Nat.reduceAdd, Nat.reduceLeDiff, Nat.zero_add, Nat.add_zero, Nat.le_refl, List.getElem?_cons_zero, List.getElem?_cons_succ, partsE, partsE3, fillE, fillA, List.replicate_succ, List.replicate_zero, List.set_cons_zero, List.set_cons_succ, Nat.reduceLT, Nat.zero_lt_one, eq_self, List.contains_cons, List.contains_nil, Nat.reduceBEq, Bool.or_false, Bool.or_self, Bool.false_or, Bool.true_or, Bool.or_true, ec, R22]
        exact bad _ _ hbad
    · have hbad : Non b := fun l' h1 h2 h3 => by
        obtain ⟨_, e2⟩ := hrd.stop hdr h1 h2 h3
        have := congrArg List.length hdr
        rw [e2, List.length_drop, List.length_cons, List.length_nil] at this
        omega
      simp -implicitDefEqProofs only [go_skip, go_label, go_exit, go_ret, go_seq, go_block, go_cond, go_region, go_loop, go_dregion, fin_nil, fin_seq_n, fin_seq_e, fin_seq_r, fin_seq_p, fin_blk_n, fin_blk_e, fin_blk_r, fin_blk_p, rg_nil, rg_cons, gK_t, gK_f, aK_op, aK_call, oK_val, oK_skip, fK_go, rK_ret, cK_t, cK_f, dg_nil, dg_cons, dGK_t, dGK_f, dAK_op, dS_q, dS_l, dS_w, dAK_call, dLK_go, dLK2_fp, dLK2_op, dQK_val, dOK_val, dOK_skip, dFK_go, dRK_ret, then_n, then_e, then_r, then_p, guardOk, opEv, oev, oevs, ofV_int, ofV_bool, ofV_str, ofV_nilS, ofV_nilP, ofV_nilM, ofV_nilF, ofV_nilI, List.toList_toArray, eget, setE, dropE, edel, penv, AOp.quiet, AOp.isLoad, pendOk, pendKeep, Nat.reduceEqDiff, ↓reduceIte, reduceCtorEq, bt1, bt2, bt3, bt4, b_add, b_sub, b_mul, b_eql, b_neq, b_lss, b_leq, b_gtr, b_geq, addA, ptr_fp, rel_fp, take1, List.drop_zero, List.drop_succ_cons, List.cons_append, List.nil_append, List.append_nil, Bool.not_true, Bool.not_false, decide_true, decide_false, true_and, and_true, Fin_ret, Fin_normal, rvsEv, rvEv, ex_some, resV, post_fin, takeV, cellsOf, AV.plain, and_self, List.take_succ_cons, List.take_zero, List.length_cons, List.length_nil, Nat.reduceAdd, Nat.reduceLeDiff, Nat.zero_add, Nat.add_zero, Nat.le_refl, List.getElem?_cons_zero, List.getElem?_cons_succ, partsE, partsE3, fillE, fillA, List.replicate_succ, List.replicate_zero, List.set_cons_zero, List.set_cons_succ, Nat.reduceLT, Nat.zero_lt_one, eq_self, List.contains_cons, List.contains_nil, Nat.reduceBEq, Bool.or_false, Bool.or_self, Bool.false_or, Bool.true_or, Bool.or_true, a1e, a4e, q1, q4, lb, ee, R22]
      exact bad _ _ hbad
end Go.Proofs.Ytmnlfgnpmpebmaa
