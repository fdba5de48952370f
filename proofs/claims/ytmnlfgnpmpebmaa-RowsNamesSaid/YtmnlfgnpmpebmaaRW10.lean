/- Packed tables: the program's loop over differences. -/
import Derived.Test.YtmnlfgnpmpebmaaRW9
namespace Go.Proofs.Ytmnlfgnpmpebmaa
open Go Go.Ab Go.Proofs
set_option linter.unusedVariables false
set_option linter.unusedSimpArgs false
set_option maxRecDepth 20000

theorem w38 (l : List (Int × Int)) (hc : chk l = 0) (hw : wfR l) {fn : FuncId} {env0 : Env} {ca cb : Code} {dm yb nb bc N0 : Nat} {H0 : Heap}
    (has : compile Try.prog (fun _ _ => false) 43 ca = some A20a0) (hbd : compile Try.prog (fun _ _ => false) 43 cb = some A20b0) (henv : eget env0 5 = some (.op nb 0))
    (hyb : hget H0 yb = some (lp false fn env0 ca cb dm)) (hdm : hget H0 dm = some .dfd) (hnb : hget H0 nb = some (.cells [.nilS])) (hbc : hget H0 bc = some (.cells [rowsA l]))
    (e1 : yb ≠ nb) (e2 : dm ≠ yb) (e3 : dm ≠ nb) (l1 : yb < N0) (l2 : dm < N0) (l3 : nb < N0) (l4 : bc < N0) :
    AC Try.prog 38 [.yl yb, .op bc 0] H0 N0 fun y h' n' => (∃ x, y = .ret x) ∧ hget h' yb = some (lp false fn env0 ca cb dm) ∧ hget h' dm = some .dfd ∧ ∃ v, hget h' nb = some (.cells [v]) ∧ OwnSl 5 1 h' n' v ((pkI l l.length).map byE) ∧ blkOf v ≠ some yb ∧ blkOf v ≠ some dm ∧ blkOf v ≠ some nb ∧ N0 < n' := by
  refine AC.go mixed is38 (by simp) ?_
  have la := rows_len l
  have hl2 := (chk_ok hc).1
  have hp0 : ptrCells ((N0, AO.cells [.int .u64 0, .int .i64 0]) :: H0) (.op bc 0) = some [rowsA l] := by
    simp only [ptrCells]
    rw [hget_cons, if_neg (by omega), hbc]; rfl
  have hc1 : ∀ c, c < N0 → hget ((N0, AO.cells [.int .u64 0, .int .i64 0]) :: H0) c = hget H0 c := fun c h => by rw [hget_cons, if_neg (by omega)]
  have hcw : hget ((N0, AO.cells [.int .u64 0, .int .i64 0]) :: H0) N0 = some (.cells (rowE (prevR l 0))) := by rw [hget_cons, if_pos rfl]; rfl
  generalize hH1 : ((N0, AO.cells [.int .u64 0, .int .i64 0]) :: H0 : Heap) = H1 at *
  simp -implicitDefEqProofs only [go_skip, go_label, go_exit, go_ret, go_seq, go_block, go_cond, go_region, go_loop, go_dregion, fin_nil, fin_seq_n, fin_seq_e, fin_seq_r, fin_seq_p, fin_blk_n, fin_blk_e, fin_blk_r, fin_blk_p, rg_nil, rg_cons, gK_t, gK_f, aK_op, aK_call, oK_val, oK_skip, fK_go, rK_ret, cK_t, cK_f, dg_nil, dg_cons, dGK_t, dGK_f, dAK_op, dS_q, dS_l, dS_w, dAK_call, dLK_go, dLK2_fp, dLK2_op, dQK_val, dOK_val, dOK_skip, dFK_go, dRK_ret, then_n, then_e, then_r, then_p, guardOk, opEv, oev, oevs, ofV_int, ofV_bool, ofV_str, ofV_nilS, ofV_nilP, ofV_nilM, ofV_nilF, ofV_nilI, List.toList_toArray, eget, setE, dropE, edel, penv, AOp.quiet, AOp.isLoad, pendOk, pendKeep, Nat.reduceEqDiff, ↓reduceIte, reduceCtorEq, bt1, bt2, bt3, bt4, b_add, b_sub, b_mul, b_eql, b_neq, b_lss, b_leq, b_gtr, b_geq, addA, ptr_fp, rel_fp, take1, List.drop_zero, List.drop_succ_cons, List.cons_append, List.nil_append, List.append_nil, Bool.not_true, Bool.not_false, decide_true, decide_false, true_and, and_true, Fin_ret, Fin_normal, rvsEv, rvEv, ex_some, resV, post_fin, takeV, cellsOf, AV.plain, and_self, List.take_succ_cons, List.take_zero, List.length_cons, List.length_nil, Nat.reduceAdd, Nat.reduceLeDiff, Nat.zero_add, Nat.add_zero, Nat.le_refl, List.getElem?_cons_zero, List.getElem?_cons_succ, partsE, partsE3, fillE, fillA, List.replicate_succ, List.replicate_zero, List.set_cons_zero, List.set_cons_succ, Nat.reduceLT, Nat.zero_lt_one, eq_self, List.contains_cons, List.contains_nil, Nat.reduceBEq, Bool.or_false, Bool.or_self, Bool.false_or, Bool.true_or, Bool.or_true, A38, hH1, hp0, la]
  refine go_rounds (fun q st => ∃ (i : Nat) (v : AV), q = l.length - i ∧ i ≤ l.length ∧ eget st.env 0 = some (.yl yb) ∧ eget st.env 3 = some (.op N0 0) ∧ eget st.env 6 = some (rowsA l) ∧ eget st.env 7 = some (.int .i64 l.length) ∧ eget st.env 8 = some (.int .i64 i) ∧
      hget st.heap yb = some (lp false fn env0 ca cb dm) ∧ hget st.heap dm = some .dfd ∧ hget st.heap N0 = some (.cells (rowE (prevR l i))) ∧ hget st.heap nb = some (.cells [v]) ∧ OwnSl 5 1 st.heap st.nx v ((pkI l i).map byE) ∧ blkOf v ≠ some yb ∧ blkOf v ≠ some dm ∧ blkOf v ≠ some nb ∧ blkOf v ≠ some N0 ∧ N0 < st.nx ∧ st.dm = []) (n := l.length) mixed
    ⟨0, .nilS, rfl, by omega, by simp [eget], by simp [eget], by simp [eget], by simp [eget], by simp [eget], by rw [hc1 _ l1]; exact hyb, by rw [hc1 _ l2]; exact hdm, hcw, by rw [hc1 _ l3]; exact hnb, .inl ⟨rfl, by simp [pkI]⟩, by simp [blkOf], by simp [blkOf], by simp [blkOf], by simp [blkOf], by simp, rfl⟩ ?_
  rintro q ⟨env, H, n, dm'⟩ ⟨i, v, rfl, hi, h0, h3, h6, h7, h8, k1, k2, k3, k4, ho, b1, b2, b3, b4, hn, hdm'⟩
  simp only at h0 h3 h6 h7 h8 k1 k2 k3 k4 ho hn hdm'
  subst hdm'
  by_cases hil : (i : Int) < (l.length : Int)
  case neg =>
    obtain rfl : i = l.length := by omega
    simp -implicitDefEqProofs only [go_skip, go_label, go_exit, go_ret, go_seq, go_block, go_cond, go_region, go_loop, go_dregion, fin_nil, fin_seq_n, fin_seq_e, fin_seq_r, fin_seq_p, fin_blk_n, fin_blk_e, fin_blk_r, fin_blk_p, rg_nil, rg_cons, gK_t, gK_f, aK_op, aK_call, oK_val, oK_skip, fK_go, rK_ret, cK_t, cK_f, dg_nil, dg_cons, dGK_t, dGK_f, dAK_op, dS_q, dS_l, dS_w, dAK_call, dLK_go, dLK2_fp, dLK2_op, dQK_val, dOK_val, dOK_skip, dFK_go, dRK_ret, then_n, then_e, then_r, then_p, guardOk, opEv, oev, oevs, ofV_int, ofV_bool, ofV_str, ofV_nilS, ofV_nilP, ofV_nilM, ofV_nilF, ofV_nilI, List.toList_toArray, eget, setE, dropE, edel, penv, AOp.quiet, AOp.isLoad, pendOk, pendKeep, Nat.reduceEqDiff, ↓reduceIte, reduceCtorEq, bt1, bt2, bt3, bt4, b_add, b_sub, b_mul, b_eql, b_neq, b_lss, b_leq, b_gtr, b_geq, addA, ptr_fp, rel_fp, take1, List.drop_zero, List.drop_succ_cons, List.cons_append, List.nil_append, List.append_nil, Bool.not_true, Bool.not_false, decide_true, decide_false, true_and, and_true, Fin_ret, Fin_normal, rvsEv, rvEv, ex_some, resV, post_fin, takeV, cellsOf, AV.plain, and_self, List.take_succ_cons, List.take_zero, List.length_cons, List.length_nil, Nat.reduceAdd, Nat.reduceLeDiff, Nat.zero_add, Nat.add_zero, Nat.le_refl, List.getElem?_cons_zero, List.getElem?_cons_succ, partsE, partsE3, fillE, fillA, List.replicate_succ, List.replicate_zero, List.set_cons_zero, List.set_cons_succ, Nat.reduceLT, Nat.zero_lt_one, eq_self, List.contains_cons, List.contains_nil, Nat.reduceBEq, Bool.or_false, Bool.or_self, Bool.false_or, Bool.true_or, Bool.or_true, A38l0, h7, h8, hil, R38]
    exact ⟨⟨_, rfl⟩, k1, k2, v, k4, ho, b1, b2, b3, hn⟩
  have hr := List.getElem?_eq_getElem (show i < l.length by omega)
  generalize l[i] = r at hr
  have hix := rows_idx hr
  obtain ⟨a1, a2, a3, a4, a5, a6, a7, a8, a9⟩ := vstep hc hw hr
  have hsu := pkI_succ hr
  have hpr := prevR_succ hr
  have hpl := pkI_len hc hw i hi
  generalize prevR l i = p at *
  have f1 : IntKind.u64.wrap (r.1 - p.1) = r.1 - p.1 := wu _ (by omega) (by omega)
  have f2 : IntKind.i64.wrap (r.2 - p.2) = r.2 - p.2 := by rw [w64 (by omega) (by omega)]
  have f9 : IntKind.i64.wrap ((i : Int) + 1) = ((i + 1 : Nat) : Int) := by rw [w64 (by omega) (by omega)]; omega
  have hs1 : storeH ((n, AO.cells [.int .u64 0, .int .i64 0]) :: H) (.op n 0) [.int .u64 r.1, .int .i64 r.2] = some ((n, .cells (rowE r)) :: (n, AO.cells [.int .u64 0, .int .i64 0]) :: H) := by
    simp [storeH, hget, splice, hset, rowE]
  have bn : blkOf v ≠ some n := fun h => by obtain ⟨_, _, hlt⟩ := ho.blk h; omega
  have cc : ∀ c, c < n → hget ((n, .cells (rowE r)) :: (n, AO.cells [.int .u64 0, .int .i64 0]) :: H) c = hget H c := fun c h => by rw [hget_cons, if_neg (by omega), hget_cons, if_neg (by omega)]
  have cn : hget ((n, .cells (rowE r)) :: (n, AO.cells [.int .u64 0, .int .i64 0]) :: H) n = some (.cells (rowE r)) := by rw [hget_cons, if_pos rfl]
  have ho2 : OwnSl 5 1 ((n, .cells (rowE r)) :: (n, AO.cells [.int .u64 0, .int .i64 0]) :: H) (n + 1) v ((pkI l i).map byE) := ho.keep (by omega) fun b o hb hg => by
    obtain ⟨_, _, hlt⟩ := ho.blk hb
    rw [cc b hlt]; exact hg
  generalize hH2 : ((n, .cells (rowE r)) :: (n, AO.cells [.int .u64 0, .int .i64 0]) :: H : Heap) = H2 at *
  have q1 : ptrCells H2 (.op n 0) = some [.int .u64 r.1, .int .i64 r.2] := by simp only [ptrCells, cn]; rfl
  have q2 : ptrCells H2 (.op n 1) = some [.int .i64 r.2] := by simp only [ptrCells, cn]; rfl
  have q3 : ptrCells H2 (.op N0 0) = some [.int .u64 p.1, .int .i64 p.2] := by simp only [ptrCells, cc N0 hn, k3]; rfl
  have q4 : ptrCells H2 (.op N0 1) = some [.int .i64 p.2] := by simp only [ptrCells, cc N0 hn, k3]; rfl
  simp -implicitDefEqProofs only [go_skip, go_label, go_exit, go_ret, go_seq, go_block, go_cond, go_region, go_loop, go_dregion, fin_nil, fin_seq_n, fin_seq_e, fin_seq_r, fin_seq_p, fin_blk_n, fin_blk_e, fin_blk_r, fin_blk_p, rg_nil, rg_cons, gK_t, gK_f, aK_op, aK_call, oK_val, oK_skip, fK_go, rK_ret, cK_t, cK_f, dg_nil, dg_cons, dGK_t, dGK_f, dAK_op, dS_q, dS_l, dS_w, dAK_call, dLK_go, dLK2_fp, dLK2_op, dQK_val, dOK_val, dOK_skip, dFK_go, dRK_ret, then_n, then_e, then_r, then_p, guardOk, opEv, oev, oevs, ofV_int, ofV_bool, ofV_str, ofV_nilS, ofV_nilP, ofV_nilM, ofV_nilF, ofV_nilI, List.toList_toArray, eget, setE, dropE, edel, penv, AOp.quiet, AOp.isLoad, pendOk, pendKeep, Nat.reduceEqDiff, ↓reduceIte, reduceCtorEq, bt1, bt2, bt3, bt4, b_add, b_sub, b_mul, b_eql, b_neq, b_lss, b_leq, b_gtr, b_geq, addA, ptr_fp, rel_fp, take1, List.drop_zero, List.drop_succ_cons, List.cons_append, List.nil_append, List.append_nil, Bool.not_true, Bool.not_false, decide_true, decide_false, true_and, and_true, Fin_ret, Fin_normal, rvsEv, rvEv, ex_some, resV, post_fin, takeV, cellsOf, AV.plain, and_self, List.take_succ_cons, List.take_zero, List.length_cons, List.length_nil, Nat.reduceAdd, Nat.reduceLeDiff, Nat.zero_add, Nat.add_zero, Nat.le_refl, List.getElem?_cons_zero, List.getElem?_cons_succ, partsE, partsE3, fillE, fillA, List.replicate_succ, List.replicate_zero, List.set_cons_zero, List.set_cons_succ, Nat.reduceLT, Nat.zero_lt_one, eq_self, List.contains_cons, List.contains_nil, Nat.reduceBEq, Bool.or_false, Bool.or_self, Bool.false_or, Bool.true_or, Bool.or_true, A38l0, h0, h3, h6, h7, h8, hil, hix, rowE, hs1, q1, q2, q3, q4, f1, f2]
  refine (body20 (d := r.1 - p.1) (m := r.2 - p.2) has hbd henv (by rw [cc _ (by omega)]; exact k1) (by rw [cc _ (by omega)]; exact k4) ho2 (byE_len _) (by simp; omega) e1 (by omega) (by omega) b1 b3 (by omega) (by omega) (by omega) (by omega)).mono ?_
  rintro y h4 n4 ⟨rfl, m1, v', m2, m3, m4, m5, m6⟩
  have w1 : hget h4 n = some (.cells (rowE r)) := m5 n _ (by omega) cn (by omega) (by omega) bn
  have w2 : hget h4 N0 = some (.cells (rowE p)) := m5 N0 _ (by omega) (by rw [cc _ hn]; exact k3) (by omega) (by omega) b4
  have w3 : hget h4 dm = some .dfd := m5 dm _ (by omega) (by rw [cc _ (by omega)]; exact k2) e3 e2 b2
  have q5 : ptrCells h4 (.op n 0) = some [.int .u64 r.1, .int .i64 r.2] := by simp only [ptrCells, w1]; rfl
  have hs2 : storeH h4 (.op N0 0) [.int .u64 r.1, .int .i64 r.2] = some ((N0, .cells (rowE r)) :: h4) := by
    simp [storeH, w2, splice, hset, rowE]
  have bb : ∀ c, c < n → blkOf v ≠ some c → blkOf v' ≠ some c := fun c hcl hv h => by
    rcases m6 c h with h' | h'
    · omega
    · exact hv h'
  have keep5 : ∀ c, c ≠ N0 → hget ((N0, .cells (rowE r)) :: h4) c = hget h4 c := fun c h => by rw [hget_cons, if_neg (fun e => h e.symm)]
  have ho5 : OwnSl 5 1 ((N0, .cells (rowE r)) :: h4) n4 v' ((pkI l (i + 1)).map byE) := by
    rw [hsu, List.map_append]
    exact m3.keep (Nat.le_refl _) fun b o hb hg => by
      rw [keep5 b (fun h => bb N0 hn b4 (by rw [← h]; exact hb))]; exact hg
  have z1 : hget ((N0, .cells (rowE r)) :: h4) yb = some (lp false fn env0 ca cb dm) := by rw [keep5 _ (by omega)]; exact m1
  have z2 : hget ((N0, .cells (rowE r)) :: h4) dm = some .dfd := by rw [keep5 _ (by omega)]; exact w3
  have z3 : hget ((N0, .cells (rowE r)) :: h4) N0 = some (.cells (rowE (prevR l (i + 1)))) := by rw [hget_cons, if_pos rfl, hpr]
  have z4 : hget ((N0, .cells (rowE r)) :: h4) nb = some (.cells [v']) := by rw [keep5 _ (by omega)]; exact m2
  have c1 := bb yb (by omega) b1
  have c2 := bb dm (by omega) b2
  have c3 := bb nb (by omega) b3
  have c4 := bb N0 hn b4
  generalize ((N0, .cells (rowE r)) :: h4 : Heap) = H5 at *
  simp -implicitDefEqProofs only [go_skip, go_label, go_exit, go_ret, go_seq, go_block, go_cond, go_region, go_loop, go_dregion, fin_nil, fin_seq_n, fin_seq_e, fin_seq_r, fin_seq_p, fin_blk_n, fin_blk_e, fin_blk_r, fin_blk_p, rg_nil, rg_cons, gK_t, gK_f, aK_op, aK_call, oK_val, oK_skip, fK_go, rK_ret, cK_t, cK_f, dg_nil, dg_cons, dGK_t, dGK_f, dAK_op, dS_q, dS_l, dS_w, dAK_call, dLK_go, dLK2_fp, dLK2_op, dQK_val, dOK_val, dOK_skip, dFK_go, dRK_ret, then_n, then_e, then_r, then_p, guardOk, opEv, oev, oevs, ofV_int, ofV_bool, ofV_str, ofV_nilS, ofV_nilP, ofV_nilM, ofV_nilF, ofV_nilI, List.toList_toArray, eget, setE, dropE, edel, penv, AOp.quiet, AOp.isLoad, pendOk, pendKeep, Nat.reduceEqDiff, ↓reduceIte, reduceCtorEq, bt1, bt2, bt3, bt4, b_add, b_sub, b_mul, b_eql, b_neq, b_lss, b_leq, b_gtr, b_geq, addA, ptr_fp, rel_fp, take1, List.drop_zero, List.drop_succ_cons, List.cons_append, List.nil_append, List.append_nil, Bool.not_true, Bool.not_false, decide_true, decide_false, true_and, and_true, Fin_ret, Fin_normal, rvsEv, rvEv, ex_some, resV, post_fin, takeV, cellsOf, AV.plain, and_self, List.take_succ_cons, List.take_zero, List.length_cons, List.length_nil, Nat.reduceAdd, Nat.reduceLeDiff, Nat.zero_add, Nat.add_zero, Nat.le_refl, List.getElem?_cons_zero, List.getElem?_cons_succ, partsE, partsE3, fillE, fillA, List.replicate_succ, List.replicate_zero, List.set_cons_zero, List.set_cons_succ, Nat.reduceLT, Nat.zero_lt_one, eq_self, List.contains_cons, List.contains_nil, Nat.reduceBEq, Bool.or_false, Bool.or_self, Bool.false_or, Bool.true_or, Bool.or_true, unA, h3, h8, q5, hs2, f9]
  refine ⟨l.length - (i + 1), by omega, i + 1, v', rfl, by omega, ?_⟩
  exact ⟨h0, h6, h7, rfl, z1, z2, z3, z4, ho5, c1, c2, c3, c4, by omega⟩

theorem w20 (l : List (Int × Int)) (out : List Nat) (e : Int) (hl : l.length ≤ 2000) (hw : wfR l) (hp : Pkd l out e) : Pure Try.prog 20 [rowsA l] (.tup [bytesA out, .int .i64 e]) := by
  refine Pure.frz fun nx => AC.go mixed is20 (by simp) ?_
  simp -implicitDefEqProofs only [go_skip, go_label, go_exit, go_ret, go_seq, go_block, go_cond, go_region, go_loop, go_dregion, fin_nil, fin_seq_n, fin_seq_e, fin_seq_r, fin_seq_p, fin_blk_n, fin_blk_e, fin_blk_r, fin_blk_p, rg_nil, rg_cons, gK_t, gK_f, aK_op, aK_call, oK_val, oK_skip, fK_go, rK_ret, cK_t, cK_f, dg_nil, dg_cons, dGK_t, dGK_f, dAK_op, dS_q, dS_l, dS_w, dAK_call, dLK_go, dLK2_fp, dLK2_op, dQK_val, dOK_val, dOK_skip, dFK_go, dRK_ret, then_n, then_e, then_r, then_p, guardOk, opEv, oev, oevs, ofV_int, ofV_bool, ofV_str, ofV_nilS, ofV_nilP, ofV_nilM, ofV_nilF, ofV_nilI, List.toList_toArray, eget, setE, dropE, edel, penv, AOp.quiet, AOp.isLoad, pendOk, pendKeep, Nat.reduceEqDiff, ↓reduceIte, reduceCtorEq, bt1, bt2, bt3, bt4, b_add, b_sub, b_mul, b_eql, b_neq, b_lss, b_leq, b_gtr, b_geq, addA, ptr_fp, rel_fp, take1, List.drop_zero, List.drop_succ_cons, List.cons_append, List.nil_append, List.append_nil, Bool.not_true, Bool.not_false, decide_true, decide_false, true_and, and_true, Fin_ret, Fin_normal, rvsEv, rvEv, ex_some, resV, post_fin, ptrCells, reload, hget, hset, hdel, storeH, splice, takeV, cellsOf, AV.plain, and_self, List.take_succ_cons, List.take_zero, List.length_cons, List.length_nil, Nat.reduceAdd, Nat.reduceLeDiff, Nat.zero_add, Nat.add_zero, Nat.le_refl, List.getElem?_cons_zero, List.getElem?_cons_succ, partsE, partsE3, fillE, fillA, List.replicate_succ, List.replicate_zero, List.set_cons_zero, List.set_cons_succ, Nat.reduceLT, Nat.zero_lt_one, eq_self, List.contains_cons, List.contains_nil, Nat.reduceBEq, Bool.or_false, Bool.or_self, Bool.false_or, Bool.true_or, Bool.or_true, A20]
  refine (w13 l hl).use fun n' hle => ?_
  by_cases hc : chk l = 0
  case neg =>
    rcases hp with ⟨_, rfl, rfl⟩ | ⟨h, _⟩
    · simp -implicitDefEqProofs only [go_skip, go_label, go_exit, go_ret, go_seq, go_block, go_cond, go_region, go_loop, go_dregion, fin_nil, fin_seq_n, fin_seq_e, fin_seq_r, fin_seq_p, fin_blk_n, fin_blk_e, fin_blk_r, fin_blk_p, rg_nil, rg_cons, gK_t, gK_f, aK_op, aK_call, oK_val, oK_skip, fK_go, rK_ret, cK_t, cK_f, dg_nil, dg_cons, dGK_t, dGK_f, dAK_op, dS_q, dS_l, dS_w, dAK_call, dLK_go, dLK2_fp, dLK2_op, dQK_val, dOK_val, dOK_skip, dFK_go, dRK_ret, then_n, then_e, then_r, then_p, guardOk, opEv, oev, oevs, ofV_int, ofV_bool, ofV_str, ofV_nilS, ofV_nilP, ofV_nilM, ofV_nilF, ofV_nilI, List.toList_toArray, eget, setE, dropE, edel, penv, AOp.quiet, AOp.isLoad, pendOk, pendKeep, Nat.reduceEqDiff, ↓reduceIte, reduceCtorEq, bt1, bt2, bt3, bt4, b_add, b_sub, b_mul, b_eql, b_neq, b_lss, b_leq, b_gtr, b_geq, addA, ptr_fp, rel_fp, take1, List.drop_zero, List.drop_succ_cons, List.cons_append, List.nil_append, List.append_nil, Bool.not_true, Bool.not_false, decide_true, decide_false, true_and, and_true, Fin_ret, Fin_normal, rvsEv, rvEv, ex_some, resV, post_fin, ptrCells, reload, hget, hset, hdel, storeH, splice, takeV, cellsOf, AV.plain, and_self, List.take_succ_cons, List.take_zero, List.length_cons, List.length_nil, Nat.reduceAdd, Nat.reduceLeDiff, Nat.zero_add, Nat.add_zero, Nat.le_refl, List.getElem?_cons_zero, List.getElem?_cons_succ, partsE, partsE3, fillE, fillA, List.replicate_succ, List.replicate_zero, List.set_cons_zero, List.set_cons_succ, Nat.reduceLT, Nat.zero_lt_one, eq_self, List.contains_cons, List.contains_nil, Nat.reduceBEq, Bool.or_false, Bool.or_self, Bool.false_or, Bool.true_or, Bool.or_true, hc, R20]
      exact ⟨_, _, rfl, Frz.head (Frz.nilS _ _)⟩
    · exact absurd h hc
  obtain ⟨rfl, rfl⟩ : out = packB l ∧ e = 0 := by
    rcases hp with ⟨h, _⟩ | ⟨_, h1, h2⟩
    · exact absurd hc h
    · exact ⟨h1, h2⟩
  have hl2 := (chk_ok hc).1
  have hpl := pkI_len hc hw l.length (Nat.le_refl _)
  simp -implicitDefEqProofs only [go_skip, go_label, go_exit, go_ret, go_seq, go_block, go_cond, go_region, go_loop, go_dregion, fin_nil, fin_seq_n, fin_seq_e, fin_seq_r, fin_seq_p, fin_blk_n, fin_blk_e, fin_blk_r, fin_blk_p, rg_nil, rg_cons, gK_t, gK_f, aK_op, aK_call, oK_val, oK_skip, fK_go, rK_ret, cK_t, cK_f, dg_nil, dg_cons, dGK_t, dGK_f, dAK_op, dS_q, dS_l, dS_w, dAK_call, dLK_go, dLK2_fp, dLK2_op, dQK_val, dOK_val, dOK_skip, dFK_go, dRK_ret, then_n, then_e, then_r, then_p, guardOk, opEv, oev, oevs, ofV_int, ofV_bool, ofV_str, ofV_nilS, ofV_nilP, ofV_nilM, ofV_nilF, ofV_nilI, List.toList_toArray, eget, setE, dropE, edel, penv, AOp.quiet, AOp.isLoad, pendOk, pendKeep, Nat.reduceEqDiff, ↓reduceIte, reduceCtorEq, bt1, bt2, bt3, bt4, b_add, b_sub, b_mul, b_eql, b_neq, b_lss, b_leq, b_gtr, b_geq, addA, ptr_fp, rel_fp, take1, List.drop_zero, List.drop_succ_cons, List.cons_append, List.nil_append, List.append_nil, Bool.not_true, Bool.not_false, decide_true, decide_false, true_and, and_true, Fin_ret, Fin_normal, rvsEv, rvEv, ex_some, resV, post_fin, ptrCells, reload, hget, hset, hdel, storeH, splice, takeV, cellsOf, AV.plain, and_self, List.take_succ_cons, List.take_zero, List.length_cons, List.length_nil, Nat.reduceAdd, Nat.reduceLeDiff, Nat.zero_add, Nat.add_zero, Nat.le_refl, List.getElem?_cons_zero, List.getElem?_cons_succ, partsE, partsE3, fillE, fillA, List.replicate_succ, List.replicate_zero, List.set_cons_zero, List.set_cons_succ, Nat.reduceLT, Nat.zero_lt_one, eq_self, List.contains_cons, List.contains_nil, Nat.reduceBEq, Bool.or_false, Bool.or_self, Bool.false_or, Bool.true_or, Bool.or_true, hc]
  refine ((w28 l _).frame _).mono ?_
  rintro y hh n2 ⟨h2, rfl, hn2, hd2, rfl, rfl, rfl⟩
  simp -implicitDefEqProofs only [go_skip, go_label, go_exit, go_ret, go_seq, go_block, go_cond, go_region, go_loop, go_dregion, fin_nil, fin_seq_n, fin_seq_e, fin_seq_r, fin_seq_p, fin_blk_n, fin_blk_e, fin_blk_r, fin_blk_p, rg_nil, rg_cons, gK_t, gK_f, aK_op, aK_call, oK_val, oK_skip, fK_go, rK_ret, cK_t, cK_f, dg_nil, dg_cons, dGK_t, dGK_f, dAK_op, dS_q, dS_l, dS_w, dAK_call, dLK_go, dLK2_fp, dLK2_op, dQK_val, dOK_val, dOK_skip, dFK_go, dRK_ret, then_n, then_e, then_r, then_p, guardOk, opEv, oev, oevs, ofV_int, ofV_bool, ofV_str, ofV_nilS, ofV_nilP, ofV_nilM, ofV_nilF, ofV_nilI, List.toList_toArray, eget, setE, dropE, edel, penv, AOp.quiet, AOp.isLoad, pendOk, pendKeep, Nat.reduceEqDiff, ↓reduceIte, reduceCtorEq, bt1, bt2, bt3, bt4, b_add, b_sub, b_mul, b_eql, b_neq, b_lss, b_leq, b_gtr, b_geq, addA, ptr_fp, rel_fp, take1, List.drop_zero, List.drop_succ_cons, List.cons_append, List.nil_append, List.append_nil, Bool.not_true, Bool.not_false, decide_true, decide_false, true_and, and_true, Fin_ret, Fin_normal, rvsEv, rvEv, ex_some, resV, post_fin, ptrCells, reload, hget, hset, hdel, storeH, splice, takeV, cellsOf, AV.plain, and_self, List.take_succ_cons, List.take_zero, List.length_cons, List.length_nil, Nat.reduceAdd, Nat.reduceLeDiff, Nat.zero_add, Nat.add_zero, Nat.le_refl, List.getElem?_cons_zero, List.getElem?_cons_succ, partsE, partsE3, fillE, fillA, List.replicate_succ, List.replicate_zero, List.set_cons_zero, List.set_cons_succ, Nat.reduceLT, Nat.zero_lt_one, eq_self, List.contains_cons, List.contains_nil, Nat.reduceBEq, Bool.or_false, Bool.or_self, Bool.false_or, Bool.true_or, Bool.or_true, go_rangeF]
  refine AW_rangeF (gf := 38) (caps := [.op (n' + 1) 0]) rfl fun fn ca cb has hbd => ?_
  dsimp only
  refine (w38 l hc hw (yb := n' + 3) (dm := n' + 2) (nb := n') (bc := n' + 1) (N0 := n' + 4) has hbd rfl
    (by rw [hget_cons, if_pos rfl]; rfl) (by rw [hget_cons, if_neg (by omega), hget_cons, if_pos rfl])
    (by rw [hget_cons, if_neg (by omega), hget_cons, if_neg (by omega), hget_cons, if_neg (by omega), hget_cons, if_pos rfl])
    (by rw [hget_cons, if_neg (by omega), hget_cons, if_neg (by omega), hget_cons, if_pos rfl]) (by omega) (by omega) (by omega) (by omega) (by omega) (by omega) (by omega)).mono ?_
  rintro y H n ⟨⟨x, rfl⟩, k1, k2, v, k3, ho, b1, b2, b3, hn⟩
  refine ⟨⟨_, rfl⟩, k1, ?_⟩
  have ho1 : OwnSl 5 1 (hdel H (n' + 3)) n v ((pkI l l.length).map byE) := ho.keep (Nat.le_refl _) fun b o hb hg => by
    rw [hget_hdel, if_neg (fun h => b1 (by rw [h]; exact hb))]; exact hg
  have d1 : hget (hdel H (n' + 3)) (n' + 2) = some .dfd := by rw [hget_hdel, if_neg (by omega)]; exact k2
  have d2 : ptrCells (hdel H (n' + 3)) (.op n' 0) = some [v] := by simp only [ptrCells]; rw [hget_hdel, if_neg (by omega), k3]; rfl
  have hdel1 : hdel H (n' + 1 + 1 + 1) = hdel H (n' + 3) := rfl
  obtain ⟨v2, h3, n3, ea, gg⟩ := ho1.grw (bytes := 1) (ns := [byE 0]) (byE_len _) (fun z hz => by simp at hz; subst hz; rfl) (by simp; omega) (by simp [maxLen]; omega)
  have ea2 : appA 5 1 1 (hdel H (n' + 3)) n v (.lst 1 [[.int .u8 0]]) = some (v2, h3, n3) := ea
  have hb : (pkI l l.length).map byE ++ [byE 0] = (packB l).map byE := by simp [packB]
  rw [hb] at gg
  obtain ⟨g1, g2, g3, g4⟩ := gg
  have d3 : hget h3 (n' + 2) = some .dfd := g3 _ _ (by omega) d1 b2
  have b4 : blkOf v2 ≠ some (n' + 2) := fun h => by
    rcases g4 _ h with h' | h'
    · omega
    · exact b2 h'
  have ho2 : OwnSl 5 1 (hdel h3 (n' + 2)) n3 v2 ((packB l).map byE) := g1.keep (Nat.le_refl _) fun b o hb hg => by
    rw [hget_hdel, if_neg (fun h => b4 (by rw [h]; exact hb))]; exact hg
  obtain ⟨h4, hf⟩ := ho2.frz (byE_len _)
  rw [post_fin]
  simp only [hdel1]
  generalize hdel H (n' + 3) = H1 at *
  have hFin : ∀ (env : Env), eget env 2 = some v2 → eget env 3 = some (.int .i64 0) → Ab.Fin R20 (fun y h' n' => ∃ v h2, y = AE.ret v ∧ Frz h' v h2 (AV.tup [bytesA (packB l), AV.int IntKind.i64 0])) .ret ⟨env, h3, n3, [n' + 1 + 1]⟩ := by
    intro env g2 g3
    refine ⟨⟨d3, trivial⟩, [v2, .int .i64 0], ?_, ?_⟩
    · simp [R20, rvsEv, rvEv, g2, g3]
    · exact ⟨_, _, rfl, Frz.head hf⟩
  simp -implicitDefEqProofs only [go_skip, go_label, go_exit, go_ret, go_seq, go_block, go_cond, go_region, go_loop, go_dregion, fin_nil, fin_seq_n, fin_seq_e, fin_seq_r, fin_seq_p, fin_blk_n, fin_blk_e, fin_blk_r, fin_blk_p, rg_nil, rg_cons, gK_t, gK_f, aK_op, aK_call, oK_val, oK_skip, fK_go, rK_ret, cK_t, cK_f, dg_nil, dg_cons, dGK_t, dGK_f, dAK_op, dS_q, dS_l, dS_w, dAK_call, dLK_go, dLK2_fp, dLK2_op, dQK_val, dOK_val, dOK_skip, dFK_go, dRK_ret, then_n, then_e, then_r, then_p, guardOk, opEv, oev, oevs, ofV_int, ofV_bool, ofV_str, ofV_nilS, ofV_nilP, ofV_nilM, ofV_nilF, ofV_nilI, List.toList_toArray, eget, setE, dropE, edel, penv, AOp.quiet, AOp.isLoad, pendOk, pendKeep, Nat.reduceEqDiff, ↓reduceIte, reduceCtorEq, bt1, bt2, bt3, bt4, b_add, b_sub, b_mul, b_eql, b_neq, b_lss, b_leq, b_gtr, b_geq, addA, ptr_fp, rel_fp, take1, List.drop_zero, List.drop_succ_cons, List.cons_append, List.nil_append, List.append_nil, Bool.not_true, Bool.not_false, decide_true, decide_false, true_and, and_true, Fin_ret, Fin_normal, rvsEv, rvEv, ex_some, resV, post_fin, takeV, cellsOf, AV.plain, and_self, List.take_succ_cons, List.take_zero, List.length_cons, List.length_nil, Nat.reduceAdd, Nat.reduceLeDiff, Nat.zero_add, Nat.add_zero, Nat.le_refl, List.getElem?_cons_zero, List.getElem?_cons_succ, partsE, partsE3, fillE, fillA, List.replicate_succ, List.replicate_zero, List.set_cons_zero, List.set_cons_succ, Nat.reduceLT, Nat.zero_lt_one, eq_self, List.contains_cons, List.contains_nil, Nat.reduceBEq, Bool.or_false, Bool.or_self, Bool.false_or, Bool.true_or, Bool.or_true, d2, ea2]
  exact hFin _ (by simp [eget]) (by simp [eget])
end Go.Proofs.Ytmnlfgnpmpebmaa
