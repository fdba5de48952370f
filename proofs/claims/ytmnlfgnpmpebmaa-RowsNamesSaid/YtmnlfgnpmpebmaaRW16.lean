/- Packed tables, read back: the reference's tables. -/
import Derived.Test.YtmnlfgnpmpebmaaRW15
namespace Go.Proofs.Ytmnlfgnpmpebmaa
open Go Go.Ab Go.Proofs
set_option linter.unusedVariables false
set_option linter.unusedSimpArgs false
set_option maxRecDepth 20000

structure Rdl (b : List Nat) (l : List (Int × Int)) (k : Nat) : Prop where
  le : k ≤ b.length
  cov : ∀ l', chk l' = 0 → wfR l' → b = packB l' → l.length ≤ l'.length ∧ l = l'.take l.length ∧ k = (pkI l l.length).length
  bnd : ∀ (j : Nat) (r : Int × Int), l[j]? = some r → 0 ≤ r.1 ∧ r.1 ≤ ((j : Int) + 1) * 4398046511104 ∧ -(((j : Int) + 1) * 4398046511104) ≤ r.2 ∧ r.2 ≤ ((j : Int) + 1) * 4398046511104
theorem Rdl.init (b : List Nat) : Rdl b [] 0 := ⟨Nat.zero_le _, fun l' _ _ _ => ⟨by simp, by simp, rfl⟩, fun j r h => by simp at h⟩
theorem Rdl.next {b : List Nat} {l : List (Int × Int)} {k : Nat} (h : Rdl b l k) {l' : List (Int × Int)} (hc : chk l' = 0) (hw : wfR l') (hb : b = packB l') :
    (l.length = l'.length ∧ l = l' ∧ b.drop k = [0]) ∨ ∃ r s, l'[l.length]? = some r ∧ b.drop k = rowB (r.1 - (prevR l l.length).1) (r.2 - (prevR l l.length).2) ++ s ∧
      0 ≤ r.1 - (prevR l l.length).1 ∧ r.1 - (prevR l l.length).1 < 4294967296 ∧ -2097152 < r.2 - (prevR l l.length).2 ∧ r.2 - (prevR l l.length).2 < 2097152 := by
  obtain ⟨h1, h2, h3⟩ := h.cov l' hc hw hb
  have hcg : ∀ j, j < l.length → l'[j]? = l[j]? := by
    intro j hj; rw [h2, List.getElem?_take, if_pos hj]
  have hpk : pkI l' l.length = pkI l l.length := pkI_congr _ hcg
  have hpv : prevR l' l.length = prevR l l.length := prevR_congr hcg (Nat.le_refl _)
  obtain ⟨s, s1, s2, s3⟩ := pack_rest h1
  have hdr : b.drop k = s := by rw [hb, s1, hpk, h3, List.drop_left]
  by_cases he : l.length = l'.length
  · refine .inl ⟨he, ?_, by rw [hdr, s2 he]⟩
    rw [h2, he, List.take_length]
  · have hr := List.getElem?_eq_getElem (show l.length < l'.length by omega)
    obtain ⟨s', hs'⟩ := s3 _ hr
    obtain ⟨a1, a2, a3, a4, a5, a6, a7, a8, a9⟩ := vstep hc hw hr
    rw [hpv] at hs' a1 a2 a3 a4 a6 a7
    exact .inr ⟨_, s', hr, by rw [hdr, hs'], by omega, by omega, by omega, by omega⟩
theorem Rdl.fail {b : List Nat} {l : List (Int × Int)} {k : Nat} (h : Rdl b l k) (h0 : ∀ x s, b.drop k = x :: s → x ≠ 0) (hn : rdRow (b.drop k) = none) : Non b := by
  intro l' hc hw hb
  rcases h.next hc hw hb with ⟨_, _, h1⟩ | ⟨r, s, _, h1, a1, a2, a3, a4⟩
  · exact h0 0 [] h1 rfl
  · rw [h1, rdRow_rowB s a1 a2 a3 a4] at hn; cases hn
theorem Rdl.last {b : List Nat} {l : List (Int × Int)} {k : Nat} (h : Rdl b l k) : 0 ≤ (prevR l l.length).1 ∧ (prevR l l.length).1 ≤ (l.length : Int) * 4398046511104 ∧ -((l.length : Int) * 4398046511104) ≤ (prevR l l.length).2 ∧ (prevR l l.length).2 ≤ (l.length : Int) * 4398046511104 := by
  cases hl : l.length with
  | zero => simp [prevR]
  | succ m =>
    have hm := List.getElem?_eq_getElem (show m < l.length by omega)
    rw [prevR_succ hm]
    have := h.bnd m _ hm
    have e : ((m + 1 : Nat) : Int) = (m : Int) + 1 := by omega
    rw [e]; exact this
theorem Rdl.wf {b : List Nat} {l : List (Int × Int)} {k : Nat} (h : Rdl b l k) (hl : l.length ≤ 2000) : wfR l := fun r hr => by
  obtain ⟨j, hj⟩ := List.getElem?_of_mem hr
  obtain ⟨a1, a2, _, _⟩ := h.bnd j r hj
  have hjl := (List.getElem?_eq_some_iff.1 hj).1
  have : ((j : Int) + 1) * 4398046511104 ≤ 2001 * 4398046511104 := Int.mul_le_mul_of_nonneg_right (by omega) (by omega)
  omega
theorem Rdl.done {b : List Nat} {l : List (Int × Int)} {k : Nat} (h : Rdl b l k) (he : b.length ≤ k ∨ (∃ s, b.drop k = 0 :: s) ∨ 1000 < l.length) : ∀ l', chk l' = 0 → wfR l' → b = packB l' → l = l' := by
  intro l' hc hw hb
  rcases h.next hc hw hb with ⟨_, h1, _⟩ | ⟨r, s, e1, h1, a1, a2, a3, a4⟩
  · exact h1
  · exfalso
    obtain ⟨x, s2, x1, x2⟩ := rowB_head (r.1 - (prevR l l.length).1) (r.2 - (prevR l l.length).2)
    have hx0 : x ≠ 0 := by
      rcases x2 with x2 | ⟨⟨c1, c2, c3, c4⟩, x2⟩ <;> omega
    rw [x1] at h1
    rcases he with he | ⟨s', he⟩ | he
    · rw [List.drop_eq_nil_of_le he] at h1; cases h1
    · rw [he] at h1; injection h1 with h1; exact hx0 h1.symm
    · have := (List.getElem?_eq_some_iff.1 e1).1
      have := (chk_ok hc).1
      omega
theorem Rdl.step {b : List Nat} {l : List (Int × Int)} {k : Nat} (h : Rdl b l k) {d n : Int} {k' : Nat} (h0 : ∀ x s, b.drop k = x :: s → x ≠ 0) (hk' : k' ≤ b.length) (hd0 : 0 ≤ d) (hd1 : d < 4398046511104) (hn0 : -4398046511104 < n) (hn1 : n < 4398046511104)
    (hr : ∀ d' n' c', rdRow (b.drop k) = some (d', n', c') → d' = d ∧ n' = n ∧ k' = k + c') : Rdl b (l ++ [((prevR l l.length).1 + d, (prevR l l.length).2 + n)]) k' := by
  have hcg : ∀ j, j < l.length → (l ++ [((prevR l l.length).1 + d, (prevR l l.length).2 + n)])[j]? = l[j]? := fun j hj => by rw [List.getElem?_append_left hj]
  have hlast : (l ++ [((prevR l l.length).1 + d, (prevR l l.length).2 + n)])[l.length]? = some ((prevR l l.length).1 + d, (prevR l l.length).2 + n) := by simp
  have hpk : pkI (l ++ [((prevR l l.length).1 + d, (prevR l l.length).2 + n)]) (l.length + 1) = pkI l l.length ++ rowB d n := by
    rw [pkI_succ hlast, pkI_congr _ hcg, prevR_congr hcg (Nat.le_refl _)]
    congr 2 <;> omega
  have hlen : (l ++ [((prevR l l.length).1 + d, (prevR l l.length).2 + n)]).length = l.length + 1 := by simp
  refine ⟨hk', fun l' hc hw hb => ?_, fun j r hj => ?_⟩
  · rw [hlen, hpk, List.length_append]
    rcases h.next hc hw hb with ⟨_, _, h1⟩ | ⟨r, s, e1, h1, a1, a2, a3, a4⟩
    · exact absurd rfl (h0 0 [] h1)
    · obtain ⟨b1, b2, b3⟩ := hr _ _ _ (by rw [h1, rdRow_rowB s a1 a2 a3 a4])
      have hi := (List.getElem?_eq_some_iff.1 e1).1
      obtain ⟨_, c2, c3⟩ := h.cov l' hc hw hb
      refine ⟨hi, ?_, by rw [b3, c3, b1, b2]⟩
      rw [List.take_add_one, e1, ← c2]
      have : r = ((prevR l l.length).1 + d, (prevR l l.length).2 + n) := by
        apply Prod.ext <;> simp only <;> omega
      rw [this]; rfl
  · rw [List.getElem?_append] at hj
    split at hj
    · exact h.bnd j r hj
    · rename_i hge
      have hjl : j = l.length := by
        have := (List.getElem?_eq_some_iff.1 hj).1
        simp at this; omega
      subst hjl
      simp at hj; subst hj
      simp only
      obtain ⟨q1, q2, q3, q4⟩ := h.last
      have : ((l.length : Int) + 1) * 4398046511104 = (l.length : Int) * 4398046511104 + 4398046511104 := by rw [Int.add_mul]; omega
      rw [this]
      omega

theorem w23 (b : List Nat) (out : List (Int × Int)) (e : Int) (hby : ∀ x ∈ b, x < 256) (hbl : b.length ≤ 1000000) (hu : Unp b out e) : Pure Try.prog 23 [bytesA b] (.tup [rowsA out, .int .i64 e]) := by
  refine Pure.frz fun N => ?_
  obtain ⟨Qv, hQ⟩ : ∃ Qv : AE → Heap → Nat → Prop, Qv = fun y h' n' => ∃ v h2, y = .ret v ∧ Frz h' v h2 (.tup [rowsA out, .int .i64 e]) := ⟨_, rfl⟩
  rw [← hQ]
  have bad : ∀ (h : Heap) (n : Nat), Non b → Qv (.ret (.tup [.nilS, .int .i64 12])) h n := by
    intro h n hn
    obtain ⟨e1, e2⟩ := hu.non hn
    rw [hQ, e1, e2]
    exact ⟨_, _, rfl, Frz.head (Frz.nilS _ _)⟩
  have lb := bytes_len b
  refine AC.go mixed is23 (by simp) ?_
  simp -implicitDefEqProofs only [go_skip, go_label, go_exit, go_ret, go_seq, go_block, go_cond, go_region, go_loop, go_dregion, fin_nil, fin_seq_n, fin_seq_e, fin_seq_r, fin_seq_p, fin_blk_n, fin_blk_e, fin_blk_r, fin_blk_p, rg_nil, rg_cons, gK_t, gK_f, aK_op, aK_call, oK_val, oK_skip, fK_go, rK_ret, cK_t, cK_f, dg_nil, dg_cons, dGK_t, dGK_f, dAK_op, dS_q, dS_l, dS_w, dAK_call, dLK_go, dLK2_fp, dLK2_op, dQK_val, dOK_val, dOK_skip, dFK_go, dRK_ret, then_n, then_e, then_r, then_p, guardOk, opEv, oev, oevs, ofV_int, ofV_bool, ofV_str, ofV_nilS, ofV_nilP, ofV_nilM, ofV_nilF, ofV_nilI, List.toList_toArray, eget, setE, dropE, edel, penv, AOp.quiet, AOp.isLoad, pendOk, pendKeep, Nat.reduceEqDiff, ↓reduceIte, reduceCtorEq, bt1, bt2, bt3, bt4, b_add, b_sub, b_mul, b_eql, b_neq, b_lss, b_leq, b_gtr, b_geq, addA, ptr_fp, rel_fp, take1, List.drop_zero, List.drop_succ_cons, List.cons_append, List.nil_append, List.append_nil, Bool.not_true, Bool.not_false, decide_true, decide_false, true_and, and_true, Fin_ret, Fin_normal, rvsEv, rvEv, ex_some, resV, post_fin, ptrCells, reload, hget, hset, hdel, storeH, splice, takeV, cellsOf, AV.plain, and_self, List.take_succ_cons, List.take_zero, List.length_cons, List.length_nil, Nat.reduceAdd, Nat.reduceLeDiff, Nat.zero_add, Nat.add_zero, Nat.le_refl, List.getElem?_cons_zero, List.getElem?_cons_succ, partsE, partsE3, fillE, fillA, List.replicate_succ, List.replicate_zero, List.set_cons_zero, List.set_cons_succ, Nat.reduceLT, Nat.zero_lt_one, eq_self, List.contains_cons, List.contains_nil, Nat.reduceBEq, Bool.or_false, Bool.or_self, Bool.false_or, Bool.true_or, Bool.or_true, A23]
  refine go_roundsF (fun q st => ∃ (l : List (Int × Int)) (k : Nat) (v : AV), Rdl b l k ∧ l.length ≤ 1001 ∧ q = b.length - k ∧ eget st.env 0 = some (bytesA b) ∧ eget st.env 4 = some v ∧ eget st.env 5 = some (.int .u64 (prevR l l.length).1) ∧ eget st.env 6 = some (.int .i64 (prevR l l.length).2) ∧ eget st.env 7 = some (.int .i64 (k : Int)) ∧ OwnSl 40 2 st.heap st.nx v (l.map rowE) ∧ st.dm = [])
    0 (fun st => ∃ (l : List (Int × Int)) (v : AV), l.length ≤ 1001 ∧ wfR l ∧ (∀ l', chk l' = 0 → wfR l' → b = packB l' → l = l') ∧ eget st.env 0 = some (bytesA b) ∧ eget st.env 4 = some v ∧ OwnSl 40 2 st.heap st.nx v (l.map rowE) ∧ st.dm = []) (n := b.length) mixed
    ⟨[], 0, .nilS, Rdl.init b, by simp, rfl, by simp [eget], by simp [eget], by simp [eget, prevR], by simp [eget, prevR], by simp [eget], .inl ⟨rfl, rfl⟩, rfl⟩ ?_ ?_
  · rintro q ⟨env, heap, nx', dm⟩ ⟨l, k, v, hrd, hl1001, rfl, a0, a4, a5, a6, a7, ho, hdm⟩
    simp only at a0 a4 a5 a6 a7 ho hdm
    subst hdm
    have lv := ho.len
    rw [List.length_map] at lv
    by_cases hkl : (k : Int) < (b.length : Int)
    case neg =>
      have hd := hrd.done (.inl (by omega))
      have hwf := hrd.wf (by omega)
      simp -implicitDefEqProofs only [go_skip, go_label, go_exit, go_ret, go_seq, go_block, go_cond, go_region, go_loop, go_dregion, fin_nil, fin_seq_n, fin_seq_e, fin_seq_r, fin_seq_p, fin_blk_n, fin_blk_e, fin_blk_r, fin_blk_p, rg_nil, rg_cons, gK_t, gK_f, aK_op, aK_call, oK_val, oK_skip, fK_go, rK_ret, cK_t, cK_f, dg_nil, dg_cons, dGK_t, dGK_f, dAK_op, dS_q, dS_l, dS_w, dAK_call, dLK_go, dLK2_fp, dLK2_op, dQK_val, dOK_val, dOK_skip, dFK_go, dRK_ret, then_n, then_e, then_r, then_p, guardOk, opEv, oev, oevs, ofV_int, ofV_bool, ofV_str, ofV_nilS, ofV_nilP, ofV_nilM, ofV_nilF, ofV_nilI, List.toList_toArray, eget, setE, dropE, edel, penv, AOp.quiet, AOp.isLoad, pendOk, pendKeep, Nat.reduceEqDiff, ↓reduceIte, reduceCtorEq, bt1, bt2, bt3, bt4, b_add, b_sub, b_mul, b_eql, b_neq, b_lss, b_leq, b_gtr, b_geq, addA, ptr_fp, rel_fp, take1, List.drop_zero, List.drop_succ_cons, List.cons_append, List.nil_append, List.append_nil, Bool.not_true, Bool.not_false, decide_true, decide_false, true_and, and_true, Fin_ret, Fin_normal, rvsEv, rvEv, ex_some, resV, post_fin, ptrCells, reload, hget, hset, hdel, storeH, splice, takeV, cellsOf, AV.plain, and_self, List.take_succ_cons, List.take_zero, List.length_cons, List.length_nil, Nat.reduceAdd, Nat.reduceLeDiff, Nat.zero_add, Nat.add_zero, Nat.le_refl, List.getElem?_cons_zero, List.getElem?_cons_succ, partsE, partsE3, fillE, fillA, List.replicate_succ, List.replicate_zero, List.set_cons_zero, List.set_cons_succ, Nat.reduceLT, Nat.zero_lt_one, eq_self, List.contains_cons, List.contains_nil, Nat.reduceBEq, Bool.or_false, Bool.or_self, Bool.false_or, Bool.true_or, Bool.or_true, exitJ_e, exitJ_r, exitJ_p, exitJ_n, A23l0, a0, a7, lb, hkl]
      refine ⟨l, v, ?_⟩
      repeat' apply And.intro
      all_goals first | assumption | rfl | omega | (simp [eget, *]; done)
    have hx := List.getElem?_eq_getElem (show k < b.length by omega)
    generalize b[k] = x at hx
    have hix := bytes_idx hx
    have hx256 := hby x (List.mem_of_getElem? hx)
    have hkl2 := (List.getElem?_eq_some_iff.1 hx).1
    have hdr : b.drop k = x :: b.drop (k + 1) := by
      rw [List.drop_eq_getElem_cons hkl2, (List.getElem?_eq_some_iff.1 hx).2]
    rcases dec_cases ((x : Int) = 0) with ⟨hx0, ex0⟩ | ⟨hx0, ex0⟩
    · have hd := hrd.done (.inr (.inl ⟨b.drop (k + 1), by rw [hdr]; congr 1; omega⟩))
      have hwf := hrd.wf (by omega)
      simp -implicitDefEqProofs only [go_skip, go_label, go_exit, go_ret, go_seq, go_block, go_cond, go_region, go_loop, go_dregion, fin_nil, fin_seq_n, fin_seq_e, fin_seq_r, fin_seq_p, fin_blk_n, fin_blk_e, fin_blk_r, fin_blk_p, rg_nil, rg_cons, gK_t, gK_f, aK_op, aK_call, oK_val, oK_skip, fK_go, rK_ret, cK_t, cK_f, dg_nil, dg_cons, dGK_t, dGK_f, dAK_op, dS_q, dS_l, dS_w, dAK_call, dLK_go, dLK2_fp, dLK2_op, dQK_val, dOK_val, dOK_skip, dFK_go, dRK_ret, then_n, then_e, then_r, then_p, guardOk, opEv, oev, oevs, ofV_int, ofV_bool, ofV_str, ofV_nilS, ofV_nilP, ofV_nilM, ofV_nilF, ofV_nilI, List.toList_toArray, eget, setE, dropE, edel, penv, AOp.quiet, AOp.isLoad, pendOk, pendKeep, Nat.reduceEqDiff, ↓reduceIte, reduceCtorEq, bt1, bt2, bt3, bt4, b_add, b_sub, b_mul, b_eql, b_neq, b_lss, b_leq, b_gtr, b_geq, addA, ptr_fp, rel_fp, take1, List.drop_zero, List.drop_succ_cons, List.cons_append, List.nil_append, List.append_nil, Bool.not_true, Bool.not_false, decide_true, decide_false, true_and, and_true, Fin_ret, Fin_normal, rvsEv, rvEv, ex_some, resV, post_fin, ptrCells, reload, hget, hset, hdel, storeH, splice, takeV, cellsOf, AV.plain, and_self, List.take_succ_cons, List.take_zero, List.length_cons, List.length_nil, Nat.reduceAdd, Nat.reduceLeDiff, Nat.zero_add, Nat.add_zero, Nat.le_refl, List.getElem?_cons_zero, List.getElem?_cons_succ, partsE, partsE3, fillE, fillA, List.replicate_succ, List.replicate_zero, List.set_cons_zero, List.set_cons_succ, Nat.reduceLT, Nat.zero_lt_one, eq_self, List.contains_cons, List.contains_nil, Nat.reduceBEq, Bool.or_false, Bool.or_self, Bool.false_or, Bool.true_or, Bool.or_true, exitJ_e, exitJ_r, exitJ_p, exitJ_n, A23l0, a0, a7, lb, hkl, hix, byE, ex0]
      refine ⟨l, v, ?_⟩
      repeat' apply And.intro
      all_goals first | assumption | rfl | omega | (simp [eget, *]; done)
    have badx : ∀ x' s, b.drop k = x' :: s → x' ≠ 0 := by
      intro x' s hs
      rw [hdr] at hs; injection hs with hs; omega
    by_cases hm : (l.length : Int) ≤ 1000
    case neg =>
      have hd := hrd.done (.inr (.inr (by omega)))
      have hwf := hrd.wf (by omega)
      simp -implicitDefEqProofs only [go_skip, go_label, go_exit, go_ret, go_seq, go_block, go_cond, go_region, go_loop, go_dregion, fin_nil, fin_seq_n, fin_seq_e, fin_seq_r, fin_seq_p, fin_blk_n, fin_blk_e, fin_blk_r, fin_blk_p, rg_nil, rg_cons, gK_t, gK_f, aK_op, aK_call, oK_val, oK_skip, fK_go, rK_ret, cK_t, cK_f, dg_nil, dg_cons, dGK_t, dGK_f, dAK_op, dS_q, dS_l, dS_w, dAK_call, dLK_go, dLK2_fp, dLK2_op, dQK_val, dOK_val, dOK_skip, dFK_go, dRK_ret, then_n, then_e, then_r, then_p, guardOk, opEv, oev, oevs, ofV_int, ofV_bool, ofV_str, ofV_nilS, ofV_nilP, ofV_nilM, ofV_nilF, ofV_nilI, List.toList_toArray, eget, setE, dropE, edel, penv, AOp.quiet, AOp.isLoad, pendOk, pendKeep, Nat.reduceEqDiff, ↓reduceIte, reduceCtorEq, bt1, bt2, bt3, bt4, b_add, b_sub, b_mul, b_eql, b_neq, b_lss, b_leq, b_gtr, b_geq, addA, ptr_fp, rel_fp, take1, List.drop_zero, List.drop_succ_cons, List.cons_append, List.nil_append, List.append_nil, Bool.not_true, Bool.not_false, decide_true, decide_false, true_and, and_true, Fin_ret, Fin_normal, rvsEv, rvEv, ex_some, resV, post_fin, ptrCells, reload, hget, hset, hdel, storeH, splice, takeV, cellsOf, AV.plain, and_self, List.take_succ_cons, List.take_zero, List.length_cons, List.length_nil, Nat.reduceAdd, Nat.reduceLeDiff, Nat.zero_add, Nat.add_zero, Nat.le_refl, List.getElem?_cons_zero, List.getElem?_cons_succ, partsE, partsE3, fillE, fillA, List.replicate_succ, List.replicate_zero, List.set_cons_zero, List.set_cons_succ, Nat.reduceLT, Nat.zero_lt_one, eq_self, List.contains_cons, List.contains_nil, Nat.reduceBEq, Bool.or_false, Bool.or_self, Bool.false_or, Bool.true_or, Bool.or_true, exitJ_e, exitJ_r, exitJ_p, exitJ_n, A23l0, a0, a4, a7, lb, hkl, hix, byE, ex0, lv, hm]
      refine ⟨l, v, ?_⟩
      repeat' apply And.intro
      all_goals first | assumption | rfl | omega | (simp [eget, *]; done)
    have hpb := hrd.last
    have hmul : (l.length : Int) * 4398046511104 ≤ 1000 * 4398046511104 := Int.mul_le_mul_of_nonneg_right (by omega) (by omega)
    have app : ∀ (r : Int × Int) (n : Nat), nx' ≤ n → ∃ v' h' n', appA 40 2 16 heap n v (.lst 2 [[.int .u64 r.1, .int .i64 r.2]]) = some (v', h', n') ∧ OwnSl 40 2 h' n' v' ((l ++ [r]).map rowE) := by
      intro r n hn
      obtain ⟨v', h7, n7, ea, g1, _⟩ := (ho.mono hn).grw (bytes := 16) (ns := [rowE r]) (rowE_len _) (fun z hz => by simp at hz; subst hz; rfl) (by simp; omega) (by simp [maxLen]; omega)
      refine ⟨v', h7, n7, ea, ?_⟩
      have hmp : l.map rowE ++ [rowE r] = (l ++ [r]).map rowE := by simp
      rw [← hmp]; exact g1
    have f7 : IntKind.i64.wrap ((k : Int) + 1) = ((k + 1 : Nat) : Int) := by rw [w64 (by omega) (by omega)]; omega
    by_cases h32 : (32 : Int) ≤ (x : Int)
    · have hrr : rdRow (b.drop k) = some ((((x - 32) / 16 + 1 : Nat) : Int), (((x - 32) % 16 : Nat) : Int) - 8, 1) := by
        rw [hdr]; simp only [rdRow]; rw [if_pos (by omega)]
      have r1 : IntKind.u8.wrap ((x : Int) - 32) = ((x - 32 : Nat) : Int) := by rw [IntKind.wrap_u8]; omega
      have r2 : IntKind.u64.wrap ((x - 32 : Nat) : Int) = ((x - 32 : Nat) : Int) := wu _ (by omega) (by omega)
      have r3 : IntKind.u64.wrap (((x - 32 : Nat) : Int).tdiv 16) = (((x - 32) / 16 : Nat) : Int) := by
        rw [Int.tdiv_eq_ediv_of_nonneg (Int.natCast_nonneg _), wu _ (by omega) (by omega)]; omega
      have r4 : IntKind.u64.wrap ((((x - 32) / 16 : Nat) : Int) + 1) = (((x - 32) / 16 + 1 : Nat) : Int) := by rw [wu _ (by omega) (by omega)]; omega
      have r5 : IntKind.i64.wrap ((x - 32 : Nat) : Int) = ((x - 32 : Nat) : Int) := by rw [w64 (by omega) (by omega)]
      have r6 : ((x - 32 : Nat) : Int).tmod 16 = (((x - 32) % 16 : Nat) : Int) := by rw [Int.tmod_eq_emod_of_nonneg (Int.natCast_nonneg _)]; omega
      have r7 : IntKind.i64.wrap ((((x - 32) % 16 : Nat) : Int) - 8) = (((x - 32) % 16 : Nat) : Int) - 8 := by rw [w64 (by omega) (by omega)]
      obtain ⟨D, hD⟩ : ∃ D : Int, D = (((x - 32) / 16 + 1 : Nat) : Int) := ⟨_, rfl⟩
      obtain ⟨M, hM⟩ : ∃ M : Int, M = (((x - 32) % 16 : Nat) : Int) - 8 := ⟨_, rfl⟩
      have r4 := r4.trans hD.symm
      have r7 := r7.trans hM.symm
      rw [← hD, ← hM] at hrr
      have hstep := hrd.step (d := D) (n := M) (k' := k + 1) badx (by omega) (by omega) (by omega) (by omega) (by omega) (fun d' n' c' h => by
        rw [hrr] at h; injection h with h; injection h with e1 h; injection h with e2 e3; exact ⟨e1.symm, e2.symm, by omega⟩)
      have hlast : prevR (l ++ [((prevR l l.length).1 + D, (prevR l l.length).2 + M)]) (l ++ [((prevR l l.length).1 + D, (prevR l l.length).2 + M)]).length = ((prevR l l.length).1 + D, (prevR l l.length).2 + M) := by
        rw [List.length_append]; exact prevR_succ (by simp)
      generalize hp : prevR l l.length = p at *
      have s1 : IntKind.u64.wrap (p.1 + D) = p.1 + D := wu _ (by omega) (by omega)
      have s2 : IntKind.i64.wrap (p.2 + M) = p.2 + M := by rw [w64 (by omega) (by omega)]
      obtain ⟨v', h', n', ea, ow⟩ := app (p.1 + D, p.2 + M) nx' (Nat.le_refl _)
      have hks := hstep.le
      simp -implicitDefEqProofs only [go_skip, go_label, go_exit, go_ret, go_seq, go_block, go_cond, go_region, go_loop, go_dregion, fin_nil, fin_seq_n, fin_seq_e, fin_seq_r, fin_seq_p, fin_blk_n, fin_blk_e, fin_blk_r, fin_blk_p, rg_nil, rg_cons, gK_t, gK_f, aK_op, aK_call, oK_val, oK_skip, fK_go, rK_ret, cK_t, cK_f, dg_nil, dg_cons, dGK_t, dGK_f, dAK_op, dS_q, dS_l, dS_w, dAK_call, dLK_go, dLK2_fp, dLK2_op, dQK_val, dOK_val, dOK_skip, dFK_go, dRK_ret, then_n, then_e, then_r, then_p, guardOk, opEv, oev, oevs, ofV_int, ofV_bool, ofV_str, ofV_nilS, ofV_nilP, ofV_nilM, ofV_nilF, ofV_nilI, List.toList_toArray, eget, setE, dropE, edel, penv, AOp.quiet, AOp.isLoad, pendOk, pendKeep, Nat.reduceEqDiff, ↓reduceIte, reduceCtorEq, bt1, bt2, bt3, bt4, b_add, b_sub, b_mul, b_eql, b_neq, b_lss, b_leq, b_gtr, b_geq, addA, ptr_fp, rel_fp, take1, List.drop_zero, List.drop_succ_cons, List.cons_append, List.nil_append, List.append_nil, Bool.not_true, Bool.not_false, decide_true, decide_false, true_and, and_true, Fin_ret, Fin_normal, rvsEv, rvEv, ex_some, resV, post_fin, ptrCells, reload, hget, hset, hdel, storeH, splice, takeV, cellsOf, AV.plain, and_self, List.take_succ_cons, List.take_zero, List.length_cons, List.length_nil, Nat.reduceAdd, Nat.reduceLeDiff, Nat.zero_add, Nat.add_zero, Nat.le_refl, List.getElem?_cons_zero, List.getElem?_cons_succ, partsE, partsE3, fillE, fillA, List.replicate_succ, List.replicate_zero, List.set_cons_zero, List.set_cons_succ, Nat.reduceLT, Nat.zero_lt_one, eq_self, List.contains_cons, List.contains_nil, Nat.reduceBEq, Bool.or_false, Bool.or_self, Bool.false_or, Bool.true_or, Bool.or_true, exitJ_e, exitJ_r, exitJ_p, exitJ_n, A23l0, a0, a4, a5, a6, a7, lb, hkl, hix, byE, ex0, lv, hm, h32, b_quo _ _ _ (show (16 : Int) ≠ 0 by decide), b_rem _ _ _ (show (16 : Int) ≠ 0 by decide), r1, r2, r3, r4, r5, r6, r7, s1, s2, f7, splice, ea]
      refine ⟨b.length - (k + 1), by omega, l ++ [(p.1 + D, p.2 + M)], k + 1, v', hstep, by simp; omega, rfl, ?_⟩
      rw [hlast]
      repeat' apply And.intro
      all_goals first | assumption | rfl | omega | (simp [eget, *]; done)
    · have f8 : IntKind.i64.wrap ((k : Int) + 1) = ((k + 1 : Nat) : Int) := f7
      simp -implicitDefEqProofs only [go_skip, go_label, go_exit, go_ret, go_seq, go_block, go_cond, go_region, go_loop, go_dregion, fin_nil, fin_seq_n, fin_seq_e, fin_seq_r, fin_seq_p, fin_blk_n, fin_blk_e, fin_blk_r, fin_blk_p, rg_nil, rg_cons, gK_t, gK_f, aK_op, aK_call, oK_val, oK_skip, fK_go, rK_ret, cK_t, cK_f, dg_nil, dg_cons, dGK_t, dGK_f, dAK_op, dS_q, dS_l, dS_w, dAK_call, dLK_go, dLK2_fp, dLK2_op, dQK_val, dOK_val, dOK_skip, dFK_go, dRK_ret, then_n, then_e, then_r, then_p, guardOk, opEv, oev, oevs, ofV_int, ofV_bool, ofV_str, ofV_nilS, ofV_nilP, ofV_nilM, ofV_nilF, ofV_nilI, List.toList_toArray, eget, setE, dropE, edel, penv, AOp.quiet, AOp.isLoad, pendOk, pendKeep, Nat.reduceEqDiff, ↓reduceIte, reduceCtorEq, bt1, bt2, bt3, bt4, b_add, b_sub, b_mul, b_eql, b_neq, b_lss, b_leq, b_gtr, b_geq, addA, ptr_fp, rel_fp, take1, List.drop_zero, List.drop_succ_cons, List.cons_append, List.nil_append, List.append_nil, Bool.not_true, Bool.not_false, decide_true, decide_false, true_and, and_true, Fin_ret, Fin_normal, rvsEv, rvEv, ex_some, resV, post_fin, ptrCells, reload, hget, hset, hdel, storeH, splice, takeV, cellsOf, AV.plain, and_self, List.take_succ_cons, List.take_zero, List.length_cons, List.length_nil, Nat.reduceAdd, Nat.reduceLeDiff, Nat.zero_add, Nat.add_zero, Nat.le_refl, List.getElem?_cons_zero, List.getElem?_cons_succ, partsE, partsE3, fillE, fillA, List.replicate_succ, List.replicate_zero, List.set_cons_zero, List.set_cons_succ, Nat.reduceLT, Nat.zero_lt_one, eq_self, List.contains_cons, List.contains_nil, Nat.reduceBEq, Bool.or_false, Bool.or_self, Bool.false_or, Bool.true_or, Bool.or_true, exitJ_e, exitJ_r, exitJ_p, exitJ_n, A23l0, a0, a4, a5, a6, a7, lb, hkl, hix, byE, ex0, lv, hm, h32, f7]
      refine (w36 b (k + 1) hby hbl (by omega)).use fun n1 hn1 => ?_
      have hrow : x = 1 → rdRow (b.drop k) = match rdN 5 true (b.drop (k + 1)) with
          | some (d, c) => (match rdN 5 true ((b.drop (k + 1)).drop c) with
            | some (z, c') => if short (d : Int) (unfZ z) then none else some ((d : Int), unfZ z, 1 + c + c')
            | none => none)
          | none => none := by
        intro h; rw [hdr]; simp only [rdRow]; rw [if_neg (by omega), if_pos h]; rfl
      have hrow0 : x ≠ 1 → rdRow (b.drop k) = none := by
        intro h; rw [hdr]; simp only [rdRow]; rw [if_neg (by omega), if_neg h]
      have hp6 : (128 : Nat) ^ 6 = 4398046511104 := by decide
      cases hr1 : rdL 6 (b.drop (k + 1)) with
      | none =>
        have hA : rdA b (k + 1) = (0, 0, false) := by unfold rdA; rw [hr1]
        rw [hA]
        have hbad : Non b := hrd.fail badx (by
          by_cases h1 : x = 1
          · rw [hrow h1]
            cases hn : rdN 5 true (b.drop (k + 1)) with
            | none => rfl
            | some q => have := rdL_of_rdN 5 1 true _ q hn; rw [hr1] at this; cases this
          · exact hrow0 h1)
        rcases dec_cases ((x : Int) = 1) with ⟨hx1, ex1⟩ | ⟨hx1, ex1⟩
        · simp -implicitDefEqProofs only [go_skip, go_label, go_exit, go_ret, go_seq, go_block, go_cond, go_region, go_loop, go_dregion, fin_nil, fin_seq_n, fin_seq_e, fin_seq_r, fin_seq_p, fin_blk_n, fin_blk_e, fin_blk_r, fin_blk_p, rg_nil, rg_cons, gK_t, gK_f, aK_op, aK_call, oK_val, oK_skip, fK_go, rK_ret, cK_t, cK_f, dg_nil, dg_cons, dGK_t, dGK_f, dAK_op, dS_q, dS_l, dS_w, dAK_call, dLK_go, dLK2_fp, dLK2_op, dQK_val, dOK_val, dOK_skip, dFK_go, dRK_ret, then_n, then_e, then_r, then_p, guardOk, opEv, oev, oevs, ofV_int, ofV_bool, ofV_str, ofV_nilS, ofV_nilP, ofV_nilM, ofV_nilF, ofV_nilI, List.toList_toArray, eget, setE, dropE, edel, penv, AOp.quiet, AOp.isLoad, pendOk, pendKeep, Nat.reduceEqDiff, ↓reduceIte, reduceCtorEq, bt1, bt2, bt3, bt4, b_add, b_sub, b_mul, b_eql, b_neq, b_lss, b_leq, b_gtr, b_geq, addA, ptr_fp, rel_fp, take1, List.drop_zero, List.drop_succ_cons, List.cons_append, List.nil_append, List.append_nil, Bool.not_true, Bool.not_false, decide_true, decide_false, true_and, and_true, Fin_ret, Fin_normal, rvsEv, rvEv, ex_some, resV, post_fin, ptrCells, reload, hget, hset, hdel, storeH, splice, takeV, cellsOf, AV.plain, and_self, List.take_succ_cons, List.take_zero, List.length_cons, List.length_nil, Nat.reduceAdd, Nat.reduceLeDiff, Nat.zero_add, Nat.add_zero, Nat.le_refl, List.getElem?_cons_zero, List.getElem?_cons_succ, partsE, partsE3, fillE, fillA, List.replicate_succ, List.replicate_zero, List.set_cons_zero, List.set_cons_succ, Nat.reduceLT, Nat.zero_lt_one, eq_self, List.contains_cons, List.contains_nil, Nat.reduceBEq, Bool.or_false, Bool.or_self, Bool.false_or, Bool.true_or, Bool.or_true, exitJ_e, exitJ_r, exitJ_p, exitJ_n, unA, a0, a7, hix, byE, ex1, R23]
          exact bad _ _ hbad
        · simp -implicitDefEqProofs only [go_skip, go_label, go_exit, go_ret, go_seq, go_block, go_cond, go_region, go_loop, go_dregion, fin_nil, fin_seq_n, fin_seq_e, fin_seq_r, fin_seq_p, fin_blk_n, fin_blk_e, fin_blk_r, fin_blk_p, rg_nil, rg_cons, gK_t, gK_f, aK_op, aK_call, oK_val, oK_skip, fK_go, rK_ret, cK_t, cK_f, dg_nil, dg_cons, dGK_t, dGK_f, dAK_op, dS_q, dS_l, dS_w, dAK_call, dLK_go, dLK2_fp, dLK2_op, dQK_val, dOK_val, dOK_skip, dFK_go, dRK_ret, then_n, then_e, then_r, then_p, guardOk, opEv, oev, oevs, ofV_int, ofV_bool, ofV_str, ofV_nilS, ofV_nilP, ofV_nilM, ofV_nilF, ofV_nilI, List.toList_toArray, eget, setE, dropE, edel, penv, AOp.quiet, AOp.isLoad, pendOk, pendKeep, Nat.reduceEqDiff, ↓reduceIte, reduceCtorEq, bt1, bt2, bt3, bt4, b_add, b_sub, b_mul, b_eql, b_neq, b_lss, b_leq, b_gtr, b_geq, addA, ptr_fp, rel_fp, take1, List.drop_zero, List.drop_succ_cons, List.cons_append, List.nil_append, List.append_nil, Bool.not_true, Bool.not_false, decide_true, decide_false, true_and, and_true, Fin_ret, Fin_normal, rvsEv, rvEv, ex_some, resV, post_fin, ptrCells, reload, hget, hset, hdel, storeH, splice, takeV, cellsOf, AV.plain, and_self, List.take_succ_cons, List.take_zero, List.length_cons, List.length_nil, Nat.reduceAdd, Nat.reduceLeDiff, Nat.zero_add, Nat.add_zero, Nat.le_refl, List.getElem?_cons_zero, List.getElem?_cons_succ, partsE, partsE3, fillE, fillA, List.replicate_succ, List.replicate_zero, List.set_cons_zero, List.set_cons_succ, Nat.reduceLT, Nat.zero_lt_one, eq_self, List.contains_cons, List.contains_nil, Nat.reduceBEq, Bool.or_false, Bool.or_self, Bool.false_or, Bool.true_or, Bool.or_true, exitJ_e, exitJ_r, exitJ_p, exitJ_n, unA, a0, a7, hix, byE, ex1, R23]
          exact bad _ _ hbad
      | some p1 =>
        obtain ⟨m1, c1⟩ := p1
        have hA : rdA b (k + 1) = (m1, k + 1 + c1, true) := by unfold rdA; rw [hr1]
        rw [hA]
        obtain ⟨hc1, hm1⟩ := rdL_bnd 6 _ m1 c1 hr1
        rw [List.length_drop] at hc1
        simp -implicitDefEqProofs only [go_skip, go_label, go_exit, go_ret, go_seq, go_block, go_cond, go_region, go_loop, go_dregion, fin_nil, fin_seq_n, fin_seq_e, fin_seq_r, fin_seq_p, fin_blk_n, fin_blk_e, fin_blk_r, fin_blk_p, rg_nil, rg_cons, gK_t, gK_f, aK_op, aK_call, oK_val, oK_skip, fK_go, rK_ret, cK_t, cK_f, dg_nil, dg_cons, dGK_t, dGK_f, dAK_op, dS_q, dS_l, dS_w, dAK_call, dLK_go, dLK2_fp, dLK2_op, dQK_val, dOK_val, dOK_skip, dFK_go, dRK_ret, then_n, then_e, then_r, then_p, guardOk, opEv, oev, oevs, ofV_int, ofV_bool, ofV_str, ofV_nilS, ofV_nilP, ofV_nilM, ofV_nilF, ofV_nilI, List.toList_toArray, eget, setE, dropE, edel, penv, AOp.quiet, AOp.isLoad, pendOk, pendKeep, Nat.reduceEqDiff, ↓reduceIte, reduceCtorEq, bt1, bt2, bt3, bt4, b_add, b_sub, b_mul, b_eql, b_neq, b_lss, b_leq, b_gtr, b_geq, addA, ptr_fp, rel_fp, take1, List.drop_zero, List.drop_succ_cons, List.cons_append, List.nil_append, List.append_nil, Bool.not_true, Bool.not_false, decide_true, decide_false, true_and, and_true, Fin_ret, Fin_normal, rvsEv, rvEv, ex_some, resV, post_fin, ptrCells, reload, hget, hset, hdel, storeH, splice, takeV, cellsOf, AV.plain, and_self, List.take_succ_cons, List.take_zero, List.length_cons, List.length_nil, Nat.reduceAdd, Nat.reduceLeDiff, Nat.zero_add, Nat.add_zero, Nat.le_refl, List.getElem?_cons_zero, List.getElem?_cons_succ, partsE, partsE3, fillE, fillA, List.replicate_succ, List.replicate_zero, List.set_cons_zero, List.set_cons_succ, Nat.reduceLT, Nat.zero_lt_one, eq_self, List.contains_cons, List.contains_nil, Nat.reduceBEq, Bool.or_false, Bool.or_self, Bool.false_or, Bool.true_or, Bool.or_true, exitJ_e, exitJ_r, exitJ_p, exitJ_n, unA, a0, a7, hix, byE]
        refine (w36 b (k + 1 + c1) hby hbl (by omega)).use fun n2 hn2 => ?_
        cases hr2 : rdL 6 (b.drop (k + 1 + c1)) with
        | none =>
          have hA2 : rdA b (k + 1 + c1) = (0, 0, false) := by unfold rdA; rw [hr2]
          rw [hA2]
          have hbad : Non b := hrd.fail badx (by
            by_cases h1 : x = 1
            · rw [hrow h1]
              cases hn : rdN 5 true (b.drop (k + 1)) with
              | none => rfl
              | some q =>
                obtain ⟨d', c'⟩ := q
                have h5 := rdL_of_rdN 5 1 true _ _ hn
                rw [hr1] at h5; injection h5 with h5; injection h5 with e1 e2; subst e1; subst e2
                simp only
                rw [List.drop_drop]
                cases hn2 : rdN 5 true (b.drop (k + 1 + c1)) with
                | none => rfl
                | some q => have := rdL_of_rdN 5 1 true _ q hn2; rw [hr2] at this; cases this
            · exact hrow0 h1)
          rcases dec_cases ((x : Int) = 1) with ⟨hx1, ex1⟩ | ⟨hx1, ex1⟩
          · simp -implicitDefEqProofs only [go_skip, go_label, go_exit, go_ret, go_seq, go_block, go_cond, go_region, go_loop, go_dregion, fin_nil, fin_seq_n, fin_seq_e, fin_seq_r, fin_seq_p, fin_blk_n, fin_blk_e, fin_blk_r, fin_blk_p, rg_nil, rg_cons, gK_t, gK_f, aK_op, aK_call, oK_val, oK_skip, fK_go, rK_ret, cK_t, cK_f, dg_nil, dg_cons, dGK_t, dGK_f, dAK_op, dS_q, dS_l, dS_w, dAK_call, dLK_go, dLK2_fp, dLK2_op, dQK_val, dOK_val, dOK_skip, dFK_go, dRK_ret, then_n, then_e, then_r, then_p, guardOk, opEv, oev, oevs, ofV_int, ofV_bool, ofV_str, ofV_nilS, ofV_nilP, ofV_nilM, ofV_nilF, ofV_nilI, List.toList_toArray, eget, setE, dropE, edel, penv, AOp.quiet, AOp.isLoad, pendOk, pendKeep, Nat.reduceEqDiff, ↓reduceIte, reduceCtorEq, bt1, bt2, bt3, bt4, b_add, b_sub, b_mul, b_eql, b_neq, b_lss, b_leq, b_gtr, b_geq, addA, ptr_fp, rel_fp, take1, List.drop_zero, List.drop_succ_cons, List.cons_append, List.nil_append, List.append_nil, Bool.not_true, Bool.not_false, decide_true, decide_false, true_and, and_true, Fin_ret, Fin_normal, rvsEv, rvEv, ex_some, resV, post_fin, ptrCells, reload, hget, hset, hdel, storeH, splice, takeV, cellsOf, AV.plain, and_self, List.take_succ_cons, List.take_zero, List.length_cons, List.length_nil, Nat.reduceAdd, Nat.reduceLeDiff, Nat.zero_add, Nat.add_zero, Nat.le_refl, List.getElem?_cons_zero, List.getElem?_cons_succ, partsE, partsE3, fillE, fillA, List.replicate_succ, List.replicate_zero, List.set_cons_zero, List.set_cons_succ, Nat.reduceLT, Nat.zero_lt_one, eq_self, List.contains_cons, List.contains_nil, Nat.reduceBEq, Bool.or_false, Bool.or_self, Bool.false_or, Bool.true_or, Bool.or_true, exitJ_e, exitJ_r, exitJ_p, exitJ_n, unA, a0, a7, hix, byE, ex1, R23]
            exact bad _ _ hbad
          · simp -implicitDefEqProofs only [go_skip, go_label, go_exit, go_ret, go_seq, go_block, go_cond, go_region, go_loop, go_dregion, fin_nil, fin_seq_n, fin_seq_e, fin_seq_r, fin_seq_p, fin_blk_n, fin_blk_e, fin_blk_r, fin_blk_p, rg_nil, rg_cons, gK_t, gK_f, aK_op, aK_call, oK_val, oK_skip, fK_go, rK_ret, cK_t, cK_f, dg_nil, dg_cons, dGK_t, dGK_f, dAK_op, dS_q, dS_l, dS_w, dAK_call, dLK_go, dLK2_fp, dLK2_op, dQK_val, dOK_val, dOK_skip, dFK_go, dRK_ret, then_n, then_e, then_r, then_p, guardOk, opEv, oev, oevs, ofV_int, ofV_bool, ofV_str, ofV_nilS, ofV_nilP, ofV_nilM, ofV_nilF, ofV_nilI, List.toList_toArray, eget, setE, dropE, edel, penv, AOp.quiet, AOp.isLoad, pendOk, pendKeep, Nat.reduceEqDiff, ↓reduceIte, reduceCtorEq, bt1, bt2, bt3, bt4, b_add, b_sub, b_mul, b_eql, b_neq, b_lss, b_leq, b_gtr, b_geq, addA, ptr_fp, rel_fp, take1, List.drop_zero, List.drop_succ_cons, List.cons_append, List.nil_append, List.append_nil, Bool.not_true, Bool.not_false, decide_true, decide_false, true_and, and_true, Fin_ret, Fin_normal, rvsEv, rvEv, ex_some, resV, post_fin, ptrCells, reload, hget, hset, hdel, storeH, splice, takeV, cellsOf, AV.plain, and_self, List.take_succ_cons, List.take_zero, List.length_cons, List.length_nil, Nat.reduceAdd, Nat.reduceLeDiff, Nat.zero_add, Nat.add_zero, Nat.le_refl, List.getElem?_cons_zero, List.getElem?_cons_succ, partsE, partsE3, fillE, fillA, List.replicate_succ, List.replicate_zero, List.set_cons_zero, List.set_cons_succ, Nat.reduceLT, Nat.zero_lt_one, eq_self, List.contains_cons, List.contains_nil, Nat.reduceBEq, Bool.or_false, Bool.or_self, Bool.false_or, Bool.true_or, Bool.or_true, exitJ_e, exitJ_r, exitJ_p, exitJ_n, unA, a0, a7, hix, byE, ex1, R23]
            exact bad _ _ hbad
        | some p2 =>
          obtain ⟨m2, c2⟩ := p2
          have hA2 : rdA b (k + 1 + c1) = (m2, k + 1 + c1 + c2, true) := by unfold rdA; rw [hr2]
          rw [hA2]
          obtain ⟨hc2, hm2⟩ := rdL_bnd 6 _ m2 c2 hr2
          rw [List.length_drop] at hc2
          rcases dec_cases ((x : Int) = 1) with ⟨hx1, ex1⟩ | ⟨hx1, ex1⟩
          case inr =>
            have hbad : Non b := hrd.fail badx (hrow0 (by omega))
            simp -implicitDefEqProofs only [go_skip, go_label, go_exit, go_ret, go_seq, go_block, go_cond, go_region, go_loop, go_dregion, fin_nil, fin_seq_n, fin_seq_e, fin_seq_r, fin_seq_p, fin_blk_n, fin_blk_e, fin_blk_r, fin_blk_p, rg_nil, rg_cons, gK_t, gK_f, aK_op, aK_call, oK_val, oK_skip, fK_go, rK_ret, cK_t, cK_f, dg_nil, dg_cons, dGK_t, dGK_f, dAK_op, dS_q, dS_l, dS_w, dAK_call, dLK_go, dLK2_fp, dLK2_op, dQK_val, dOK_val, dOK_skip, dFK_go, dRK_ret, then_n, then_e, then_r, then_p, guardOk, opEv, oev, oevs, ofV_int, ofV_bool, ofV_str, ofV_nilS, ofV_nilP, ofV_nilM, ofV_nilF, ofV_nilI, List.toList_toArray, eget, setE, dropE, edel, penv, AOp.quiet, AOp.isLoad, pendOk, pendKeep, Nat.reduceEqDiff, ↓reduceIte, reduceCtorEq, bt1, bt2, bt3, bt4, b_add, b_sub, b_mul, b_eql, b_neq, b_lss, b_leq, b_gtr, b_geq, addA, ptr_fp, rel_fp, take1, List.drop_zero, List.drop_succ_cons, List.cons_append, List.nil_append, List.append_nil, Bool.not_true, Bool.not_false, decide_true, decide_false, true_and, and_true, Fin_ret, Fin_normal, rvsEv, rvEv, ex_some, resV, post_fin, ptrCells, reload, hget, hset, hdel, storeH, splice, takeV, cellsOf, AV.plain, and_self, List.take_succ_cons, List.take_zero, List.length_cons, List.length_nil, Nat.reduceAdd, Nat.reduceLeDiff, Nat.zero_add, Nat.add_zero, Nat.le_refl, List.getElem?_cons_zero, List.getElem?_cons_succ, partsE, partsE3, fillE, fillA, List.replicate_succ, List.replicate_zero, List.set_cons_zero, List.set_cons_succ, Nat.reduceLT, Nat.zero_lt_one, eq_self, List.contains_cons, List.contains_nil, Nat.reduceBEq, Bool.or_false, Bool.or_self, Bool.false_or, Bool.true_or, Bool.or_true, exitJ_e, exitJ_r, exitJ_p, exitJ_n, unA, a0, a7, hix, byE, ex1, R23]
            exact bad _ _ hbad
          have hub : -4398046511104 < unfZ m2 ∧ unfZ m2 < 4398046511104 := by unfold unfZ; split <;> omega
          have hstep := hrd.step (d := (m1 : Int)) (n := unfZ m2) (k' := k + 1 + c1 + c2) badx (by omega) (by omega) (by omega) hub.1 hub.2 (fun d' n' c' h => by
            rw [hrow (by omega)] at h
            cases hn : rdN 5 true (b.drop (k + 1)) with
            | none => rw [hn] at h; cases h
            | some q =>
              obtain ⟨d2, c3⟩ := q
              have h5 := rdL_of_rdN 5 1 true _ _ hn
              rw [hr1] at h5; injection h5 with h5; injection h5 with e1 e2; subst e1; subst e2
              rw [hn] at h
              simp only at h
              rw [List.drop_drop] at h
              cases hn2 : rdN 5 true (b.drop (k + 1 + c1)) with
              | none => rw [hn2] at h; cases h
              | some q =>
                obtain ⟨z2, c4⟩ := q
                have h6 := rdL_of_rdN 5 1 true _ _ hn2
                rw [hr2] at h6; injection h6 with h6; injection h6 with e1 e2; subst e1; subst e2
                rw [hn2] at h
                simp only at h
                split at h
                · cases h
                · injection h with h; injection h with e1 h; injection h with e2 e3
                  exact ⟨e1.symm, e2.symm, by omega⟩)
          have hlast : prevR (l ++ [((prevR l l.length).1 + (m1 : Int), (prevR l l.length).2 + unfZ m2)]) (l ++ [((prevR l l.length).1 + (m1 : Int), (prevR l l.length).2 + unfZ m2)]).length = ((prevR l l.length).1 + (m1 : Int), (prevR l l.length).2 + unfZ m2) := by
            rw [List.length_append]; exact prevR_succ (by simp)
          generalize hp : prevR l l.length = p at *
          have s1 : IntKind.u64.wrap (p.1 + (m1 : Int)) = p.1 + (m1 : Int) := wu _ (by omega) (by omega)
          have zr : (m2 : Int).tmod 2 = ((m2 % 2 : Nat) : Int) := by rw [Int.tmod_eq_emod_of_nonneg (Int.natCast_nonneg _)]; omega
          have zq : IntKind.u64.wrap ((m2 : Int).tdiv 2) = ((m2 / 2 : Nat) : Int) := by
            rw [Int.tdiv_eq_ediv_of_nonneg (Int.natCast_nonneg _), wu _ (by omega) (by omega)]; omega
          have zc : IntKind.i64.wrap ((m2 / 2 : Nat) : Int) = ((m2 / 2 : Nat) : Int) := by rw [w64 (by omega) (by omega)]
          obtain ⟨v', h', n', ea, ow⟩ := app (p.1 + (m1 : Int), p.2 + unfZ m2) n2 (by omega)
          have hks := hstep.le
          rcases dec_cases (((m2 % 2 : Nat) : Int) = 0) with ⟨hz, ez⟩ | ⟨hz, ez⟩
          · have s2 : IntKind.i64.wrap (p.2 + ((m2 / 2 : Nat) : Int)) = p.2 + unfZ m2 := by
              rw [w64 (by omega) (by omega), unfZ, if_neg (by omega)]
            simp -implicitDefEqProofs only [go_skip, go_label, go_exit, go_ret, go_seq, go_block, go_cond, go_region, go_loop, go_dregion, fin_nil, fin_seq_n, fin_seq_e, fin_seq_r, fin_seq_p, fin_blk_n, fin_blk_e, fin_blk_r, fin_blk_p, rg_nil, rg_cons, gK_t, gK_f, aK_op, aK_call, oK_val, oK_skip, fK_go, rK_ret, cK_t, cK_f, dg_nil, dg_cons, dGK_t, dGK_f, dAK_op, dS_q, dS_l, dS_w, dAK_call, dLK_go, dLK2_fp, dLK2_op, dQK_val, dOK_val, dOK_skip, dFK_go, dRK_ret, then_n, then_e, then_r, then_p, guardOk, opEv, oev, oevs, ofV_int, ofV_bool, ofV_str, ofV_nilS, ofV_nilP, ofV_nilM, ofV_nilF, ofV_nilI, List.toList_toArray, eget, setE, dropE, edel, penv, AOp.quiet, AOp.isLoad, pendOk, pendKeep, Nat.reduceEqDiff, ↓reduceIte, reduceCtorEq, bt1, bt2, bt3, bt4, b_add, b_sub, b_mul, b_eql, b_neq, b_lss, b_leq, b_gtr, b_geq, addA, ptr_fp, rel_fp, take1, List.drop_zero, List.drop_succ_cons, List.cons_append, List.nil_append, List.append_nil, Bool.not_true, Bool.not_false, decide_true, decide_false, true_and, and_true, Fin_ret, Fin_normal, rvsEv, rvEv, ex_some, resV, post_fin, ptrCells, reload, hget, hset, hdel, storeH, splice, takeV, cellsOf, AV.plain, and_self, List.take_succ_cons, List.take_zero, List.length_cons, List.length_nil, Nat.reduceAdd, Nat.reduceLeDiff, Nat.zero_add, Nat.add_zero, Nat.le_refl, List.getElem?_cons_zero, List.getElem?_cons_succ, partsE, partsE3, fillE, fillA, List.replicate_succ, List.replicate_zero, List.set_cons_zero, List.set_cons_succ, Nat.reduceLT, Nat.zero_lt_one, eq_self, List.contains_cons, List.contains_nil, Nat.reduceBEq, Bool.or_false, Bool.or_self, Bool.false_or, Bool.true_or, Bool.or_true, exitJ_e, exitJ_r, exitJ_p, exitJ_n, unA, a0, a7, hix, byE, a4, a5, a6, ex1, s1, b_rem _ _ _ (show (2 : Int) ≠ 0 by decide), b_quo _ _ _ (show (2 : Int) ≠ 0 by decide), zr, ez, zq, zc, s2, ea]
            refine ⟨b.length - (k + 1 + c1 + c2), by omega, l ++ [(p.1 + (m1 : Int), p.2 + unfZ m2)], k + 1 + c1 + c2, v', hstep, by simp; omega, rfl, ?_⟩
            rw [hlast]
            repeat' apply And.intro
            all_goals first | assumption | rfl | omega | (simp [eget, *]; done)
          · have s3 : IntKind.i64.wrap (((m2 / 2 : Nat) : Int) + 1) = ((m2 / 2 : Nat) : Int) + 1 := by rw [w64 (by omega) (by omega)]
            have s2 : IntKind.i64.wrap (p.2 - (((m2 / 2 : Nat) : Int) + 1)) = p.2 + unfZ m2 := by
              rw [w64 (by omega) (by omega), unfZ, if_pos (by omega)]; omega
            simp -implicitDefEqProofs only [go_skip, go_label, go_exit, go_ret, go_seq, go_block, go_cond, go_region, go_loop, go_dregion, fin_nil, fin_seq_n, fin_seq_e, fin_seq_r, fin_seq_p, fin_blk_n, fin_blk_e, fin_blk_r, fin_blk_p, rg_nil, rg_cons, gK_t, gK_f, aK_op, aK_call, oK_val, oK_skip, fK_go, rK_ret, cK_t, cK_f, dg_nil, dg_cons, dGK_t, dGK_f, dAK_op, dS_q, dS_l, dS_w, dAK_call, dLK_go, dLK2_fp, dLK2_op, dQK_val, dOK_val, dOK_skip, dFK_go, dRK_ret, then_n, then_e, then_r, then_p, guardOk, opEv, oev, oevs, ofV_int, ofV_bool, ofV_str, ofV_nilS, ofV_nilP, ofV_nilM, ofV_nilF, ofV_nilI, List.toList_toArray, eget, setE, dropE, edel, penv, AOp.quiet, AOp.isLoad, pendOk, pendKeep, Nat.reduceEqDiff, ↓reduceIte, reduceCtorEq, bt1, bt2, bt3, bt4, b_add, b_sub, b_mul, b_eql, b_neq, b_lss, b_leq, b_gtr, b_geq, addA, ptr_fp, rel_fp, take1, List.drop_zero, List.drop_succ_cons, List.cons_append, List.nil_append, List.append_nil, Bool.not_true, Bool.not_false, decide_true, decide_false, true_and, and_true, Fin_ret, Fin_normal, rvsEv, rvEv, ex_some, resV, post_fin, ptrCells, reload, hget, hset, hdel, storeH, splice, takeV, cellsOf, AV.plain, and_self, List.take_succ_cons, List.take_zero, List.length_cons, List.length_nil, Nat.reduceAdd, Nat.reduceLeDiff, Nat.zero_add, Nat.add_zero, Nat.le_refl, List.getElem?_cons_zero, List.getElem?_cons_succ, partsE, partsE3, fillE, fillA, List.replicate_succ, List.replicate_zero, List.set_cons_zero, List.set_cons_succ, Nat.reduceLT, Nat.zero_lt_one, eq_self, List.contains_cons, List.contains_nil, Nat.reduceBEq, Bool.or_false, Bool.or_self, Bool.false_or, Bool.true_or, Bool.or_true, exitJ_e, exitJ_r, exitJ_p, exitJ_n, unA, a0, a7, hix, byE, a4, a5, a6, ex1, s1, b_rem _ _ _ (show (2 : Int) ≠ 0 by decide), b_quo _ _ _ (show (2 : Int) ≠ 0 by decide), zr, ez, zq, zc, s3, s2, ea]
            refine ⟨b.length - (k + 1 + c1 + c2), by omega, l ++ [(p.1 + (m1 : Int), p.2 + unfZ m2)], k + 1 + c1 + c2, v', hstep, by simp; omega, rfl, ?_⟩
            rw [hlast]
            repeat' apply And.intro
            all_goals first | assumption | rfl | omega | (simp [eget, *]; done)
  · rintro ⟨env, heap, nx', dm⟩ ⟨l, v, hll, hwf, hdone, a0, a4, ho, hdm⟩
    simp only at a0 a4 ho hdm
    subst hdm
    obtain ⟨h', hf⟩ := ho.frz (rowE_len l)
    refine ⟨4, v, rowsA l, h', a4, hf, ?_⟩
    obtain ⟨again, e', hp⟩ := pkd_some l
    rw [post_fin]
    simp -implicitDefEqProofs only [go_skip, go_label, go_exit, go_ret, go_seq, go_block, go_cond, go_region, go_loop, go_dregion, fin_nil, fin_seq_n, fin_seq_e, fin_seq_r, fin_seq_p, fin_blk_n, fin_blk_e, fin_blk_r, fin_blk_p, rg_nil, rg_cons, gK_t, gK_f, aK_op, aK_call, oK_val, oK_skip, fK_go, rK_ret, cK_t, cK_f, dg_nil, dg_cons, dGK_t, dGK_f, dAK_op, dS_q, dS_l, dS_w, dAK_call, dLK_go, dLK2_fp, dLK2_op, dQK_val, dOK_val, dOK_skip, dFK_go, dRK_ret, then_n, then_e, then_r, then_p, guardOk, opEv, oev, oevs, ofV_int, ofV_bool, ofV_str, ofV_nilS, ofV_nilP, ofV_nilM, ofV_nilF, ofV_nilI, List.toList_toArray, eget, setE, dropE, edel, penv, AOp.quiet, AOp.isLoad, pendOk, pendKeep, Nat.reduceEqDiff, ↓reduceIte, reduceCtorEq, bt1, bt2, bt3, bt4, b_add, b_sub, b_mul, b_eql, b_neq, b_lss, b_leq, b_gtr, b_geq, addA, ptr_fp, rel_fp, take1, List.drop_zero, List.drop_succ_cons, List.cons_append, List.nil_append, List.append_nil, Bool.not_true, Bool.not_false, decide_true, decide_false, true_and, and_true, Fin_ret, Fin_normal, rvsEv, rvEv, ex_some, resV, post_fin, ptrCells, reload, hget, hset, hdel, storeH, splice, takeV, cellsOf, AV.plain, and_self, List.take_succ_cons, List.take_zero, List.length_cons, List.length_nil, Nat.reduceAdd, Nat.reduceLeDiff, Nat.zero_add, Nat.add_zero, Nat.le_refl, List.getElem?_cons_zero, List.getElem?_cons_succ, partsE, partsE3, fillE, fillA, List.replicate_succ, List.replicate_zero, List.set_cons_zero, List.set_cons_succ, Nat.reduceLT, Nat.zero_lt_one, eq_self, List.contains_cons, List.contains_nil, Nat.reduceBEq, Bool.or_false, Bool.or_self, Bool.false_or, Bool.true_or, Bool.or_true]
    refine (w21 l again e' (by omega) hwf hp).use fun n1 hn1 => ?_
    rcases dec_cases (e' = 0) with ⟨he, ee⟩ | ⟨he, ee⟩
    · obtain ⟨hc, hag⟩ : chk l = 0 ∧ again = packB l := by
        rcases hp with ⟨h1, _, h2⟩ | ⟨h1, h2, _⟩
        · exact absurd (h2.symm.trans he) h1
        · exact ⟨h1, h2⟩
      have hal : again.length ≤ 1000000 := by
        have := pkI_len hc hwf l.length (Nat.le_refl _)
        rw [hag, packB, List.length_append]; simp; omega
      simp -implicitDefEqProofs only [go_skip, go_label, go_exit, go_ret, go_seq, go_block, go_cond, go_region, go_loop, go_dregion, fin_nil, fin_seq_n, fin_seq_e, fin_seq_r, fin_seq_p, fin_blk_n, fin_blk_e, fin_blk_r, fin_blk_p, rg_nil, rg_cons, gK_t, gK_f, aK_op, aK_call, oK_val, oK_skip, fK_go, rK_ret, cK_t, cK_f, dg_nil, dg_cons, dGK_t, dGK_f, dAK_op, dS_q, dS_l, dS_w, dAK_call, dLK_go, dLK2_fp, dLK2_op, dQK_val, dOK_val, dOK_skip, dFK_go, dRK_ret, then_n, then_e, then_r, then_p, guardOk, opEv, oev, oevs, ofV_int, ofV_bool, ofV_str, ofV_nilS, ofV_nilP, ofV_nilM, ofV_nilF, ofV_nilI, List.toList_toArray, eget, setE, dropE, edel, penv, AOp.quiet, AOp.isLoad, pendOk, pendKeep, Nat.reduceEqDiff, ↓reduceIte, reduceCtorEq, bt1, bt2, bt3, bt4, b_add, b_sub, b_mul, b_eql, b_neq, b_lss, b_leq, b_gtr, b_geq, addA, ptr_fp, rel_fp, take1, List.drop_zero, List.drop_succ_cons, List.cons_append, List.nil_append, List.append_nil, Bool.not_true, Bool.not_false, decide_true, decide_false, true_and, and_true, Fin_ret, Fin_normal, rvsEv, rvEv, ex_some, resV, post_fin, ptrCells, reload, hget, hset, hdel, storeH, splice, takeV, cellsOf, AV.plain, and_self, List.take_succ_cons, List.take_zero, List.length_cons, List.length_nil, Nat.reduceAdd, Nat.reduceLeDiff, Nat.zero_add, Nat.add_zero, Nat.le_refl, List.getElem?_cons_zero, List.getElem?_cons_succ, partsE, partsE3, fillE, fillA, List.replicate_succ, List.replicate_zero, List.set_cons_zero, List.set_cons_succ, Nat.reduceLT, Nat.zero_lt_one, eq_self, List.contains_cons, List.contains_nil, Nat.reduceBEq, Bool.or_false, Bool.or_self, Bool.false_or, Bool.true_or, Bool.or_true, a0, ee]
      refine (w24 (bytesA again) (bytesA b) again b _ _ (.inl rfl) (.inl rfl) hal (by omega)).mono ?_
      rintro y hh n2 ⟨rfl, rfl, hn2⟩
      by_cases hab : again = b
      · obtain ⟨rfl, rfl⟩ : out = l ∧ e = 0 := by
          rcases hu with ⟨h1, h2, h3, h4⟩ | ⟨h1, _⟩
          · exact ⟨(hdone out h1 h2 h3).symm, h4⟩
          · exact absurd (hab.symm.trans hag) (h1 l hc hwf)
        simp -implicitDefEqProofs only [go_skip, go_label, go_exit, go_ret, go_seq, go_block, go_cond, go_region, go_loop, go_dregion, fin_nil, fin_seq_n, fin_seq_e, fin_seq_r, fin_seq_p, fin_blk_n, fin_blk_e, fin_blk_r, fin_blk_p, rg_nil, rg_cons, gK_t, gK_f, aK_op, aK_call, oK_val, oK_skip, fK_go, rK_ret, cK_t, cK_f, dg_nil, dg_cons, dGK_t, dGK_f, dAK_op, dS_q, dS_l, dS_w, dAK_call, dLK_go, dLK2_fp, dLK2_op, dQK_val, dOK_val, dOK_skip, dFK_go, dRK_ret, then_n, then_e, then_r, then_p, guardOk, opEv, oev, oevs, ofV_int, ofV_bool, ofV_str, ofV_nilS, ofV_nilP, ofV_nilM, ofV_nilF, ofV_nilI, List.toList_toArray, eget, setE, dropE, edel, penv, AOp.quiet, AOp.isLoad, pendOk, pendKeep, Nat.reduceEqDiff, ↓reduceIte, reduceCtorEq, bt1, bt2, bt3, bt4, b_add, b_sub, b_mul, b_eql, b_neq, b_lss, b_leq, b_gtr, b_geq, addA, ptr_fp, rel_fp, take1, List.drop_zero, List.drop_succ_cons, List.cons_append, List.nil_append, List.append_nil, Bool.not_true, Bool.not_false, decide_true, decide_false, true_and, and_true, Fin_ret, Fin_normal, rvsEv, rvEv, ex_some, resV, post_fin, ptrCells, reload, hget, hset, hdel, storeH, splice, takeV, cellsOf, AV.plain, and_self, List.take_succ_cons, List.take_zero, List.length_cons, List.length_nil, Nat.reduceAdd, Nat.reduceLeDiff, Nat.zero_add, Nat.add_zero, Nat.le_refl, List.getElem?_cons_zero, List.getElem?_cons_succ, partsE, partsE3, fillE, fillA, List.replicate_succ, List.replicate_zero, List.set_cons_zero, List.set_cons_succ, Nat.reduceLT, Nat.zero_lt_one, eq_self, List.contains_cons, List.contains_nil, Nat.reduceBEq, Bool.or_false, Bool.or_self, Bool.false_or, Bool.true_or, Bool.or_true, eq_true hab, unA, R23]
        rw [hQ]
        exact ⟨_, _, rfl, Frz.refl _ _⟩
      · have hbad : Non b := fun l' h1 h2 h3 => by
          have := hdone l' h1 h2 h3
          exact hab (by rw [hag, this, ← h3])
        simp -implicitDefEqProofs only [go_skip, go_label, go_exit, go_ret, go_seq, go_block, go_cond, go_region, go_loop, go_dregion, fin_nil, fin_seq_n, fin_seq_e, fin_seq_r, fin_seq_p, fin_blk_n, fin_blk_e, fin_blk_r, fin_blk_p, rg_nil, rg_cons, gK_t, gK_f, aK_op, aK_call, oK_val, oK_skip, fK_go, rK_ret, cK_t, cK_f, dg_nil, dg_cons, dGK_t, dGK_f, dAK_op, dS_q, dS_l, dS_w, dAK_call, dLK_go, dLK2_fp, dLK2_op, dQK_val, dOK_val, dOK_skip, dFK_go, dRK_ret, then_n, then_e, then_r, then_p, guardOk, opEv, oev, oevs, ofV_int, ofV_bool, ofV_str, ofV_nilS, ofV_nilP, ofV_nilM, ofV_nilF, ofV_nilI, List.toList_toArray, eget, setE, dropE, edel, penv, AOp.quiet, AOp.isLoad, pendOk, pendKeep, Nat.reduceEqDiff, ↓reduceIte, reduceCtorEq, bt1, bt2, bt3, bt4, b_add, b_sub, b_mul, b_eql, b_neq, b_lss, b_leq, b_gtr, b_geq, addA, ptr_fp, rel_fp, take1, List.drop_zero, List.drop_succ_cons, List.cons_append, List.nil_append, List.append_nil, Bool.not_true, Bool.not_false, decide_true, decide_false, true_and, and_true, Fin_ret, Fin_normal, rvsEv, rvEv, ex_some, resV, post_fin, ptrCells, reload, hget, hset, hdel, storeH, splice, takeV, cellsOf, AV.plain, and_self, List.take_succ_cons, List.take_zero, List.length_cons, List.length_nil, Nat.reduceAdd, Nat.reduceLeDiff, Nat.zero_add, Nat.add_zero, Nat.le_refl, List.getElem?_cons_zero, List.getElem?_cons_succ, partsE, partsE3, fillE, fillA, List.replicate_succ, List.replicate_zero, List.set_cons_zero, List.set_cons_succ, Nat.reduceLT, Nat.zero_lt_one, eq_self, List.contains_cons, List.contains_nil, Nat.reduceBEq, Bool.or_false, Bool.or_self, Bool.false_or, Bool.true_or, Bool.or_true, hab, unA, R23]
        exact bad _ _ hbad
    · have hbad : Non b := fun l' h1 h2 h3 => by
        have := hdone l' h1 h2 h3
        rcases hp with ⟨h4, _⟩ | ⟨_, _, h4⟩
        · rw [this] at h4; exact h4 h1
        · exact he h4
      simp -implicitDefEqProofs only [go_skip, go_label, go_exit, go_ret, go_seq, go_block, go_cond, go_region, go_loop, go_dregion, fin_nil, fin_seq_n, fin_seq_e, fin_seq_r, fin_seq_p, fin_blk_n, fin_blk_e, fin_blk_r, fin_blk_p, rg_nil, rg_cons, gK_t, gK_f, aK_op, aK_call, oK_val, oK_skip, fK_go, rK_ret, cK_t, cK_f, dg_nil, dg_cons, dGK_t, dGK_f, dAK_op, dS_q, dS_l, dS_w, dAK_call, dLK_go, dLK2_fp, dLK2_op, dQK_val, dOK_val, dOK_skip, dFK_go, dRK_ret, then_n, then_e, then_r, then_p, guardOk, opEv, oev, oevs, ofV_int, ofV_bool, ofV_str, ofV_nilS, ofV_nilP, ofV_nilM, ofV_nilF, ofV_nilI, List.toList_toArray, eget, setE, dropE, edel, penv, AOp.quiet, AOp.isLoad, pendOk, pendKeep, Nat.reduceEqDiff, ↓reduceIte, reduceCtorEq, bt1, bt2, bt3, bt4, b_add, b_sub, b_mul, b_eql, b_neq, b_lss, b_leq, b_gtr, b_geq, addA, ptr_fp, rel_fp, take1, List.drop_zero, List.drop_succ_cons, List.cons_append, List.nil_append, List.append_nil, Bool.not_true, Bool.not_false, decide_true, decide_false, true_and, and_true, Fin_ret, Fin_normal, rvsEv, rvEv, ex_some, resV, post_fin, ptrCells, reload, hget, hset, hdel, storeH, splice, takeV, cellsOf, AV.plain, and_self, List.take_succ_cons, List.take_zero, List.length_cons, List.length_nil, Nat.reduceAdd, Nat.reduceLeDiff, Nat.zero_add, Nat.add_zero, Nat.le_refl, List.getElem?_cons_zero, List.getElem?_cons_succ, partsE, partsE3, fillE, fillA, List.replicate_succ, List.replicate_zero, List.set_cons_zero, List.set_cons_succ, Nat.reduceLT, Nat.zero_lt_one, eq_self, List.contains_cons, List.contains_nil, Nat.reduceBEq, Bool.or_false, Bool.or_self, Bool.false_or, Bool.true_or, Bool.or_true, a0, ee, R23]
      exact bad _ _ hbad
end Go.Proofs.Ytmnlfgnpmpebmaa
