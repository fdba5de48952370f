/- slices.Insert of one element, into an own slice. -/
import Derived.Test.YtdmjloieldhlnaaIW1
namespace Go.Proofs.Ytdmjloieldhlnaa
open Go Go.Ab Go.Proofs
set_option linter.unusedVariables false
set_option linter.unusedSimpArgs false
set_option maxRecDepth 20000

theorem take_pre {α : Type} (l r : List α) {n : Nat} (h : l.length = n) : (l ++ r).take n = l := by subst h; exact List.take_left
theorem drop_pre {α : Type} (l r : List α) {n : Nat} (h : l.length = n) : (l ++ r).drop n = r := by subst h; exact List.drop_left
theorem src_os {h : Heap} {vb most : Nat} {x : List AV} (hx : x.length = 2) (hv : hget h vb = some (.cells x)) (hm : 0 < most) : srcCells 2 h (.os vb 0 36 2 1) most = some (1, x) := by
  have hsc : sliceCells h (.os vb 0 36 2 1) = some (1, x) := by
    simp only [sliceCells, hv]
    rw [if_pos (by omega)]
    simp [List.take_of_length_le, hx]
  simp only [srcCells, hsc]
  rw [if_pos (by simp [slSz]), show min 1 most = 1 by omega, List.take_of_length_le (by omega)]
theorem src_oc {h : Heap} {b off m c most k : Nat} {cs : List AV} (hb : hget h b = some (.cells cs)) (hk : min m most = k) (hle : off + k * 2 ≤ cs.length) : srcCells 2 h (.oc b off 36 2 m c) most = some (k, (cs.drop off).take (k * 2)) := by
  simp only [srcCells, hb, hk]
  rw [if_pos ⟨trivial, hle⟩]
theorem cp_os {h : Heap} {b off dl k : Nat} {cs news : List AV} {x : AV} (hs : srcCells 2 h x dl = some (k, news)) (hb : hget h b = some (.cells cs)) (hk : 0 < k) (hle : off + k * 2 ≤ cs.length) : copyA 2 h (.os b off 36 2 dl) x = some (k, hset h b (.cells (splice cs off news))) := by
  simp only [copyA, hs, hb]
  rw [if_pos ⟨trivial, hle, hk⟩]
theorem cp_oc {h : Heap} {b off dl k c : Nat} {cs news : List AV} {x : AV} (hs : srcCells 2 h x dl = some (k, news)) (hb : hget h b = some (.cells cs)) (hk : 0 < k) (hle : off ≤ cs.length) : copyA 2 h (.oc b off 36 2 dl c) x = some (k, hset h b (.cells (splice cs off news))) := by
  simp only [copyA, hs, hb]
  rw [if_pos ⟨trivial, hle, hk⟩]
/-- The elements with one put among them. -/
def insE (es : List (List AV)) (k : Nat) (x : List AV) : List (List AV) := es.take k ++ x :: es.drop k
theorem insE_flat (es : List (List AV)) (k : Nat) (x : List AV) : (insE es k x).flatten = (es.take k).flatten ++ (x ++ (es.drop k).flatten) := by simp [insE]
/-- Where there is no room. -/
theorem ins_grow {b k n c vb nx : Nat} {es : List (List AV)} {x : List AV} (hs : ∀ z ∈ es, z.length = 2) (hn : es.length = n) (hk : k < n) (hx : x.length = 2) {h : Heap} (hb : hget h b = some (.cells es.flatten)) (hv : hget h vb = some (.cells x)) (hbn : b ≠ nx) (hvn : vb ≠ nx) :
    ∃ h1 h2, copyA 2 ((nx, .cells ((es.take k).flatten ++ (List.replicate (n + 1 - k) [AV.int .u64 0, AV.int .u8 0]).flatten)) :: h) (.os nx (k * 2) 36 2 (n + 1 - k)) (.os vb 0 36 2 1) = some (1, h1) ∧
      copyA 2 h1 (.os nx ((k + 1) * 2) 36 2 (n - k)) (.oc b (k * 2) 36 2 (n - k) (c - k)) = some (n - k, h2) ∧ hget h2 nx = some (.cells (insE es k x).flatten) ∧ ∀ d, d ≠ nx → hget h2 d = hget h d := by
  have hfl := flat_len hs
  have htl : (es.take k).flatten.length = k * 2 := by rw [flat_len (fun z hz => hs z (List.mem_of_mem_take hz)), List.length_take, Nat.min_eq_left (by omega)]
  have hdl : (es.drop k).flatten.length = (n - k) * 2 := by rw [flat_len (fun z hz => hs z (List.mem_of_mem_drop hz)), List.length_drop, hn]
  have hzl : (List.replicate (n + 1 - k) [AV.int .u64 0, AV.int .u8 0]).flatten.length = (n + 1 - k) * 2 := by simp
  generalize (List.replicate (n + 1 - k) [AV.int .u64 0, AV.int .u8 0]).flatten = Z at hzl
  generalize hA : (es.take k).flatten = A at htl
  have g0 : hget ((nx, .cells (A ++ Z)) :: h) nx = some (.cells (A ++ Z)) := by rw [hget_cons, if_pos rfl]
  have g1 : hget ((nx, .cells (A ++ Z)) :: h) vb = some (.cells x) := by rw [hget_cons, if_neg (fun e => hvn e.symm)]; exact hv
  have c1 := cp_os (b := nx) (off := k * 2) (dl := n + 1 - k) (src_os hx g1 (by omega)) g0 (by omega) (by rw [List.length_append, htl, hzl]; omega)
  have s1 : splice (A ++ Z) (k * 2) x = A ++ (x ++ Z.drop 2) := by
    rw [splice, take_pre A Z htl, hx, ← List.drop_drop, drop_pre A Z htl]
  rw [s1] at c1
  have g2 : hget (hset ((nx, .cells (A ++ Z)) :: h) nx (.cells (A ++ (x ++ Z.drop 2)))) nx = some (.cells (A ++ (x ++ Z.drop 2))) := by rw [hget_hset, if_pos rfl]
  have g3 : hget (hset ((nx, .cells (A ++ Z)) :: h) nx (.cells (A ++ (x ++ Z.drop 2)))) b = some (.cells es.flatten) := by rw [hget_hset, if_neg (fun e => hbn e.symm), hget_cons, if_neg (fun e => hbn e.symm)]; exact hb
  have c2 := cp_os (b := nx) (off := (k + 1) * 2) (dl := n - k) (src_oc (off := k * 2) (m := n - k) (c := c - k) (most := n - k) (k := n - k) g3 (by omega) (by rw [hfl, hn]; omega)) g2 (by omega) (by simp only [List.length_append, List.length_drop, htl, hx, hzl]; omega)
  refine ⟨_, _, c1, c2, ?_, fun d hd => by rw [hget_hset, if_neg (fun e => hd e.symm), hget_hset, if_neg (fun e => hd e.symm), hget_cons, if_neg (fun e => hd e.symm)]⟩
  rw [hget_hset, if_pos rfl, insE_flat, hA, flat_drop hs, List.take_of_length_le (by omega)]
  have hAx : (A ++ x).length = (k + 1) * 2 := by rw [List.length_append, htl, hx]; omega
  have e5 : A ++ (x ++ Z.drop 2) = (A ++ x) ++ Z.drop 2 := by rw [List.append_assoc]
  have e6 : ((A ++ x) ++ Z.drop 2).drop ((k + 1) * 2 + (es.drop k).flatten.length) = [] := List.drop_of_length_le (by simp only [List.length_append, List.length_drop, htl, hx, hzl, hdl]; omega)
  rw [splice, e5, take_pre (A ++ x) _ hAx, e6, List.append_nil, List.append_assoc]
/-- Where there is room. -/
theorem ins_room {b k n c vb : Nat} {es : List (List AV)} {x : List AV} (hs : ∀ z ∈ es, z.length = 2) (hn : es.length = n) (hk : k < n) (hx : x.length = 2) {h : Heap} (hb : hget h b = some (.cells es.flatten)) (hv : hget h vb = some (.cells x)) (hbv : vb ≠ b) :
    ∃ h1 h2, copyA 2 h (.oc b ((k + 1) * 2) 36 2 (n - k) (c - (k + 1))) (.oc b (k * 2) 36 2 (n + 1 - k) (c - k)) = some (n - k, h1) ∧
      copyA 2 h1 (.oc b (k * 2) 36 2 (n + 1 - k) (c - k)) (.os vb 0 36 2 1) = some (1, h2) ∧ hget h2 b = some (.cells (insE es k x).flatten) ∧ ∀ d, d ≠ b → hget h2 d = hget h d := by
  have hfl := flat_len hs
  have htl : (es.take k).flatten.length = k * 2 := by rw [flat_len (fun z hz => hs z (List.mem_of_mem_take hz)), List.length_take, Nat.min_eq_left (by omega)]
  have htl1 : (es.take (k + 1)).flatten.length = (k + 1) * 2 := by rw [flat_len (fun z hz => hs z (List.mem_of_mem_take hz)), List.length_take, Nat.min_eq_left (by omega)]
  have hdl : (es.drop k).flatten.length = (n - k) * 2 := by rw [flat_len (fun z hz => hs z (List.mem_of_mem_drop hz)), List.length_drop, hn]
  have c1 := cp_oc (b := b) (off := (k + 1) * 2) (dl := n - k) (c := c - (k + 1)) (src_oc (off := k * 2) (m := n + 1 - k) (c := c - k) (most := n - k) (k := n - k) hb (by omega) (by rw [hfl, hn]; omega)) hb (by omega) (by rw [hfl, hn]; omega)
  have s1 : splice es.flatten ((k + 1) * 2) ((es.flatten.drop (k * 2)).take ((n - k) * 2)) = (es.take (k + 1)).flatten ++ (es.drop k).flatten := by
    have e6 : es.flatten.drop ((k + 1) * 2 + (es.drop k).flatten.length) = [] := List.drop_of_length_le (by rw [hfl, hn, hdl]; omega)
    rw [flat_drop hs, List.take_of_length_le (by omega), splice, flat_take hs, e6, List.append_nil]
  rw [s1] at c1
  generalize hC : (es.take (k + 1)).flatten ++ (es.drop k).flatten = C at c1
  have g1 : hget (hset h b (.cells C)) b = some (.cells C) := by rw [hget_hset, if_pos rfl]
  have g2 : hget (hset h b (.cells C)) vb = some (.cells x) := by rw [hget_hset, if_neg (fun e => hbv e.symm)]; exact hv
  have hCl : C.length = (k + 1) * 2 + (n - k) * 2 := by rw [← hC, List.length_append, htl1, hdl]
  have c2 := cp_oc (b := b) (off := k * 2) (dl := n + 1 - k) (c := c - k) (src_os hx g2 (by omega)) g1 (by omega) (by omega)
  refine ⟨_, _, c1, c2, ?_, fun d hd => by rw [hget_hset, if_neg (fun e => hd e.symm), hget_hset, if_neg (fun e => hd e.symm)]⟩
  rw [hget_hset, if_pos rfl, insE_flat, splice, hx, show k * 2 + 2 = (k + 1) * 2 by omega]
  have e1 : C.drop ((k + 1) * 2) = (es.drop k).flatten := by rw [← hC]; exact drop_pre _ _ htl1
  have e2 : C.take (k * 2) = (es.take k).flatten := by
    rw [← hC, List.take_append_of_le_length (by omega), flat_take (fun z hz => hs z (List.mem_of_mem_take hz)), List.take_take, Nat.min_eq_left (by omega)]
  rw [e1, e2]
/-- Into a slice that has a block, ahead of one of its elements. -/
theorem w17a (b k n vb : Nat) (es : List (List AV)) (x : List AV) (hs : ∀ z ∈ es, z.length = 2) (hn : es.length = n) (hk : k < n) (hl : n ≤ 5000) (hx : x.length = 2) (h : Heap) (nx : Nat) (hb : hget h b = some (.cells es.flatten)) (hv : hget h vb = some (.cells x)) (hbv : vb ≠ b) (hbn : b < nx) (hvn : vb < nx) :
    AC Try.prog 17 [.os b 0 36 2 n, .int .i64 (k : Int), .os vb 0 36 2 1] h nx fun y h' n' => ∃ b', y = .ret (.os b' 0 36 2 (n + 1)) ∧ nx ≤ n' ∧ b' < n' ∧ (b' = b ∨ nx ≤ b') ∧ hget h' b' = some (.cells (insE es k x).flatten) ∧ ∀ d, d < nx → d ≠ b → hget h' d = hget h d := by
  refine AC.oc [] _ (by simp [maxLen]; omega) fun c hc1 hc2 => AC.frz (AC.go mixed is17 (by simp) ?_)
  have hfl := flat_len hs
  have p0 : ∀ m : Nat, (0 ≤ (m : Int)) = True := fun m => eq_true (by omega)
  have p1 : (k ≤ n) = True := eq_true (by omega)
  have p2 : (n ≤ c) = True := eq_true (by omega)
  have p5 : (k ≤ c) = True := eq_true (by omega)
  have p3 : ((k : Int) = (n : Int)) = False := eq_false (by omega)
  have p4 : (((1 : Nat) : Int) = 0) = False := eq_false (by omega)
  have f1 : IntKind.i64.wrap ((n : Int) + ((1 : Nat) : Int)) = ((n + 1 : Nat) : Int) := by rw [w64 (by omega) (by omega)]; omega
  have f2 : IntKind.i64.wrap (((n + 1 : Nat) : Int) - (k : Int)) = ((n + 1 - k : Nat) : Int) := by rw [w64 (by omega) (by omega)]; omega
  have f3 : IntKind.i64.wrap ((k : Int) + ((1 : Nat) : Int)) = ((k + 1 : Nat) : Int) := by rw [w64 (by omega) (by omega)]; omega
  by_cases hr : n + 1 > c
  · have q1 : ((c : Int) < ((n + 1 : Nat) : Int)) = True := eq_true (by omega)
    obtain ⟨h1, h2, c1, c2, hg, hfr⟩ := ins_grow (c := c) (nx := nx) hs hn hk hx hb hv (by omega) (by omega)
    have q2 : (0 < ((n + 1 - k : Nat) : Int) ∧ (c : Int) < (k : Int) + ((n + 1 - k : Nat) : Int) ∧ k * 2 ≤ es.flatten.length ∧ (n + 1) * 16 ≤ 140737488355328 ∧ n + 1 ≤ maxLen) = True := eq_true (by rw [hfl, hn]; simp [maxLen]; omega)
    have q3 : k + (n + 1 - k) = n + 1 := by omega
    have q4 : (k ≤ n + 1) = True := eq_true (by omega)
    have q5 : (k + 1 ≤ n + 1) = True := eq_true (by omega)
    have q6 : n + 1 - (k + 1) = n - k := by omega
    simp -implicitDefEqProofs only [go_skip, go_label, go_exit, go_ret, go_seq, go_block, go_cond, go_region, go_loop, go_dregion, fin_nil, fin_seq_n, fin_seq_e, fin_seq_r, fin_seq_p, fin_blk_n, fin_blk_e, fin_blk_r, fin_blk_p, rg_nil, rg_cons, gK_t, gK_f, aK_op, aK_call, oK_val, oK_skip, fK_go, rK_ret, cK_t, cK_f, dg_nil, dg_cons, dGK_t, dGK_f, dAK_op, dS_q, dS_l, dS_w, dAK_call, dLK_go, dLK2_fp, dLK2_op, dQK_val, dOK_val, dOK_skip, dFK_go, dRK_ret, then_n, then_e, then_r, then_p, guardOk, opEv, oev, oevs, ofV_int, ofV_bool, ofV_str, ofV_nilS, ofV_nilP, ofV_nilM, ofV_nilF, ofV_nilI, List.toList_toArray, eget, setE, dropE, edel, penv, AOp.quiet, AOp.isLoad, pendOk, pendKeep, Nat.reduceEqDiff, ↓reduceIte, reduceCtorEq, bt1, bt2, bt3, bt4, b_add, b_sub, b_mul, b_eql, b_neq, b_lss, b_leq, b_gtr, b_geq, addA, ptr_fp, rel_fp, take1, List.drop_zero, List.drop_succ_cons, List.cons_append, List.nil_append, List.append_nil, Bool.not_true, Bool.not_false, decide_true, decide_false, true_and, and_true, Fin_ret, Fin_normal, rvsEv, rvEv, ex_some, resV, post_fin, takeV, cellsOf, AV.plain, and_self, List.take_succ_cons, List.take_zero, List.length_cons, List.length_nil, Nat.reduceAdd, Nat.reduceLeDiff, Nat.zero_add, Nat.add_zero, Nat.le_refl, List.getElem?_cons_zero, List.getElem?_cons_succ, partsE, partsE3, fillE, fillA, List.replicate_succ, List.replicate_zero, List.set_cons_zero, List.set_cons_succ, Nat.reduceLT, Nat.zero_lt_one, eq_self, List.contains_cons, List.contains_nil, Nat.reduceBEq, Bool.or_false, Bool.or_self, Bool.false_or, Bool.true_or, Bool.or_true, A17, lenA, p0, p1, p2, p3, p4, p5, f1, f2, f3, q1, q2, q3, q4, q5, q6, flat_take hs, bnd, slcA, Int.toNat_natCast, if_true, true_and, and_true, Nat.zero_le, Nat.zero_mul, Nat.zero_add, Nat.sub_zero, hb, c1, c2, R17]
    refine ⟨h2, _, Frz.refl _ _, nx, rfl, by omega, by omega, .inr (by omega), hg, fun d hd _ => hfr d (by omega)⟩
  · have q1 : ((c : Int) < ((n + 1 : Nat) : Int)) = False := eq_false (by omega)
    obtain ⟨h1, h2, c1, c2, hg, hfr⟩ := ins_room (c := c) hs hn hk hx hb hv hbv
    have q3 : (n + 1 ≤ c) = True := eq_true (by omega)
    have q4 : (k ≤ n + 1) = True := eq_true (by omega)
    have q5 : (k + 1 ≤ n + 1) = True := eq_true (by omega)
    have q6 : n + 1 - (k + 1) = n - k := by omega
    have q7 : (k + 1 ≤ n) = True := eq_true (by omega)
    have q8 : (k ≤ n + 1 ∧ n + 1 ≤ c) = True := eq_true (by omega)
    have ov : ovA h (.os vb 0 36 2 1) (.oc b ((k + 1) * 2) 36 2 (n - k) (c - (k + 1))) = true := by
      simp only [ovA, slBlk]
      rw [if_pos (by omega), if_pos (by omega)]
      simp [hb, hv, hbv]
    simp -implicitDefEqProofs only [go_skip, go_label, go_exit, go_ret, go_seq, go_block, go_cond, go_region, go_loop, go_dregion, fin_nil, fin_seq_n, fin_seq_e, fin_seq_r, fin_seq_p, fin_blk_n, fin_blk_e, fin_blk_r, fin_blk_p, rg_nil, rg_cons, gK_t, gK_f, aK_op, aK_call, oK_val, oK_skip, fK_go, rK_ret, cK_t, cK_f, dg_nil, dg_cons, dGK_t, dGK_f, dAK_op, dS_q, dS_l, dS_w, dAK_call, dLK_go, dLK2_fp, dLK2_op, dQK_val, dOK_val, dOK_skip, dFK_go, dRK_ret, then_n, then_e, then_r, then_p, guardOk, opEv, oev, oevs, ofV_int, ofV_bool, ofV_str, ofV_nilS, ofV_nilP, ofV_nilM, ofV_nilF, ofV_nilI, List.toList_toArray, eget, setE, dropE, edel, penv, AOp.quiet, AOp.isLoad, pendOk, pendKeep, Nat.reduceEqDiff, ↓reduceIte, reduceCtorEq, bt1, bt2, bt3, bt4, b_add, b_sub, b_mul, b_eql, b_neq, b_lss, b_leq, b_gtr, b_geq, addA, ptr_fp, rel_fp, take1, List.drop_zero, List.drop_succ_cons, List.cons_append, List.nil_append, List.append_nil, Bool.not_true, Bool.not_false, decide_true, decide_false, true_and, and_true, Fin_ret, Fin_normal, rvsEv, rvEv, ex_some, resV, post_fin, takeV, cellsOf, AV.plain, and_self, List.take_succ_cons, List.take_zero, List.length_cons, List.length_nil, Nat.reduceAdd, Nat.reduceLeDiff, Nat.zero_add, Nat.add_zero, Nat.le_refl, List.getElem?_cons_zero, List.getElem?_cons_succ, partsE, partsE3, fillE, fillA, List.replicate_succ, List.replicate_zero, List.set_cons_zero, List.set_cons_succ, Nat.reduceLT, Nat.zero_lt_one, eq_self, List.contains_cons, List.contains_nil, Nat.reduceBEq, Bool.or_false, Bool.or_self, Bool.false_or, Bool.true_or, Bool.or_true, A17, lenA, p0, p1, p2, p3, p4, p5, f1, f2, f3, q1, q3, q4, q5, q6, q7, bnd, slcA, Int.toNat_natCast, if_true, true_and, and_true, Nat.zero_le, Nat.zero_mul, Nat.zero_add, Nat.sub_zero, ov, unA, c1, c2, R17]
    exact ⟨h2, _, Frz.oc, b, rfl, hbn, .inl rfl, hg, fun d _ hd => hfr d hd⟩
end Go.Proofs.Ytdmjloieldhlnaa
