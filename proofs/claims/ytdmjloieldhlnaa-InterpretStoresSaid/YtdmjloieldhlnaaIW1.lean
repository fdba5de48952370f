/- slices.Delete of one element, on an own slice. -/
import Derived.Test.YtdmjloieldhlnaaIA1
namespace Go.Proofs.Ytdmjloieldhlnaa
open Go Go.Ab Go.Proofs
set_option linter.unusedVariables false
set_option linter.unusedSimpArgs false
set_option maxRecDepth 20000

theorem mixed : Try.prog.follows .mixedOrders = true := by kernel_rfl
theorem flat_len {es : List (List AV)} (hs : ∀ z ∈ es, z.length = 2) : es.flatten.length = es.length * 2 := flatten_length es hs
theorem flat_take : ∀ {es : List (List AV)}, (∀ z ∈ es, z.length = 2) → ∀ k, es.flatten.take (k * 2) = (es.take k).flatten
  | [], _, k => by simp
  | e :: es, hs, 0 => by simp
  | e :: es, hs, k + 1 => by
    have h0 := hs e (by simp)
    rw [List.flatten_cons, List.take_append, h0, show (k + 1) * 2 - 2 = k * 2 by omega, flat_take (fun z hz => hs z (by simp [hz])) k, List.take_of_length_le (by omega)]
    simp
theorem flat_drop : ∀ {es : List (List AV)}, (∀ z ∈ es, z.length = 2) → ∀ k, es.flatten.drop (k * 2) = (es.drop k).flatten
  | [], _, k => by simp
  | e :: es, hs, 0 => by simp
  | e :: es, hs, k + 1 => by
    have h0 := hs e (by simp)
    rw [List.flatten_cons, List.drop_append, h0, show (k + 1) * 2 - 2 = k * 2 by omega, flat_drop (fun z hz => hs z (by simp [hz])) k, List.drop_eq_nil_of_le (by omega)]
    simp
/-- What the call's first step makes of the cells. -/
theorem del_app {b k q c nx : Nat} {es : List (List AV)} (hs : ∀ z ∈ es, z.length = 2) (hn : es.length = q + 1) (hk : k ≤ q) (hc : q + 1 ≤ c) {h : Heap} (hb : hget h b = some (.cells es.flatten)) :
    ∃ h1 rest, appA 36 2 16 h nx (.oc b 0 36 2 k c) (.oc b ((k + 1) * 2) 36 2 (q - k) (c - (k + 1))) = some (.oc b 0 36 2 q c, h1, nx) ∧ hget h1 b = some (.cells ((es.eraseIdx k).flatten ++ rest)) ∧ rest.length = 2 ∧ ∀ d, d ≠ b → hget h1 d = hget h d := by
  have hfl := flat_len hs
  have he : es.eraseIdx k = es.take k ++ es.drop (k + 1) := List.eraseIdx_eq_take_drop_succ ..
  have hs1 : ∀ z ∈ es.drop (k + 1), z.length = 2 := fun z hz => hs z (List.mem_of_mem_drop hz)
  have hdl : (es.drop (k + 1)).flatten.length = (q - k) * 2 := by rw [flat_len hs1, List.length_drop, hn]; congr 1; omega
  have hsc : sliceCells h (.oc b ((k + 1) * 2) 36 2 (q - k) (c - (k + 1))) = some (q - k, (es.drop (k + 1)).flatten) := by
    simp only [sliceCells, hb]
    rw [if_pos (by rw [hfl, hn]; omega), flat_drop hs, List.take_of_length_le (by omega)]
  have hsz : slSz (.oc b ((k + 1) * 2) 36 2 (q - k) (c - (k + 1))) 2 = true := by simp [slSz]
  by_cases hkq : k = q
  · subst hkq
    refine ⟨h, es.flatten.drop (k * 2), ?_, ?_, by rw [List.length_drop, hfl, hn]; omega, fun _ _ => rfl⟩
    · simp only [appA, hsc, hsz, if_true, hb]
      rw [if_pos ⟨trivial, trivial, trivial, by omega, by rw [hfl, hn]; omega⟩, if_pos (by omega)]
    · rw [hb, he, List.drop_of_length_le (by omega), List.append_nil, ← flat_take hs, List.take_append_drop]
  · refine ⟨hset h b (.cells (splice es.flatten (k * 2) (es.drop (k + 1)).flatten)), es.flatten.drop (q * 2), ?_, ?_, by rw [List.length_drop, hfl, hn]; omega, fun d hd => by rw [hget_hset, if_neg (fun e => hd e.symm)]⟩
    · simp only [appA, hsc, hsz, if_true, hb]
      rw [if_pos ⟨trivial, trivial, trivial, by omega, by rw [hfl, hn]; omega⟩, if_neg (by omega)]
      simp only [show k + (q - k) = q by omega]
    · rw [hget_hset, if_pos rfl, splice, hdl, show k * 2 + (q - k) * 2 = q * 2 by omega, flat_take hs, he, List.flatten_append, List.append_assoc]
theorem w16 (b k q : Nat) (es : List (List AV)) (hs : ∀ z ∈ es, z.length = 2) (hn : es.length = q + 1) (hk : k ≤ q) (hl : q ≤ 5000) (h : Heap) (nx : Nat) (hb : hget h b = some (.cells es.flatten)) :
    AC Try.prog 16 [.os b 0 36 2 (q + 1), .int .i64 (k : Int), .int .i64 ((k + 1 : Nat) : Int)] h nx fun y h' n' => y = .ret (.os b 0 36 2 q) ∧ n' = nx ∧ (∀ c, c ≠ b → hget h' c = hget h c) ∧ hget h' b = some (.cells (es.eraseIdx k).flatten) := by
  refine AC.oc [] _ (by simp [maxLen]; omega) fun c hc1 hc2 => AC.frz (AC.go mixed is16 (by simp) ?_)
  have hne : ((k : Int) = ((k + 1 : Nat) : Int)) = False := eq_false (by omega)
  have p0 : ∀ m : Nat, (0 ≤ (m : Int)) = True := fun m => eq_true (by omega)
  have p1 : (k ≤ k + 1) = True := eq_true (by omega)
  have p2 : (k ≤ q) = True := eq_true (by omega)
  have p3 : (q + 1 ≤ c) = True := eq_true (by omega)
  have p4 : (k ≤ c) = True := eq_true (by omega)
  have p5 : (q ≤ q + 1) = True := eq_true (by omega)
  have p6 : (k + 1 ≤ q + 1) = True := eq_true (by omega)
  obtain ⟨h1, rest, ea, hb1, hr, hfr⟩ := del_app (nx := nx) hs hn hk hc1 hb
  have z1 : q + 1 - (k + 1) = q - k := by omega
  have z2 : q + 1 - q = 1 := by omega
  have hel : (es.eraseIdx k).flatten.length = q * 2 := by
    rw [flat_len (fun z hz => hs z (List.mem_of_mem_eraseIdx hz)), List.length_eraseIdx, if_pos (by omega), hn]; rfl
  have ec : clearA [AV.int .u64 0, AV.int .u8 0] h1 (.oc b (q * 2) 36 2 1 (c - q)) = some (hset h1 b (.cells ((es.eraseIdx k).flatten ++ [AV.int .u64 0, AV.int .u8 0]))) := by
    simp only [clearA, hb1]
    rw [if_pos ⟨rfl, by omega, by decide, by rw [List.length_append, hel, hr]; simp⟩]
    simp only [splice, ← hel, List.take_left]
    rw [List.drop_of_length_le (by simp [hr])]
    simp
  simp -implicitDefEqProofs only [go_skip, go_label, go_exit, go_ret, go_seq, go_block, go_cond, go_region, go_loop, go_dregion, fin_nil, fin_seq_n, fin_seq_e, fin_seq_r, fin_seq_p, fin_blk_n, fin_blk_e, fin_blk_r, fin_blk_p, rg_nil, rg_cons, gK_t, gK_f, aK_op, aK_call, oK_val, oK_skip, fK_go, rK_ret, cK_t, cK_f, dg_nil, dg_cons, dGK_t, dGK_f, dAK_op, dS_q, dS_l, dS_w, dAK_call, dLK_go, dLK2_fp, dLK2_op, dQK_val, dOK_val, dOK_skip, dFK_go, dRK_ret, then_n, then_e, then_r, then_p, guardOk, opEv, oev, oevs, ofV_int, ofV_bool, ofV_str, ofV_nilS, ofV_nilP, ofV_nilM, ofV_nilF, ofV_nilI, List.toList_toArray, eget, setE, dropE, edel, penv, AOp.quiet, AOp.isLoad, pendOk, pendKeep, Nat.reduceEqDiff, ↓reduceIte, reduceCtorEq, bt1, bt2, bt3, bt4, b_add, b_sub, b_mul, b_eql, b_neq, b_lss, b_leq, b_gtr, b_geq, addA, ptr_fp, rel_fp, take1, List.drop_zero, List.drop_succ_cons, List.cons_append, List.nil_append, List.append_nil, Bool.not_true, Bool.not_false, decide_true, decide_false, true_and, and_true, Fin_ret, Fin_normal, rvsEv, rvEv, ex_some, resV, post_fin, takeV, cellsOf, AV.plain, and_self, List.take_succ_cons, List.take_zero, List.length_cons, List.length_nil, Nat.reduceAdd, Nat.reduceLeDiff, Nat.zero_add, Nat.add_zero, Nat.le_refl, List.getElem?_cons_zero, List.getElem?_cons_succ, partsE, partsE3, fillE, fillA, List.replicate_succ, List.replicate_zero, List.set_cons_zero, List.set_cons_succ, Nat.reduceLT, Nat.zero_lt_one, eq_self, List.contains_cons, List.contains_nil, Nat.reduceBEq, Bool.or_false, Bool.or_self, Bool.false_or, Bool.true_or, Bool.or_true, A16, hne, lenA, p0, p1, p2, p3, p4, p5, p6, bnd, slcA, Int.toNat_natCast, if_true, true_and, and_true, Nat.zero_le, Nat.zero_mul, Nat.zero_add, Nat.sub_zero, ea, ec, z1, z2, R16]
  refine ⟨_, _, (Frz.short (cs := (es.eraseIdx k).flatten) (rest := [AV.int .u64 0, AV.int .u8 0]) (by rw [hget_hset, if_pos rfl]) _).trans Frz.oc, rfl, fun d hd => ?_, by rw [hget_hset, if_pos rfl]⟩
  rw [hget_hset, if_neg (fun e => hd e.symm), hget_hset, if_neg (fun e => hd e.symm), hfr d hd]
end Go.Proofs.Ytdmjloieldhlnaa
