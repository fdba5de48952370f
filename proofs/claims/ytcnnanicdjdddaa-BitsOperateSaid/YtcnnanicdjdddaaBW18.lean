/- The reference's comparison, of a list of the call's own. -/
import Derived.Test.YtcnnanicdjdddaaBW17
namespace Go.Proofs.Ytcnnanicdjdddaa
open Go Go.Ab Go.Proofs
set_option linter.unusedVariables false
set_option linter.unusedSimpArgs false
set_option maxRecDepth 20000

/-- A list that can be read, frozen or not. -/
def RdL (h : Heap) (x : AV) (l : List Nat) : Prop := x = .lst 1 (l.map intE) ∨ ∃ e nx, OwnSl e 1 h nx x (l.map intE)
theorem RdL.len {h : Heap} {x : AV} {l : List Nat} (hr : RdL h x l) : lenA x = some l.length := by
  rcases hr with rfl | ⟨e, nx, ho⟩
  · exact len_map _ _ _
  · rw [ho.len, List.length_map]
theorem RdL.idx {h : Heap} {x : AV} {l : List Nat} (hr : RdL h x l) {i b : Nat} (hb : l[i]? = some b) : ∃ p cs, idxA 1 x (i : Int) = some p ∧ ptrCells h p = some (.int .i64 (b : Int) :: cs) := by
  rcases hr with rfl | ⟨e, nx, ho⟩
  · exact ⟨_, [], idxA_map hb, rfl⟩
  · have hat : (l.map intE)[i]? = some (intE b) := by rw [List.getElem?_map, hb]; rfl
    obtain ⟨b', off, hix, cs, hpc, htk, _⟩ := ho.idx (intE_len _) hat
    cases cs with
    | nil => simp [intE] at htk
    | cons c r => simp [intE] at htk; subst htk; exact ⟨_, r, hix, hpc⟩
theorem dLK2_some {P : Program} {own : Nat → Nat → Bool} {ro : Option Nat} {N : Nat} {F : List Fr} {Q : AX → ASt → Prop} (d : DStep) (r : List DStep) (pd : Pend) (st : ASt) (sz : Nat) (ag : Bool) (p x : AV) :
    dLK2 P own ro N F Q d r pd st sz ag p (some x) = dg P own ro N F Q r (if p.isFp = true then pd else (d.i, sz, ag, p, x) :: pd) { st with env := setE d.s.dst x st.env } := rfl
theorem reload_of {h : Heap} {p c : AV} {cs : List AV} (hp : ptrCells h p = some (c :: cs)) : reload h 1 false p = some c := by simp [reload, hp, takeV]

theorem w61p (x : AV) (a b : List Nat) (h : Heap) (nx : Nat) (hx : RdL h x a) (ha : bits01 a) (hb : bits01 b) (hl : a.length = b.length) (hl2 : a.length ≤ 1000) :
    AC Try.prog 61 [x, .lst 1 (b.map intE)] h nx fun y h' n' => y = .ret (.bool (decide (num a < num b))) ∧ h' = h ∧ nx ≤ n' := by
  refine AC.go mixed is61 (by simp) ?_
  have hs : IntKind.i64.wrap ((a.length : Int) - 1) = (a.length : Int) - 1 := w64 (by omega) (by omega)
  have hlx := hx.len
  simp -implicitDefEqProofs only [go_skip, go_label, go_exit, go_ret, go_seq, go_block, go_cond, go_region, go_loop, go_dregion, fin_nil, fin_seq_n, fin_seq_e, fin_seq_r, fin_seq_p, fin_blk_n, fin_blk_e, fin_blk_r, fin_blk_p, rg_nil, rg_cons, gK_t, gK_f, aK_op, aK_call, oK_val, oK_skip, fK_go, rK_ret, cK_t, cK_f, dg_nil, dg_cons, dGK_t, dGK_f, dAK_op, dS_q, dS_l, dS_w, dAK_call, dLK_go, dLK2_fp, dLK2_op, dQK_val, dOK_val, dOK_skip, dFK_go, dRK_ret, then_n, then_e, then_r, then_p, guardOk, opEv, oev, oevs, ofV_int, ofV_bool, ofV_str, ofV_nilS, ofV_nilP, ofV_nilM, ofV_nilF, ofV_nilI, List.toList_toArray, eget, setE, dropE, edel, penv, AOp.quiet, AOp.isLoad, pendOk, pendKeep, Nat.reduceEqDiff, ↓reduceIte, reduceCtorEq, bt1, bt2, bt3, bt4, b_add, b_sub, b_mul, b_eql, b_neq, b_lss, b_leq, b_gtr, b_geq, addA, ptr_fp, rel_fp, take1, List.drop_zero, List.drop_succ_cons, List.cons_append, List.nil_append, List.append_nil, Bool.not_true, Bool.not_false, decide_true, decide_false, true_and, and_true, Fin_ret, Fin_normal, rvsEv, rvEv, ex_some, resV, post_fin, ptrCells, reload, hget, hset, hdel, storeH, splice, takeV, cellsOf, AV.plain, and_self, List.take_succ_cons, List.take_zero, List.length_cons, List.length_nil, Nat.reduceAdd, Nat.reduceLeDiff, Nat.zero_add, Nat.add_zero, Nat.le_refl, List.getElem?_cons_zero, List.getElem?_cons_succ, partsE, partsE3, fillE, fillA, List.replicate_succ, List.replicate_zero, List.set_cons_zero, List.set_cons_succ, Nat.reduceLT, Nat.zero_lt_one, eq_self, List.contains_cons, List.contains_nil, Nat.reduceBEq, Bool.or_false, Bool.or_self, Bool.false_or, Bool.true_or, Bool.or_true, A61, hlx, hs]
  refine go_rounds (fun q st => ∃ k : Nat, q = k ∧ k ≤ a.length ∧ (∀ j, k ≤ j → a[j]? = b[j]?) ∧ eget st.env 0 = some x ∧ eget st.env 1 = some (.lst 1 (b.map intE)) ∧ eget st.env 5 = some (.int .i64 ((k : Int) - 1)) ∧ st.dm = [] ∧ st.heap = h ∧ nx ≤ st.nx) (n := a.length) mixed
    ⟨a.length, rfl, by omega, fun j hj => by rw [List.getElem?_eq_none hj, List.getElem?_eq_none (by omega)], by simp [eget], by simp [eget], by simp [eget], rfl, rfl, by simp⟩ ?_
  rintro q ⟨env, heap, nx', dm⟩ ⟨k, rfl, hk, he, h0, h1, h5, hdm, hh, hnx⟩
  simp only at h0 h1 h5 hdm hh hnx
  subst hdm
  subst hh
  simp -implicitDefEqProofs only [go_skip, go_label, go_exit, go_ret, go_seq, go_block, go_cond, go_region, go_loop, go_dregion, fin_nil, fin_seq_n, fin_seq_e, fin_seq_r, fin_seq_p, fin_blk_n, fin_blk_e, fin_blk_r, fin_blk_p, rg_nil, rg_cons, gK_t, gK_f, aK_op, aK_call, oK_val, oK_skip, fK_go, rK_ret, cK_t, cK_f, dg_nil, dg_cons, dGK_t, dGK_f, dAK_op, dS_q, dS_l, dS_w, dAK_call, dLK_go, dLK2_fp, dLK2_op, dQK_val, dOK_val, dOK_skip, dFK_go, dRK_ret, then_n, then_e, then_r, then_p, guardOk, opEv, oev, oevs, ofV_int, ofV_bool, ofV_str, ofV_nilS, ofV_nilP, ofV_nilM, ofV_nilF, ofV_nilI, List.toList_toArray, eget, setE, dropE, edel, penv, AOp.quiet, AOp.isLoad, pendOk, pendKeep, Nat.reduceEqDiff, ↓reduceIte, reduceCtorEq, bt1, bt2, bt3, bt4, b_add, b_sub, b_mul, b_eql, b_neq, b_lss, b_leq, b_gtr, b_geq, addA, ptr_fp, rel_fp, take1, List.drop_zero, List.drop_succ_cons, List.cons_append, List.nil_append, List.append_nil, Bool.not_true, Bool.not_false, decide_true, decide_false, true_and, and_true, Fin_ret, Fin_normal, rvsEv, rvEv, ex_some, resV, post_fin, ptrCells, reload, hget, hset, hdel, storeH, splice, takeV, cellsOf, AV.plain, and_self, List.take_succ_cons, List.take_zero, List.length_cons, List.length_nil, Nat.reduceAdd, Nat.reduceLeDiff, Nat.zero_add, Nat.add_zero, Nat.le_refl, List.getElem?_cons_zero, List.getElem?_cons_succ, partsE, partsE3, fillE, fillA, List.replicate_succ, List.replicate_zero, List.set_cons_zero, List.set_cons_succ, Nat.reduceLT, Nat.zero_lt_one, eq_self, List.contains_cons, List.contains_nil, Nat.reduceBEq, Bool.or_false, Bool.or_self, Bool.false_or, Bool.true_or, Bool.or_true, A61l0, h0, h1, h5]
  refine cK_dec (fun hc => ?_) (fun hc => ?_)
  · obtain ⟨j, rfl⟩ : ∃ j, q = j + 1 := ⟨q - 1, by omega⟩
    have hj : ((j + 1 : Nat) : Int) - 1 = (j : Int) := by omega
    have hs2 : IntKind.i64.wrap ((j : Int) - 1) = (j : Int) - 1 := w64 (by omega) (by omega)
    rw [hj] at h5
    have ea := List.getElem?_eq_getElem (show j < a.length by omega)
    have eb := List.getElem?_eq_getElem (show j < b.length by omega)
    have a1 := bits01_at ha ea
    have b1 := bits01_at hb eb
    obtain ⟨p, cs, hixa, hpc⟩ := hx.idx ea
    have hre := reload_of hpc
    have hixb := idxA_map (f := intE) (sz := 1) eb
    have sa := num_succ ha ea
    have sb := num_succ hb eb
    have la := num_lt (a.take j)
    have lb := num_lt (b.take j)
    have hla : (a.take j).length = j := by simp; omega
    have hlb : (b.take j).length = j := by simp; omega
    rw [hla] at la
    rw [hlb] at lb
    have htop := less_top hl hk he
    generalize a[j] = x' at *
    generalize b[j] = y at *
    by_cases hxy : x' = y
    · subst hxy
      simp -implicitDefEqProofs only [go_skip, go_label, go_exit, go_ret, go_seq, go_block, go_cond, go_region, go_loop, go_dregion, fin_nil, fin_seq_n, fin_seq_e, fin_seq_r, fin_seq_p, fin_blk_n, fin_blk_e, fin_blk_r, fin_blk_p, rg_nil, rg_cons, gK_t, gK_f, aK_op, aK_call, oK_val, oK_skip, fK_go, rK_ret, cK_t, cK_f, dg_nil, dg_cons, dGK_t, dGK_f, dAK_op, dS_q, dS_l, dS_w, dAK_call, dLK_go, dLK2_fp, dLK2_op, dQK_val, dOK_val, dOK_skip, dFK_go, dRK_ret, then_n, then_e, then_r, then_p, guardOk, opEv, oev, oevs, ofV_int, ofV_bool, ofV_str, ofV_nilS, ofV_nilP, ofV_nilM, ofV_nilF, ofV_nilI, List.toList_toArray, eget, setE, dropE, edel, penv, AOp.quiet, AOp.isLoad, pendOk, pendKeep, Nat.reduceEqDiff, ↓reduceIte, reduceCtorEq, bt1, bt2, bt3, bt4, b_add, b_sub, b_mul, b_eql, b_neq, b_lss, b_leq, b_gtr, b_geq, addA, ptr_fp, rel_fp, take1, List.drop_zero, List.drop_succ_cons, List.cons_append, List.nil_append, List.append_nil, Bool.not_true, Bool.not_false, decide_true, decide_false, true_and, and_true, Fin_ret, Fin_normal, rvsEv, rvEv, ex_some, resV, post_fin, hget, hset, hdel, storeH, splice, takeV, cellsOf, AV.plain, and_self, List.take_succ_cons, List.take_zero, List.length_cons, List.length_nil, Nat.reduceAdd, Nat.reduceLeDiff, Nat.zero_add, Nat.add_zero, Nat.le_refl, List.getElem?_cons_zero, List.getElem?_cons_succ, partsE, partsE3, fillE, fillA, List.replicate_succ, List.replicate_zero, List.set_cons_zero, List.set_cons_succ, Nat.reduceLT, Nat.zero_lt_one, eq_self, List.contains_cons, List.contains_nil, Nat.reduceBEq, Bool.or_false, Bool.or_self, Bool.false_or, Bool.true_or, Bool.or_true, h0, h1, h5, hj, hixa, hre, dLK2_some, hixb, intE, hs2]
      refine ⟨j, by omega, j, rfl, by omega, fun i hi => ?_, ?_⟩
      · rcases Nat.lt_or_ge j i with h | h
        · exact he i h
        · obtain rfl : i = j := by omega
          rw [ea, eb]
      · repeat' apply And.intro
        all_goals first | rfl | exact hnx | (simp [intE]; done)
    · have hne : ¬ (x' : Int) = (y : Int) := by omega
      have hdec : decide (num a < num b) = decide ((x' : Int) < (y : Int)) := by
        apply decide_eq_decide.2
        rw [htop, sa, sb]
        have : (x' = 0 ∧ y = 1) ∨ (x' = 1 ∧ y = 0) := by omega
        rcases this with ⟨rfl, rfl⟩ | ⟨rfl, rfl⟩
        · rw [Nat.mul_zero, Nat.mul_one]; omega
        · rw [Nat.mul_zero, Nat.mul_one]; omega
      simp -implicitDefEqProofs only [go_skip, go_label, go_exit, go_ret, go_seq, go_block, go_cond, go_region, go_loop, go_dregion, fin_nil, fin_seq_n, fin_seq_e, fin_seq_r, fin_seq_p, fin_blk_n, fin_blk_e, fin_blk_r, fin_blk_p, rg_nil, rg_cons, gK_t, gK_f, aK_op, aK_call, oK_val, oK_skip, fK_go, rK_ret, cK_t, cK_f, dg_nil, dg_cons, dGK_t, dGK_f, dAK_op, dS_q, dS_l, dS_w, dAK_call, dLK_go, dLK2_fp, dLK2_op, dQK_val, dOK_val, dOK_skip, dFK_go, dRK_ret, then_n, then_e, then_r, then_p, guardOk, opEv, oev, oevs, ofV_int, ofV_bool, ofV_str, ofV_nilS, ofV_nilP, ofV_nilM, ofV_nilF, ofV_nilI, List.toList_toArray, eget, setE, dropE, edel, penv, AOp.quiet, AOp.isLoad, pendOk, pendKeep, Nat.reduceEqDiff, ↓reduceIte, reduceCtorEq, bt1, bt2, bt3, bt4, b_add, b_sub, b_mul, b_eql, b_neq, b_lss, b_leq, b_gtr, b_geq, addA, ptr_fp, rel_fp, take1, List.drop_zero, List.drop_succ_cons, List.cons_append, List.nil_append, List.append_nil, Bool.not_true, Bool.not_false, decide_true, decide_false, true_and, and_true, Fin_ret, Fin_normal, rvsEv, rvEv, ex_some, resV, post_fin, hget, hset, hdel, storeH, splice, takeV, cellsOf, AV.plain, and_self, List.take_succ_cons, List.take_zero, List.length_cons, List.length_nil, Nat.reduceAdd, Nat.reduceLeDiff, Nat.zero_add, Nat.add_zero, Nat.le_refl, List.getElem?_cons_zero, List.getElem?_cons_succ, partsE, partsE3, fillE, fillA, List.replicate_succ, List.replicate_zero, List.set_cons_zero, List.set_cons_succ, Nat.reduceLT, Nat.zero_lt_one, eq_self, List.contains_cons, List.contains_nil, Nat.reduceBEq, Bool.or_false, Bool.or_self, Bool.false_or, Bool.true_or, Bool.or_true, h0, h1, h5, hj, hixa, hre, dLK2_some, hixb, intE, hne, R61, hdec]
      exact hnx
  · obtain rfl : q = 0 := by omega
    have htop := less_top hl hk he
    have : ¬ num a < num b := by rw [htop]; simp [num]
    simp -implicitDefEqProofs only [go_skip, go_label, go_exit, go_ret, go_seq, go_block, go_cond, go_region, go_loop, go_dregion, fin_nil, fin_seq_n, fin_seq_e, fin_seq_r, fin_seq_p, fin_blk_n, fin_blk_e, fin_blk_r, fin_blk_p, rg_nil, rg_cons, gK_t, gK_f, aK_op, aK_call, oK_val, oK_skip, fK_go, rK_ret, cK_t, cK_f, dg_nil, dg_cons, dGK_t, dGK_f, dAK_op, dS_q, dS_l, dS_w, dAK_call, dLK_go, dLK2_fp, dLK2_op, dQK_val, dOK_val, dOK_skip, dFK_go, dRK_ret, then_n, then_e, then_r, then_p, guardOk, opEv, oev, oevs, ofV_int, ofV_bool, ofV_str, ofV_nilS, ofV_nilP, ofV_nilM, ofV_nilF, ofV_nilI, List.toList_toArray, eget, setE, dropE, edel, penv, AOp.quiet, AOp.isLoad, pendOk, pendKeep, Nat.reduceEqDiff, ↓reduceIte, reduceCtorEq, bt1, bt2, bt3, bt4, b_add, b_sub, b_mul, b_eql, b_neq, b_lss, b_leq, b_gtr, b_geq, addA, ptr_fp, rel_fp, take1, List.drop_zero, List.drop_succ_cons, List.cons_append, List.nil_append, List.append_nil, Bool.not_true, Bool.not_false, decide_true, decide_false, true_and, and_true, Fin_ret, Fin_normal, rvsEv, rvEv, ex_some, resV, post_fin, ptrCells, reload, hget, hset, hdel, storeH, splice, takeV, cellsOf, AV.plain, and_self, List.take_succ_cons, List.take_zero, List.length_cons, List.length_nil, Nat.reduceAdd, Nat.reduceLeDiff, Nat.zero_add, Nat.add_zero, Nat.le_refl, List.getElem?_cons_zero, List.getElem?_cons_succ, partsE, partsE3, fillE, fillA, List.replicate_succ, List.replicate_zero, List.set_cons_zero, List.set_cons_succ, Nat.reduceLT, Nat.zero_lt_one, eq_self, List.contains_cons, List.contains_nil, Nat.reduceBEq, Bool.or_false, Bool.or_self, Bool.false_or, Bool.true_or, Bool.or_true, R61, this]
    exact hnx
end Go.Proofs.Ytcnnanicdjdddaa
