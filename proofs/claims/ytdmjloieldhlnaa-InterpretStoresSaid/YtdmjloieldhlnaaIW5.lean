/- Where an address is in a memory. -/
import Derived.Test.YtdmjloieldhlnaaIW4
namespace Go.Proofs.Ytdmjloieldhlnaa
open Go Go.Ab Go.Proofs
set_option linter.unusedVariables false
set_option linter.unusedSimpArgs false
set_option maxRecDepth 20000

theorem RdC.row2 {h : Heap} {x : AV} {l : List (Int × Int)} (hr : RdC h x l) {i : Nat} {r : Int × Int} (hi : l[i]? = some r) : ∃ p cs, idxA 2 x (i : Int) = some p ∧ ptrCells h p = some cs ∧ (2 ≤ cs.length) = True ∧ cs.take 2 = cellE r := by
  obtain ⟨p, h1, h2⟩ := hr.row hi
  unfold reload at h2
  split at h2
  · rename_i cs hp
    simp only [takeV, if_true] at h2
    split at h2
    · rename_i hle
      simp at h2
      exact ⟨p, cs, h1, hp, eq_true hle, h2⟩
    · cases h2
  · cases h2
/-- Addresses grow. -/
def Srt (l : List (Int × Int)) : Prop := ∀ (i j : Nat) (p r : Int × Int), i < j → l[i]? = some p → l[j]? = some r → p.1 < r.1
/-- Where an address is, or would be. -/
structure At (l : List (Int × Int)) (d : Int) (k : Nat) : Prop where
  le : k ≤ l.length
  lo : ∀ (j : Nat) (r : Int × Int), j < k → l[j]? = some r → r.1 < d
  hi : ∀ (j : Nat) (r : Int × Int), k ≤ j → l[j]? = some r → d ≤ r.1
/-- It is there. -/
def Hit (l : List (Int × Int)) (d : Int) (k : Nat) : Prop := ∃ r, l[k]? = some r ∧ r.1 = d
def hitB (l : List (Int × Int)) (d : Int) (k : Nat) : Bool := match l[k]? with
  | some r => decide (r.1 = d)
  | none => false
theorem hitB_iff {l : List (Int × Int)} {d : Int} {k : Nat} : hitB l d k = true ↔ Hit l d k := by
  unfold hitB Hit
  cases h : l[k]? with
  | none => simp
  | some r => simp
theorem hitB_f {l : List (Int × Int)} {d : Int} {k : Nat} (h : ¬ Hit l d k) : hitB l d k = false := by
  cases e : hitB l d k with
  | false => rfl
  | true => exact absurd (hitB_iff.1 e) h
theorem w14 (x : AV) (l : List (Int × Int)) (d : Int) (hl : l.length ≤ 5000) (hs : Srt l) (h : Heap) (nx : Nat) (hx : RdC h x l) : AC Try.prog 14 [x, .int .u64 d, .fn (.func 15) []] h nx fun y h' n' => ∃ k, At l d k ∧ y = .ret (.tup [.int .i64 (k : Nat), .bool (hitB l d k)]) ∧ h' = h ∧ nx ≤ n' := by
  refine AC.go mixed is14 (by simp) ?_
  have hlx := hx.len
  simp -implicitDefEqProofs only [go_skip, go_label, go_exit, go_ret, go_seq, go_block, go_cond, go_region, go_loop, go_dregion, fin_nil, fin_seq_n, fin_seq_e, fin_seq_r, fin_seq_p, fin_blk_n, fin_blk_e, fin_blk_r, fin_blk_p, rg_nil, rg_cons, gK_t, gK_f, aK_op, aK_call, oK_val, oK_skip, fK_go, rK_ret, cK_t, cK_f, dg_nil, dg_cons, dGK_t, dGK_f, dAK_op, dS_q, dS_l, dS_w, dAK_call, dLK_go, dLK2_fp, dLK2_op, dQK_val, dOK_val, dOK_skip, dFK_go, dRK_ret, then_n, then_e, then_r, then_p, guardOk, opEv, oev, oevs, ofV_int, ofV_bool, ofV_str, ofV_nilS, ofV_nilP, ofV_nilM, ofV_nilF, ofV_nilI, List.toList_toArray, eget, setE, dropE, edel, penv, AOp.quiet, AOp.isLoad, pendOk, pendKeep, Nat.reduceEqDiff, ↓reduceIte, reduceCtorEq, bt1, bt2, bt3, bt4, b_add, b_sub, b_mul, b_eql, b_neq, b_lss, b_leq, b_gtr, b_geq, addA, ptr_fp, rel_fp, take1, List.drop_zero, List.drop_succ_cons, List.cons_append, List.nil_append, List.append_nil, Bool.not_true, Bool.not_false, decide_true, decide_false, true_and, and_true, Fin_ret, Fin_normal, rvsEv, rvEv, ex_some, resV, post_fin, ptrCells, reload, hget, hset, hdel, storeH, splice, takeV, cellsOf, AV.plain, and_self, List.take_succ_cons, List.take_zero, List.length_cons, List.length_nil, Nat.reduceAdd, Nat.reduceLeDiff, Nat.zero_add, Nat.add_zero, Nat.le_refl, List.getElem?_cons_zero, List.getElem?_cons_succ, partsE, partsE3, fillE, fillA, List.replicate_succ, List.replicate_zero, List.set_cons_zero, List.set_cons_succ, Nat.reduceLT, Nat.zero_lt_one, eq_self, List.contains_cons, List.contains_nil, Nat.reduceBEq, Bool.or_false, Bool.or_self, Bool.false_or, Bool.true_or, Bool.or_true, A14, hlx]
  refine go_rounds (fun q st => ∃ lo hi : Nat, q = hi - lo ∧ lo ≤ hi ∧ hi ≤ l.length ∧ (∀ (j : Nat) (r : Int × Int), j < lo → l[j]? = some r → r.1 < d) ∧ (∀ (j : Nat) (r : Int × Int), hi ≤ j → l[j]? = some r → d ≤ r.1) ∧
      eget st.env 0 = some x ∧ eget st.env 1 = some (.int .u64 d) ∧ eget st.env 2 = some (.fn (.func 15) []) ∧ eget st.env 8 = some (.int .i64 l.length) ∧ eget st.env 9 = some (.int .i64 lo) ∧ eget st.env 10 = some (.int .i64 hi) ∧ st.dm = [] ∧ st.heap = h ∧ nx ≤ st.nx) (n := l.length) mixed
    ⟨0, l.length, by omega, by omega, by omega, fun j r hj => by omega, fun j r hj hr => by have := (List.getElem?_eq_some_iff.1 hr).1; omega, by simp [eget], by simp [eget], by simp [eget], by simp [eget], by simp [eget], by simp [eget], rfl, rfl, Nat.le_refl _⟩ ?_
  rintro q ⟨env, heap, nx', dm⟩ ⟨lo, hi, rfl, hlh, hhl, hlo, hhi, g0, g1, g2, g8, g9, g10, hdm, hh, hnx⟩
  simp only at g0 g1 g2 g8 g9 g10 hdm hh hnx
  subst hdm; subst hh
  by_cases hc : (lo : Int) < (hi : Int)
  case neg =>
    obtain rfl : lo = hi := by omega
    by_cases hlt : (lo : Int) < (l.length : Int)
    · obtain ⟨r, hr⟩ : ∃ r, l[lo]? = some r := ⟨l[lo]'(by omega), List.getElem?_eq_getElem (by omega)⟩
      obtain ⟨p, cs, hp1, hp2, hp3, hp4⟩ := hx.row2 hr
      simp -implicitDefEqProofs only [go_skip, go_label, go_exit, go_ret, go_seq, go_block, go_cond, go_region, go_loop, go_dregion, fin_nil, fin_seq_n, fin_seq_e, fin_seq_r, fin_seq_p, fin_blk_n, fin_blk_e, fin_blk_r, fin_blk_p, rg_nil, rg_cons, gK_t, gK_f, aK_op, aK_call, oK_val, oK_skip, fK_go, rK_ret, cK_t, cK_f, dg_nil, dg_cons, dGK_t, dGK_f, dAK_op, dS_q, dS_l, dS_w, dAK_call, dLK_go, dLK2_fp, dLK2_op, dQK_val, dOK_val, dOK_skip, dFK_go, dRK_ret, then_n, then_e, then_r, then_p, guardOk, opEv, oev, oevs, ofV_int, ofV_bool, ofV_str, ofV_nilS, ofV_nilP, ofV_nilM, ofV_nilF, ofV_nilI, List.toList_toArray, eget, setE, dropE, edel, penv, AOp.quiet, AOp.isLoad, pendOk, pendKeep, Nat.reduceEqDiff, ↓reduceIte, reduceCtorEq, bt1, bt2, bt3, bt4, b_add, b_sub, b_mul, b_eql, b_neq, b_lss, b_leq, b_gtr, b_geq, addA, ptr_fp, rel_fp, take1, List.drop_zero, List.drop_succ_cons, List.cons_append, List.nil_append, List.append_nil, Bool.not_true, Bool.not_false, decide_true, decide_false, true_and, and_true, Fin_ret, Fin_normal, rvsEv, rvEv, ex_some, resV, post_fin, hget, hset, hdel, storeH, splice, takeV, cellsOf, AV.plain, and_self, List.take_succ_cons, List.take_zero, List.length_cons, List.length_nil, Nat.reduceAdd, Nat.reduceLeDiff, Nat.zero_add, Nat.add_zero, Nat.le_refl, List.getElem?_cons_zero, List.getElem?_cons_succ, partsE, partsE3, fillE, fillA, List.replicate_succ, List.replicate_zero, List.set_cons_zero, List.set_cons_succ, Nat.reduceLT, Nat.zero_lt_one, eq_self, List.contains_cons, List.contains_nil, Nat.reduceBEq, Bool.or_false, Bool.or_self, Bool.false_or, Bool.true_or, Bool.or_true, A14l0, g0, g1, g2, g8, g9, g10, hc, hlt, hp1, hp2, hp3, hp4]
      refine (w15 r d).use fun n1 hn1 => ?_
      have hh : hitB l d lo = decide (cmpC r d = 0) := by
        unfold hitB cmpC
        rw [hr]
        simp only
        by_cases c1 : r.1 < d
        · rw [if_pos c1]; rw [decide_eq_false (show ¬ r.1 = d by omega)]; rfl
        · by_cases c2 : d < r.1
          · rw [if_neg c1, if_pos c2]; rw [decide_eq_false (show ¬ r.1 = d by omega)]; rfl
          · rw [if_neg c1, if_neg c2]; rw [decide_eq_true (show r.1 = d by omega)]; rfl
      simp -implicitDefEqProofs only [go_skip, go_label, go_exit, go_ret, go_seq, go_block, go_cond, go_region, go_loop, go_dregion, fin_nil, fin_seq_n, fin_seq_e, fin_seq_r, fin_seq_p, fin_blk_n, fin_blk_e, fin_blk_r, fin_blk_p, rg_nil, rg_cons, gK_t, gK_f, aK_op, aK_call, oK_val, oK_skip, fK_go, rK_ret, cK_t, cK_f, dg_nil, dg_cons, dGK_t, dGK_f, dAK_op, dS_q, dS_l, dS_w, dAK_call, dLK_go, dLK2_fp, dLK2_op, dQK_val, dOK_val, dOK_skip, dFK_go, dRK_ret, then_n, then_e, then_r, then_p, guardOk, opEv, oev, oevs, ofV_int, ofV_bool, ofV_str, ofV_nilS, ofV_nilP, ofV_nilM, ofV_nilF, ofV_nilI, List.toList_toArray, eget, setE, dropE, edel, penv, AOp.quiet, AOp.isLoad, pendOk, pendKeep, Nat.reduceEqDiff, ↓reduceIte, reduceCtorEq, bt1, bt2, bt3, bt4, b_add, b_sub, b_mul, b_eql, b_neq, b_lss, b_leq, b_gtr, b_geq, addA, ptr_fp, rel_fp, take1, List.drop_zero, List.drop_succ_cons, List.cons_append, List.nil_append, List.append_nil, Bool.not_true, Bool.not_false, decide_true, decide_false, true_and, and_true, Fin_ret, Fin_normal, rvsEv, rvEv, ex_some, resV, post_fin, ptrCells, reload, hget, hset, hdel, storeH, splice, takeV, cellsOf, AV.plain, and_self, List.take_succ_cons, List.take_zero, List.length_cons, List.length_nil, Nat.reduceAdd, Nat.reduceLeDiff, Nat.zero_add, Nat.add_zero, Nat.le_refl, List.getElem?_cons_zero, List.getElem?_cons_succ, partsE, partsE3, fillE, fillA, List.replicate_succ, List.replicate_zero, List.set_cons_zero, List.set_cons_succ, Nat.reduceLT, Nat.zero_lt_one, eq_self, List.contains_cons, List.contains_nil, Nat.reduceBEq, Bool.or_false, Bool.or_self, Bool.false_or, Bool.true_or, Bool.or_true, R14]
      exact ⟨lo, ⟨by omega, hlo, hhi⟩, by rw [hh], by omega⟩
    · simp -implicitDefEqProofs only [go_skip, go_label, go_exit, go_ret, go_seq, go_block, go_cond, go_region, go_loop, go_dregion, fin_nil, fin_seq_n, fin_seq_e, fin_seq_r, fin_seq_p, fin_blk_n, fin_blk_e, fin_blk_r, fin_blk_p, rg_nil, rg_cons, gK_t, gK_f, aK_op, aK_call, oK_val, oK_skip, fK_go, rK_ret, cK_t, cK_f, dg_nil, dg_cons, dGK_t, dGK_f, dAK_op, dS_q, dS_l, dS_w, dAK_call, dLK_go, dLK2_fp, dLK2_op, dQK_val, dOK_val, dOK_skip, dFK_go, dRK_ret, then_n, then_e, then_r, then_p, guardOk, opEv, oev, oevs, ofV_int, ofV_bool, ofV_str, ofV_nilS, ofV_nilP, ofV_nilM, ofV_nilF, ofV_nilI, List.toList_toArray, eget, setE, dropE, edel, penv, AOp.quiet, AOp.isLoad, pendOk, pendKeep, Nat.reduceEqDiff, ↓reduceIte, reduceCtorEq, bt1, bt2, bt3, bt4, b_add, b_sub, b_mul, b_eql, b_neq, b_lss, b_leq, b_gtr, b_geq, addA, ptr_fp, rel_fp, take1, List.drop_zero, List.drop_succ_cons, List.cons_append, List.nil_append, List.append_nil, Bool.not_true, Bool.not_false, decide_true, decide_false, true_and, and_true, Fin_ret, Fin_normal, rvsEv, rvEv, ex_some, resV, post_fin, ptrCells, reload, hget, hset, hdel, storeH, splice, takeV, cellsOf, AV.plain, and_self, List.take_succ_cons, List.take_zero, List.length_cons, List.length_nil, Nat.reduceAdd, Nat.reduceLeDiff, Nat.zero_add, Nat.add_zero, Nat.le_refl, List.getElem?_cons_zero, List.getElem?_cons_succ, partsE, partsE3, fillE, fillA, List.replicate_succ, List.replicate_zero, List.set_cons_zero, List.set_cons_succ, Nat.reduceLT, Nat.zero_lt_one, eq_self, List.contains_cons, List.contains_nil, Nat.reduceBEq, Bool.or_false, Bool.or_self, Bool.false_or, Bool.true_or, Bool.or_true, A14l0, g0, g1, g2, g8, g9, g10, hc, hlt, R14]
      refine ⟨lo, ⟨by omega, hlo, hhi⟩, ?_, hnx⟩
      have : hitB l d lo = false := hitB_f (by
        rintro ⟨r, hr, _⟩
        have := (List.getElem?_eq_some_iff.1 hr).1; omega)
      rw [this]
  have hm : (lo + hi) / 2 < l.length := by omega
  obtain ⟨r, hr⟩ : ∃ r, l[(lo + hi) / 2]? = some r := ⟨l[(lo + hi) / 2], by simp [hm]⟩
  obtain ⟨p, cs, hp1, hp2, hp3, hp4⟩ := hx.row2 hr
  have s0 : IntKind.i64.wrap ((lo : Int) + (hi : Int)) = ((lo + hi : Nat) : Int) := by rw [w64 (by omega) (by omega)]; omega
  have s1 : IntKind.u64.wrap ((lo + hi : Nat) : Int) = ((lo + hi : Nat) : Int) := wu64 (by omega) (by omega)
  have s2 : ((lo + hi : Nat) : Int).fdiv 2 = (((lo + hi) / 2 : Nat) : Int) := by rw [Int.fdiv_eq_ediv_of_nonneg _ (by omega)]; omega
  have s3 : IntKind.i64.wrap (((lo + hi) / 2 : Nat) : Int) = (((lo + hi) / 2 : Nat) : Int) := w64 (by omega) (by omega)
  have s4 : IntKind.i64.wrap ((((lo + hi) / 2 : Nat) : Int) + 1) = (((lo + hi) / 2 + 1 : Nat) : Int) := by rw [w64 (by omega) (by omega)]; omega
  have s5 : (2 : Int) ^ (min (Int.toNat 1) 64) = 2 := rfl
  simp -implicitDefEqProofs only [go_skip, go_label, go_exit, go_ret, go_seq, go_block, go_cond, go_region, go_loop, go_dregion, fin_nil, fin_seq_n, fin_seq_e, fin_seq_r, fin_seq_p, fin_blk_n, fin_blk_e, fin_blk_r, fin_blk_p, rg_nil, rg_cons, gK_t, gK_f, aK_op, aK_call, oK_val, oK_skip, fK_go, rK_ret, cK_t, cK_f, dg_nil, dg_cons, dGK_t, dGK_f, dAK_op, dS_q, dS_l, dS_w, dAK_call, dLK_go, dLK2_fp, dLK2_op, dQK_val, dOK_val, dOK_skip, dFK_go, dRK_ret, then_n, then_e, then_r, then_p, guardOk, opEv, oev, oevs, ofV_int, ofV_bool, ofV_str, ofV_nilS, ofV_nilP, ofV_nilM, ofV_nilF, ofV_nilI, List.toList_toArray, eget, setE, dropE, edel, penv, AOp.quiet, AOp.isLoad, pendOk, pendKeep, Nat.reduceEqDiff, ↓reduceIte, reduceCtorEq, bt1, bt2, bt3, bt4, b_add, b_sub, b_mul, b_eql, b_neq, b_lss, b_leq, b_gtr, b_geq, addA, ptr_fp, rel_fp, take1, List.drop_zero, List.drop_succ_cons, List.cons_append, List.nil_append, List.append_nil, Bool.not_true, Bool.not_false, decide_true, decide_false, true_and, and_true, Fin_ret, Fin_normal, rvsEv, rvEv, ex_some, resV, post_fin, hget, hset, hdel, storeH, splice, takeV, cellsOf, AV.plain, and_self, List.take_succ_cons, List.take_zero, List.length_cons, List.length_nil, Nat.reduceAdd, Nat.reduceLeDiff, Nat.zero_add, Nat.add_zero, Nat.le_refl, List.getElem?_cons_zero, List.getElem?_cons_succ, partsE, partsE3, fillE, fillA, List.replicate_succ, List.replicate_zero, List.set_cons_zero, List.set_cons_succ, Nat.reduceLT, Nat.zero_lt_one, eq_self, List.contains_cons, List.contains_nil, Nat.reduceBEq, Bool.or_false, Bool.or_self, Bool.false_or, Bool.true_or, Bool.or_true, A14l0, g0, g1, g2, g8, g9, g10, hc, s0, s1, b_shr _ _ _ _ (show (0 : Int) ≤ 1 by decide), IntKind.bits, s5, s2, s3, hp1, hp2, hp3, hp4]
  refine (w15 r d).use fun n1 hn1 => ?_
  by_cases c1 : r.1 < d
  · have e1 : (cmpC r d < 0) = True := eq_true (by unfold cmpC; rw [if_pos c1]; decide)
    simp -implicitDefEqProofs only [go_skip, go_label, go_exit, go_ret, go_seq, go_block, go_cond, go_region, go_loop, go_dregion, fin_nil, fin_seq_n, fin_seq_e, fin_seq_r, fin_seq_p, fin_blk_n, fin_blk_e, fin_blk_r, fin_blk_p, rg_nil, rg_cons, gK_t, gK_f, aK_op, aK_call, oK_val, oK_skip, fK_go, rK_ret, cK_t, cK_f, dg_nil, dg_cons, dGK_t, dGK_f, dAK_op, dS_q, dS_l, dS_w, dAK_call, dLK_go, dLK2_fp, dLK2_op, dQK_val, dOK_val, dOK_skip, dFK_go, dRK_ret, then_n, then_e, then_r, then_p, guardOk, opEv, oev, oevs, ofV_int, ofV_bool, ofV_str, ofV_nilS, ofV_nilP, ofV_nilM, ofV_nilF, ofV_nilI, List.toList_toArray, eget, setE, dropE, edel, penv, AOp.quiet, AOp.isLoad, pendOk, pendKeep, Nat.reduceEqDiff, ↓reduceIte, reduceCtorEq, bt1, bt2, bt3, bt4, b_add, b_sub, b_mul, b_eql, b_neq, b_lss, b_leq, b_gtr, b_geq, addA, ptr_fp, rel_fp, take1, List.drop_zero, List.drop_succ_cons, List.cons_append, List.nil_append, List.append_nil, Bool.not_true, Bool.not_false, decide_true, decide_false, true_and, and_true, Fin_ret, Fin_normal, rvsEv, rvEv, ex_some, resV, post_fin, ptrCells, reload, hget, hset, hdel, storeH, splice, takeV, cellsOf, AV.plain, and_self, List.take_succ_cons, List.take_zero, List.length_cons, List.length_nil, Nat.reduceAdd, Nat.reduceLeDiff, Nat.zero_add, Nat.add_zero, Nat.le_refl, List.getElem?_cons_zero, List.getElem?_cons_succ, partsE, partsE3, fillE, fillA, List.replicate_succ, List.replicate_zero, List.set_cons_zero, List.set_cons_succ, Nat.reduceLT, Nat.zero_lt_one, eq_self, List.contains_cons, List.contains_nil, Nat.reduceBEq, Bool.or_false, Bool.or_self, Bool.false_or, Bool.true_or, Bool.or_true, e1, g0, g1, g2, g8, g9, g10, s4]
    refine ⟨hi - ((lo + hi) / 2 + 1), by omega, (lo + hi) / 2 + 1, hi, rfl, by omega, by omega, fun j p' hj hp' => ?_, hhi, ?_⟩
    · by_cases e : j = (lo + hi) / 2
      · subst e; rw [hr] at hp'; cases hp'; exact c1
      · have := hs j ((lo + hi) / 2) p' r (by omega) hp' hr; omega
    · repeat' apply And.intro
      all_goals first | assumption | rfl | omega | (simp [eget, *]; done)
  · have e1 : (cmpC r d < 0) = False := eq_false (by unfold cmpC; rw [if_neg c1]; split <;> decide)
    simp -implicitDefEqProofs only [go_skip, go_label, go_exit, go_ret, go_seq, go_block, go_cond, go_region, go_loop, go_dregion, fin_nil, fin_seq_n, fin_seq_e, fin_seq_r, fin_seq_p, fin_blk_n, fin_blk_e, fin_blk_r, fin_blk_p, rg_nil, rg_cons, gK_t, gK_f, aK_op, aK_call, oK_val, oK_skip, fK_go, rK_ret, cK_t, cK_f, dg_nil, dg_cons, dGK_t, dGK_f, dAK_op, dS_q, dS_l, dS_w, dAK_call, dLK_go, dLK2_fp, dLK2_op, dQK_val, dOK_val, dOK_skip, dFK_go, dRK_ret, then_n, then_e, then_r, then_p, guardOk, opEv, oev, oevs, ofV_int, ofV_bool, ofV_str, ofV_nilS, ofV_nilP, ofV_nilM, ofV_nilF, ofV_nilI, List.toList_toArray, eget, setE, dropE, edel, penv, AOp.quiet, AOp.isLoad, pendOk, pendKeep, Nat.reduceEqDiff, ↓reduceIte, reduceCtorEq, bt1, bt2, bt3, bt4, b_add, b_sub, b_mul, b_eql, b_neq, b_lss, b_leq, b_gtr, b_geq, addA, ptr_fp, rel_fp, take1, List.drop_zero, List.drop_succ_cons, List.cons_append, List.nil_append, List.append_nil, Bool.not_true, Bool.not_false, decide_true, decide_false, true_and, and_true, Fin_ret, Fin_normal, rvsEv, rvEv, ex_some, resV, post_fin, ptrCells, reload, hget, hset, hdel, storeH, splice, takeV, cellsOf, AV.plain, and_self, List.take_succ_cons, List.take_zero, List.length_cons, List.length_nil, Nat.reduceAdd, Nat.reduceLeDiff, Nat.zero_add, Nat.add_zero, Nat.le_refl, List.getElem?_cons_zero, List.getElem?_cons_succ, partsE, partsE3, fillE, fillA, List.replicate_succ, List.replicate_zero, List.set_cons_zero, List.set_cons_succ, Nat.reduceLT, Nat.zero_lt_one, eq_self, List.contains_cons, List.contains_nil, Nat.reduceBEq, Bool.or_false, Bool.or_self, Bool.false_or, Bool.true_or, Bool.or_true, e1, g0, g1, g2, g8, g9, g10, s4]
    refine ⟨(lo + hi) / 2 - lo, by omega, lo, (lo + hi) / 2, rfl, by omega, by omega, hlo, fun j p' hj hp' => ?_, ?_⟩
    · by_cases e : j = (lo + hi) / 2
      · subst e; rw [hr] at hp'; cases hp'; omega
      · have := hs ((lo + hi) / 2) j r p' (by omega) hr hp'; omega
    · repeat' apply And.intro
      all_goals first | assumption | rfl | omega | (simp [eget, *]; done)
end Go.Proofs.Ytdmjloieldhlnaa
