/- Store: its loop. -/
import Derived.Test.YtdmjloieldhlnaaIW15
namespace Go.Proofs.Ytdmjloieldhlnaa
open Go Go.Ab Go.Proofs
set_option linter.unusedVariables false
set_option linter.unusedSimpArgs false
set_option maxRecDepth 20000

def A5r : ACode :=
  (.seq (.seq (.region [⟨(some 87), none, .op (.move (.tmp 10))⟩,
      ⟨(some 88), none, .op (.len (.tmp 87))⟩,
      ⟨(some 89), none, .op (.bin .gtr (.tmp 88) (.const (.int .i64 4096)))⟩])
    (.cond (.tmp 89) (.seq (.region [⟨(some 8), none, .op (.move (.const (.slice none 0 0)))⟩,
      ⟨(some 9), none, .op (.move (.const (.int .i64 20)))⟩])
    .ret) .skip))
    (.seq (.region [⟨(some 90), none, .op (.move (.tmp 10))⟩,
      ⟨(some 8), none, .op (.move (.tmp 90))⟩,
      ⟨(some 9), none, .op (.move (.const (.int .i64 0)))⟩])
    .ret))
theorem loop5 (l : List (Int × Int)) (d x nb : Nat) (out : List (Int × Int)) (e w : Int) (hl : l.length ≤ 4100) (d1 : d < 4294967296) (hx : x < 18446744073709551616) (hw : w = 8 * (nb : Int)) (hnb : nb ≤ 8) (hsr : Srt l) (hs : (4096 < (stoL nb l d x).length ∧ out = [] ∧ e = 20) ∨ (¬ 4096 < (stoL nb l d x).length ∧ out = stoL nb l d x ∧ e = 0))
    (Qv : AE → Heap → Nat → Prop) (hQ : ∀ y h' n', (∃ v, y = .ret (.tup [v, .int .i64 e]) ∧ OwnSl 36 2 h' n' v (out.map cellE)) → Qv y h' n') (env : Env) (heap : Heap) (nx' : Nat) (v : AV) (g1 : eget env 1 = some (.int .u64 d)) (g2 : eget env 2 = some (.int .i64 w)) (g3 : eget env 3 = some (.int .u64 x)) (g10 : eget env 10 = some v) (g11 : eget env 11 = some (.int .i64 0)) (ho : OwnSl 36 2 heap nx' v (l.map cellE)) :
    AW Try.prog (fun r i => (r, i) == (15, 5)) none 91 (.loop A5l0) (post Try.prog (fun r i => (r, i) == (15, 5)) none 91 (Fin R5 Qv) [.blk 0, .seq A5r]) { env := env, heap := heap, nx := nx', dm := [] } := by
  refine go_rounds (fun q st => ∃ (m : Nat) (v : AV) (l' : List (Int × Int)), q = nb - m ∧ m ≤ nb ∧ stoL (nb - m) l' (adr d m) (x / 256 ^ m) = stoL nb l d x ∧ l'.length ≤ l.length + m ∧ Srt l' ∧ eget st.env 1 = some (.int .u64 d) ∧ eget st.env 2 = some (.int .i64 w) ∧ eget st.env 3 = some (.int .u64 x) ∧ eget st.env 10 = some v ∧ eget st.env 11 = some (.int .i64 (8 * m : Nat)) ∧ OwnSl 36 2 st.heap st.nx v (l'.map cellE) ∧ st.dm = []) (n := nb) mixed
    ⟨0, v, l, rfl, by omega, by simp [adr, Nat.mod_eq_of_lt d1], by omega, hsr, g1, g2, g3, g10, g11, ho, rfl⟩ ?_
  rintro q ⟨env, heap, nx', dm⟩ ⟨m, v, l', rfl, hm, hst, hll, hsl, g1, g2, g3, g10, g11, ho, hdm⟩
  simp only at g1 g2 g3 g10 g11 ho hdm
  subst hdm
  have hlv : lenA v = some l'.length := by rw [ho.len, List.length_map]
  by_cases hc : ((8 * m : Nat) : Int) < w
  case neg =>
    obtain rfl : m = nb := by omega
    rw [Nat.sub_self] at hst
    have hst' : l' = stoL m l d x := hst
    rw [← hst'] at hs
    rcases hs with ⟨h1, rfl, rfl⟩ | ⟨h1, rfl, rfl⟩
    · have c1 : (4096 : Int) < (l'.length : Int) := by omega
      simp -implicitDefEqProofs only [go_skip, go_label, go_exit, go_ret, go_seq, go_block, go_cond, go_region, go_loop, go_dregion, fin_nil, fin_seq_n, fin_seq_e, fin_seq_r, fin_seq_p, fin_blk_n, fin_blk_e, fin_blk_r, fin_blk_p, rg_nil, rg_cons, gK_t, gK_f, aK_op, aK_call, oK_val, oK_skip, fK_go, rK_ret, cK_t, cK_f, dg_nil, dg_cons, dGK_t, dGK_f, dAK_op, dS_q, dS_l, dS_w, dAK_call, dLK_go, dLK2_fp, dLK2_op, dQK_val, dOK_val, dOK_skip, dFK_go, dRK_ret, then_n, then_e, then_r, then_p, guardOk, opEv, oev, oevs, ofV_int, ofV_bool, ofV_str, ofV_nilS, ofV_nilP, ofV_nilM, ofV_nilF, ofV_nilI, List.toList_toArray, eget, setE, dropE, edel, penv, AOp.quiet, AOp.isLoad, pendOk, pendKeep, Nat.reduceEqDiff, ↓reduceIte, reduceCtorEq, bt1, bt2, bt3, bt4, b_add, b_sub, b_mul, b_eql, b_neq, b_lss, b_leq, b_gtr, b_geq, addA, ptr_fp, rel_fp, take1, List.drop_zero, List.drop_succ_cons, List.cons_append, List.nil_append, List.append_nil, Bool.not_true, Bool.not_false, decide_true, decide_false, true_and, and_true, Fin_ret, Fin_normal, rvsEv, rvEv, ex_some, resV, post_fin, ptrCells, reload, hget, hset, hdel, storeH, splice, takeV, cellsOf, AV.plain, and_self, List.take_succ_cons, List.take_zero, List.length_cons, List.length_nil, Nat.reduceAdd, Nat.reduceLeDiff, Nat.zero_add, Nat.add_zero, Nat.le_refl, List.getElem?_cons_zero, List.getElem?_cons_succ, partsE, partsE3, fillE, fillA, List.replicate_succ, List.replicate_zero, List.set_cons_zero, List.set_cons_succ, Nat.reduceLT, Nat.zero_lt_one, eq_self, List.contains_cons, List.contains_nil, Nat.reduceBEq, Bool.or_false, Bool.or_self, Bool.false_or, Bool.true_or, Bool.or_true, A5l0, A5r, g1, g2, g3, g10, g11, hc, hlv, c1, R5]
      exact hQ _ _ _ ⟨_, rfl, .inl ⟨rfl, rfl⟩⟩
    · have c1 : ¬ (4096 : Int) < (out.length : Int) := by omega
      simp -implicitDefEqProofs only [go_skip, go_label, go_exit, go_ret, go_seq, go_block, go_cond, go_region, go_loop, go_dregion, fin_nil, fin_seq_n, fin_seq_e, fin_seq_r, fin_seq_p, fin_blk_n, fin_blk_e, fin_blk_r, fin_blk_p, rg_nil, rg_cons, gK_t, gK_f, aK_op, aK_call, oK_val, oK_skip, fK_go, rK_ret, cK_t, cK_f, dg_nil, dg_cons, dGK_t, dGK_f, dAK_op, dS_q, dS_l, dS_w, dAK_call, dLK_go, dLK2_fp, dLK2_op, dQK_val, dOK_val, dOK_skip, dFK_go, dRK_ret, then_n, then_e, then_r, then_p, guardOk, opEv, oev, oevs, ofV_int, ofV_bool, ofV_str, ofV_nilS, ofV_nilP, ofV_nilM, ofV_nilF, ofV_nilI, List.toList_toArray, eget, setE, dropE, edel, penv, AOp.quiet, AOp.isLoad, pendOk, pendKeep, Nat.reduceEqDiff, ↓reduceIte, reduceCtorEq, bt1, bt2, bt3, bt4, b_add, b_sub, b_mul, b_eql, b_neq, b_lss, b_leq, b_gtr, b_geq, addA, ptr_fp, rel_fp, take1, List.drop_zero, List.drop_succ_cons, List.cons_append, List.nil_append, List.append_nil, Bool.not_true, Bool.not_false, decide_true, decide_false, true_and, and_true, Fin_ret, Fin_normal, rvsEv, rvEv, ex_some, resV, post_fin, ptrCells, reload, hget, hset, hdel, storeH, splice, takeV, cellsOf, AV.plain, and_self, List.take_succ_cons, List.take_zero, List.length_cons, List.length_nil, Nat.reduceAdd, Nat.reduceLeDiff, Nat.zero_add, Nat.add_zero, Nat.le_refl, List.getElem?_cons_zero, List.getElem?_cons_succ, partsE, partsE3, fillE, fillA, List.replicate_succ, List.replicate_zero, List.set_cons_zero, List.set_cons_succ, Nat.reduceLT, Nat.zero_lt_one, eq_self, List.contains_cons, List.contains_nil, Nat.reduceBEq, Bool.or_false, Bool.or_self, Bool.false_or, Bool.true_or, Bool.or_true, A5l0, A5r, g1, g2, g3, g10, g11, hc, hlv, c1, R5]
      exact hQ _ _ _ ⟨_, rfl, ho⟩
  have hmn : m < nb := by omega
  have s1 : IntKind.i64.wrap (((8 * m : Nat) : Int).tdiv 8) = (m : Int) := by rw [show ((8 * m : Nat) : Int) = 8 * (m : Int) by omega, Int.mul_tdiv_cancel_left _ (by decide), w64 (by omega) (by omega)]
  have s2 : IntKind.u64.wrap (m : Int) = (m : Int) := wu64 (by omega) (by omega)
  have s3 : IntKind.u64.wrap ((d : Int) + (m : Int)) = ((d + m : Nat) : Int) := by rw [wu64 (by omega) (by omega)]; omega
  have s4 := band_lit (a := d + m) (by omega)
  have s5 : (x : Int).fdiv (2 ^ (min (((8 * m : Nat) : Int).toNat) 64)) = ((x / 256 ^ m : Nat) : Int) := by
    rw [Int.toNat_natCast, Nat.min_eq_left (by omega)]
    have e0 : (256 : Nat) ^ m = 2 ^ (8 * m) := by rw [Nat.pow_mul]
    have e1 : (2 : Int) ^ (8 * m) = ((256 ^ m : Nat) : Int) := by rw [e0]; simp
    rw [e1, Int.fdiv_eq_ediv_of_nonneg _ (Int.natCast_nonneg _)]; rfl
  have s6 : IntKind.u8.wrap ((x / 256 ^ m : Nat) : Int) = ((x / 256 ^ m % 256 : Nat) : Int) := by rw [IntKind.wrap_u8]; omega
  have hrd : RdC heap v l' := .inr ⟨36, nx', ho⟩
  generalize hB : x / 256 ^ m = B at s5 s6 hst
  simp -implicitDefEqProofs only [go_skip, go_label, go_exit, go_ret, go_seq, go_block, go_cond, go_region, go_loop, go_dregion, fin_nil, fin_seq_n, fin_seq_e, fin_seq_r, fin_seq_p, fin_blk_n, fin_blk_e, fin_blk_r, fin_blk_p, rg_nil, rg_cons, gK_t, gK_f, aK_op, aK_call, oK_val, oK_skip, fK_go, rK_ret, cK_t, cK_f, dg_nil, dg_cons, dGK_t, dGK_f, dAK_op, dS_q, dS_l, dS_w, dAK_call, dLK_go, dLK2_fp, dLK2_op, dQK_val, dOK_val, dOK_skip, dFK_go, dRK_ret, then_n, then_e, then_r, then_p, guardOk, opEv, oev, oevs, ofV_int, ofV_bool, ofV_str, ofV_nilS, ofV_nilP, ofV_nilM, ofV_nilF, ofV_nilI, List.toList_toArray, eget, setE, dropE, edel, penv, AOp.quiet, AOp.isLoad, pendOk, pendKeep, Nat.reduceEqDiff, ↓reduceIte, reduceCtorEq, bt1, bt2, bt3, bt4, b_add, b_sub, b_mul, b_eql, b_neq, b_lss, b_leq, b_gtr, b_geq, addA, ptr_fp, rel_fp, take1, List.drop_zero, List.drop_succ_cons, List.cons_append, List.nil_append, List.append_nil, Bool.not_true, Bool.not_false, decide_true, decide_false, true_and, and_true, Fin_ret, Fin_normal, rvsEv, rvEv, ex_some, resV, post_fin, ptrCells, reload, hget, hset, hdel, storeH, splice, takeV, cellsOf, AV.plain, and_self, List.take_succ_cons, List.take_zero, List.length_cons, List.length_nil, Nat.reduceAdd, Nat.reduceLeDiff, Nat.zero_add, Nat.add_zero, Nat.le_refl, List.getElem?_cons_zero, List.getElem?_cons_succ, partsE, partsE3, fillE, fillA, List.replicate_succ, List.replicate_zero, List.set_cons_zero, List.set_cons_succ, Nat.reduceLT, Nat.zero_lt_one, eq_self, List.contains_cons, List.contains_nil, Nat.reduceBEq, Bool.or_false, Bool.or_self, Bool.false_or, Bool.true_or, Bool.or_true, A5l0, g1, g2, g3, g10, g11, hc, b_quo _ _ 8 (by decide), s1, s2, s3, b_and, s4, Option.map_some, b_shr _ _ _ _ (Int.natCast_nonneg (8 * m)), IntKind.bits, s5, s6]
  refine (w14 v l' ((d + m) % 4294967296 : Nat) (by omega) hsl _ _ hrd).mono ?_
  rintro y hh n1 ⟨k, hat, rfl, rfl, hn1⟩
  have hkl := hat.le
  have f1 : IntKind.i64.wrap ((k : Int) + 1) = ((k + 1 : Nat) : Int) := by rw [w64 (by omega) (by omega)]; omega
  have f8 : IntKind.i64.wrap (((8 * m : Nat) : Int) + 8) = ((8 * (m + 1) : Nat) : Int) := by rw [w64 (by omega) (by omega)]; omega
  have hnext : ∀ b : Int, b = ((B % 256 : Nat) : Int) → stoL (nb - (m + 1)) (putL l' ((d + m) % 4294967296 : Nat) b) (adr d (m + 1)) (x / 256 ^ (m + 1)) = stoL nb l d x := by
    intro b hb
    rw [← hst, hb, ← hB]; exact (sto_step d1 hmn).symm
  have hplen := putL_len l' ((d + m) % 4294967296 : Nat) ((B % 256 : Nat) : Int)
  have hpsrt := srt_put (d := ((d + m) % 4294967296 : Nat)) (b := ((B % 256 : Nat) : Int)) hsl
  rcases dec_cases (((B % 256 : Nat) : Int) = 0) with ⟨c1, e1⟩ | ⟨c1, e1⟩
  · cases hh1 : hitB l' ((d + m) % 4294967296 : Nat) k with
    | false =>
      rw [c1, put_miss0 hat hsl hh1] at hplen hpsrt
      have hn := hnext 0 c1.symm
      rw [put_miss0 hat hsl hh1] at hn
      simp -implicitDefEqProofs only [go_skip, go_label, go_exit, go_ret, go_seq, go_block, go_cond, go_region, go_loop, go_dregion, fin_nil, fin_seq_n, fin_seq_e, fin_seq_r, fin_seq_p, fin_blk_n, fin_blk_e, fin_blk_r, fin_blk_p, rg_nil, rg_cons, gK_t, gK_f, aK_op, aK_call, oK_val, oK_skip, fK_go, rK_ret, cK_t, cK_f, dg_nil, dg_cons, dGK_t, dGK_f, dAK_op, dS_q, dS_l, dS_w, dAK_call, dLK_go, dLK2_fp, dLK2_op, dQK_val, dOK_val, dOK_skip, dFK_go, dRK_ret, then_n, then_e, then_r, then_p, guardOk, opEv, oev, oevs, ofV_int, ofV_bool, ofV_str, ofV_nilS, ofV_nilP, ofV_nilM, ofV_nilF, ofV_nilI, List.toList_toArray, eget, setE, dropE, edel, penv, AOp.quiet, AOp.isLoad, pendOk, pendKeep, Nat.reduceEqDiff, ↓reduceIte, reduceCtorEq, bt1, bt2, bt3, bt4, b_add, b_sub, b_mul, b_eql, b_neq, b_lss, b_leq, b_gtr, b_geq, addA, ptr_fp, rel_fp, take1, List.drop_zero, List.drop_succ_cons, List.cons_append, List.nil_append, List.append_nil, Bool.not_true, Bool.not_false, decide_true, decide_false, true_and, and_true, Fin_ret, Fin_normal, rvsEv, rvEv, ex_some, resV, post_fin, ptrCells, reload, hget, hset, hdel, storeH, splice, takeV, cellsOf, AV.plain, and_self, List.take_succ_cons, List.take_zero, List.length_cons, List.length_nil, Nat.reduceAdd, Nat.reduceLeDiff, Nat.zero_add, Nat.add_zero, Nat.le_refl, List.getElem?_cons_zero, List.getElem?_cons_succ, partsE, partsE3, fillE, fillA, List.replicate_succ, List.replicate_zero, List.set_cons_zero, List.set_cons_succ, Nat.reduceLT, Nat.zero_lt_one, eq_self, List.contains_cons, List.contains_nil, Nat.reduceBEq, Bool.or_false, Bool.or_self, Bool.false_or, Bool.true_or, Bool.or_true, e1, f8, g1, g2, g3, g10, g11]
      refine ⟨nb - (m + 1), by omega, m + 1, v, l', rfl, by omega, hn, by omega, hsl, ?_⟩
      repeat' apply And.intro
      all_goals first | assumption | rfl | omega | exact ho.mono hn1 | (simp [eget, *]; done)
    | true =>
      obtain ⟨r, hr, _⟩ := hitB_iff.1 hh1
      have hkl2 := (List.getElem?_eq_some_iff.1 hr).1
      rcases ho with ⟨_, hnil⟩ | ⟨b, rfl, hb, hbn⟩
      · rw [List.map_eq_nil_iff] at hnil; subst hnil; simp at hkl2
      obtain ⟨q, hq⟩ : ∃ q, l'.length = q + 1 := ⟨l'.length - 1, by omega⟩
      have hml : (l'.map cellE).length = q + 1 := by rw [List.length_map, hq]
      rw [hml] at g10 ⊢
      rw [c1, put_hit0 hat hsl hh1] at hplen hpsrt
      have hn := hnext 0 c1.symm
      rw [put_hit0 hat hsl hh1] at hn
      simp -implicitDefEqProofs only [go_skip, go_label, go_exit, go_ret, go_seq, go_block, go_cond, go_region, go_loop, go_dregion, fin_nil, fin_seq_n, fin_seq_e, fin_seq_r, fin_seq_p, fin_blk_n, fin_blk_e, fin_blk_r, fin_blk_p, rg_nil, rg_cons, gK_t, gK_f, aK_op, aK_call, oK_val, oK_skip, fK_go, rK_ret, cK_t, cK_f, dg_nil, dg_cons, dGK_t, dGK_f, dAK_op, dS_q, dS_l, dS_w, dAK_call, dLK_go, dLK2_fp, dLK2_op, dQK_val, dOK_val, dOK_skip, dFK_go, dRK_ret, then_n, then_e, then_r, then_p, guardOk, opEv, oev, oevs, ofV_int, ofV_bool, ofV_str, ofV_nilS, ofV_nilP, ofV_nilM, ofV_nilF, ofV_nilI, List.toList_toArray, eget, setE, dropE, edel, penv, AOp.quiet, AOp.isLoad, pendOk, pendKeep, Nat.reduceEqDiff, ↓reduceIte, reduceCtorEq, bt1, bt2, bt3, bt4, b_add, b_sub, b_mul, b_eql, b_neq, b_lss, b_leq, b_gtr, b_geq, addA, ptr_fp, rel_fp, take1, List.drop_zero, List.drop_succ_cons, List.cons_append, List.nil_append, List.append_nil, Bool.not_true, Bool.not_false, decide_true, decide_false, true_and, and_true, Fin_ret, Fin_normal, rvsEv, rvEv, ex_some, resV, post_fin, ptrCells, reload, hget, hset, hdel, storeH, splice, takeV, cellsOf, AV.plain, and_self, List.take_succ_cons, List.take_zero, List.length_cons, List.length_nil, Nat.reduceAdd, Nat.reduceLeDiff, Nat.zero_add, Nat.add_zero, Nat.le_refl, List.getElem?_cons_zero, List.getElem?_cons_succ, partsE, partsE3, fillE, fillA, List.replicate_succ, List.replicate_zero, List.set_cons_zero, List.set_cons_succ, Nat.reduceLT, Nat.zero_lt_one, eq_self, List.contains_cons, List.contains_nil, Nat.reduceBEq, Bool.or_false, Bool.or_self, Bool.false_or, Bool.true_or, Bool.or_true, e1, f1, g1, g2, g3, g10, g11]
      refine (w16 b k q (l'.map cellE) (cellE_len l') hml (by omega) (by omega) _ _ hb).mono ?_
      rintro y h2 n2 ⟨rfl, rfl, _, hg⟩
      have hel : (l'.eraseIdx k).length = q := by rw [List.length_eraseIdx, if_pos (by omega), hq]; rfl
      have how : OwnSl 36 2 h2 n2 (.os b 0 36 2 q) ((l'.eraseIdx k).map cellE) := .inr ⟨b, by rw [List.length_map, hel], by rw [hg]; simp [List.eraseIdx_eq_take_drop_succ, List.map_take, List.map_drop], by omega⟩
      simp -implicitDefEqProofs only [go_skip, go_label, go_exit, go_ret, go_seq, go_block, go_cond, go_region, go_loop, go_dregion, fin_nil, fin_seq_n, fin_seq_e, fin_seq_r, fin_seq_p, fin_blk_n, fin_blk_e, fin_blk_r, fin_blk_p, rg_nil, rg_cons, gK_t, gK_f, aK_op, aK_call, oK_val, oK_skip, fK_go, rK_ret, cK_t, cK_f, dg_nil, dg_cons, dGK_t, dGK_f, dAK_op, dS_q, dS_l, dS_w, dAK_call, dLK_go, dLK2_fp, dLK2_op, dQK_val, dOK_val, dOK_skip, dFK_go, dRK_ret, then_n, then_e, then_r, then_p, guardOk, opEv, oev, oevs, ofV_int, ofV_bool, ofV_str, ofV_nilS, ofV_nilP, ofV_nilM, ofV_nilF, ofV_nilI, List.toList_toArray, eget, setE, dropE, edel, penv, AOp.quiet, AOp.isLoad, pendOk, pendKeep, Nat.reduceEqDiff, ↓reduceIte, reduceCtorEq, bt1, bt2, bt3, bt4, b_add, b_sub, b_mul, b_eql, b_neq, b_lss, b_leq, b_gtr, b_geq, addA, ptr_fp, rel_fp, take1, List.drop_zero, List.drop_succ_cons, List.cons_append, List.nil_append, List.append_nil, Bool.not_true, Bool.not_false, decide_true, decide_false, true_and, and_true, Fin_ret, Fin_normal, rvsEv, rvEv, ex_some, resV, post_fin, ptrCells, reload, hget, hset, hdel, storeH, splice, takeV, cellsOf, AV.plain, and_self, List.take_succ_cons, List.take_zero, List.length_cons, List.length_nil, Nat.reduceAdd, Nat.reduceLeDiff, Nat.zero_add, Nat.add_zero, Nat.le_refl, List.getElem?_cons_zero, List.getElem?_cons_succ, partsE, partsE3, fillE, fillA, List.replicate_succ, List.replicate_zero, List.set_cons_zero, List.set_cons_succ, Nat.reduceLT, Nat.zero_lt_one, eq_self, List.contains_cons, List.contains_nil, Nat.reduceBEq, Bool.or_false, Bool.or_self, Bool.false_or, Bool.true_or, Bool.or_true, f8, g1, g2, g3, g10, g11]
      refine ⟨nb - (m + 1), by omega, m + 1, .os b 0 36 2 q, l'.eraseIdx k, rfl, by omega, hn, by omega, hpsrt, ?_⟩
      repeat' apply And.intro
      all_goals first | assumption | rfl | omega | (simp [eget, *]; done)
  · cases hh1 : hitB l' ((d + m) % 4294967296 : Nat) k with
    | false =>
      have hn := hnext _ rfl
      rw [put_miss hat hsl hh1 c1] at hn hplen hpsrt
      simp -implicitDefEqProofs only [go_skip, go_label, go_exit, go_ret, go_seq, go_block, go_cond, go_region, go_loop, go_dregion, fin_nil, fin_seq_n, fin_seq_e, fin_seq_r, fin_seq_p, fin_blk_n, fin_blk_e, fin_blk_r, fin_blk_p, rg_nil, rg_cons, gK_t, gK_f, aK_op, aK_call, oK_val, oK_skip, fK_go, rK_ret, cK_t, cK_f, dg_nil, dg_cons, dGK_t, dGK_f, dAK_op, dS_q, dS_l, dS_w, dAK_call, dLK_go, dLK2_fp, dLK2_op, dQK_val, dOK_val, dOK_skip, dFK_go, dRK_ret, then_n, then_e, then_r, then_p, guardOk, opEv, oev, oevs, ofV_int, ofV_bool, ofV_str, ofV_nilS, ofV_nilP, ofV_nilM, ofV_nilF, ofV_nilI, List.toList_toArray, eget, setE, dropE, edel, penv, AOp.quiet, AOp.isLoad, pendOk, pendKeep, Nat.reduceEqDiff, ↓reduceIte, reduceCtorEq, bt1, bt2, bt3, bt4, b_add, b_sub, b_mul, b_eql, b_neq, b_lss, b_leq, b_gtr, b_geq, addA, ptr_fp, rel_fp, take1, List.drop_zero, List.drop_succ_cons, List.cons_append, List.nil_append, List.append_nil, Bool.not_true, Bool.not_false, decide_true, decide_false, true_and, and_true, Fin_ret, Fin_normal, rvsEv, rvEv, ex_some, resV, post_fin, ptrCells, reload, hget, hset, hdel, storeH, splice, takeV, cellsOf, AV.plain, and_self, List.take_succ_cons, List.take_zero, List.length_cons, List.length_nil, Nat.reduceAdd, Nat.reduceLeDiff, Nat.zero_add, Nat.add_zero, Nat.le_refl, List.getElem?_cons_zero, List.getElem?_cons_succ, partsE, partsE3, fillE, fillA, List.replicate_succ, List.replicate_zero, List.set_cons_zero, List.set_cons_succ, Nat.reduceLT, Nat.zero_lt_one, eq_self, List.contains_cons, List.contains_nil, Nat.reduceBEq, Bool.or_false, Bool.or_self, Bool.false_or, Bool.true_or, Bool.or_true, e1, g1, g2, g3, g10, g11]
      have hlt : ∀ b, blkOf v = some b → b < n1 := fun b hb => by have := (ho.blk hb).2.2; omega
      have ho1 : OwnSl 36 2 ((n1, AO.cells [[AV.int .u64 ((d + m) % 4294967296 : Nat), AV.int .u8 (B % 256 : Nat)]].flatten) :: hh) (n1 + 1) v (l'.map cellE) := ho.keep (by omega) fun b o hb hg => by
        have := hlt b hb
        rw [hget_cons, if_neg (by omega)]; exact hg
      refine (w17 v k l'.length n1 (l'.map cellE) [.int .u64 ((d + m) % 4294967296 : Nat), .int .u8 (B % 256 : Nat)] (cellE_len l') (by rw [List.length_map]) (by omega) (by omega) rfl _ _ ho1 (by rw [hget_cons, if_pos rfl]; rfl) (fun hb => by have := hlt _ hb; omega) (by omega)).mono ?_
      rintro y h2 n2 ⟨v', rfl, gr⟩
      have how : OwnSl 36 2 h2 n2 v' ((l'.take k ++ ((((d + m) % 4294967296 : Nat) : Int), ((B % 256 : Nat) : Int)) :: l'.drop k).map cellE) := by rw [put_ins]; exact gr.1
      simp -implicitDefEqProofs only [go_skip, go_label, go_exit, go_ret, go_seq, go_block, go_cond, go_region, go_loop, go_dregion, fin_nil, fin_seq_n, fin_seq_e, fin_seq_r, fin_seq_p, fin_blk_n, fin_blk_e, fin_blk_r, fin_blk_p, rg_nil, rg_cons, gK_t, gK_f, aK_op, aK_call, oK_val, oK_skip, fK_go, rK_ret, cK_t, cK_f, dg_nil, dg_cons, dGK_t, dGK_f, dAK_op, dS_q, dS_l, dS_w, dAK_call, dLK_go, dLK2_fp, dLK2_op, dQK_val, dOK_val, dOK_skip, dFK_go, dRK_ret, then_n, then_e, then_r, then_p, guardOk, opEv, oev, oevs, ofV_int, ofV_bool, ofV_str, ofV_nilS, ofV_nilP, ofV_nilM, ofV_nilF, ofV_nilI, List.toList_toArray, eget, setE, dropE, edel, penv, AOp.quiet, AOp.isLoad, pendOk, pendKeep, Nat.reduceEqDiff, ↓reduceIte, reduceCtorEq, bt1, bt2, bt3, bt4, b_add, b_sub, b_mul, b_eql, b_neq, b_lss, b_leq, b_gtr, b_geq, addA, ptr_fp, rel_fp, take1, List.drop_zero, List.drop_succ_cons, List.cons_append, List.nil_append, List.append_nil, Bool.not_true, Bool.not_false, decide_true, decide_false, true_and, and_true, Fin_ret, Fin_normal, rvsEv, rvEv, ex_some, resV, post_fin, ptrCells, reload, hget, hset, hdel, storeH, splice, takeV, cellsOf, AV.plain, and_self, List.take_succ_cons, List.take_zero, List.length_cons, List.length_nil, Nat.reduceAdd, Nat.reduceLeDiff, Nat.zero_add, Nat.add_zero, Nat.le_refl, List.getElem?_cons_zero, List.getElem?_cons_succ, partsE, partsE3, fillE, fillA, List.replicate_succ, List.replicate_zero, List.set_cons_zero, List.set_cons_succ, Nat.reduceLT, Nat.zero_lt_one, eq_self, List.contains_cons, List.contains_nil, Nat.reduceBEq, Bool.or_false, Bool.or_self, Bool.false_or, Bool.true_or, Bool.or_true, f8, g1, g2, g3, g10, g11]
      refine ⟨nb - (m + 1), by omega, m + 1, v', l'.take k ++ ((((d + m) % 4294967296 : Nat) : Int), ((B % 256 : Nat) : Int)) :: l'.drop k, rfl, by omega, hn, by omega, hpsrt, ?_⟩
      repeat' apply And.intro
      all_goals first | assumption | rfl | omega | (simp [eget, *]; done)
    | true =>
      obtain ⟨r, hr, hrd2⟩ := hitB_iff.1 hh1
      have hn := hnext _ rfl
      rw [put_hit hat hsl hh1 c1] at hn hplen hpsrt
      have hrm : (l'.map cellE)[k]? = some (cellE r) := by rw [List.getElem?_map, hr]; rfl
      obtain ⟨bb, ww, H, p1, p2, p3, _⟩ := ho.put (cellE_len l') hrm (off := 1) (by omega) (.int .u8 ((B % 256 : Nat) : Int))
      have hset : (l'.map cellE).set k ((cellE r).set 1 (.int .u8 ((B % 256 : Nat) : Int))) = (l'.set k ((((d + m) % 4294967296 : Nat) : Int), ((B % 256 : Nat) : Int))).map cellE := by
        rw [List.map_set, ← hrd2]; rfl
      rw [hset] at p3
      have how := p3.mono hn1
      simp -implicitDefEqProofs only [go_skip, go_label, go_exit, go_ret, go_seq, go_block, go_cond, go_region, go_loop, go_dregion, fin_nil, fin_seq_n, fin_seq_e, fin_seq_r, fin_seq_p, fin_blk_n, fin_blk_e, fin_blk_r, fin_blk_p, rg_nil, rg_cons, gK_t, gK_f, aK_op, aK_call, oK_val, oK_skip, fK_go, rK_ret, cK_t, cK_f, dg_nil, dg_cons, dGK_t, dGK_f, dAK_op, dS_q, dS_l, dS_w, dAK_call, dLK_go, dLK2_fp, dLK2_op, dQK_val, dOK_val, dOK_skip, dFK_go, dRK_ret, then_n, then_e, then_r, then_p, guardOk, opEv, oev, oevs, ofV_int, ofV_bool, ofV_str, ofV_nilS, ofV_nilP, ofV_nilM, ofV_nilF, ofV_nilI, List.toList_toArray, eget, setE, dropE, edel, penv, AOp.quiet, AOp.isLoad, pendOk, pendKeep, Nat.reduceEqDiff, ↓reduceIte, reduceCtorEq, bt1, bt2, bt3, bt4, b_add, b_sub, b_mul, b_eql, b_neq, b_lss, b_leq, b_gtr, b_geq, addA, ptr_fp, rel_fp, take1, List.drop_zero, List.drop_succ_cons, List.cons_append, List.nil_append, List.append_nil, Bool.not_true, Bool.not_false, decide_true, decide_false, true_and, and_true, Fin_ret, Fin_normal, rvsEv, rvEv, ex_some, resV, post_fin, takeV, cellsOf, AV.plain, and_self, List.take_succ_cons, List.take_zero, List.length_cons, List.length_nil, Nat.reduceAdd, Nat.reduceLeDiff, Nat.zero_add, Nat.add_zero, Nat.le_refl, List.getElem?_cons_zero, List.getElem?_cons_succ, partsE, partsE3, fillE, fillA, List.replicate_succ, List.replicate_zero, List.set_cons_zero, List.set_cons_succ, Nat.reduceLT, Nat.zero_lt_one, eq_self, List.contains_cons, List.contains_nil, Nat.reduceBEq, Bool.or_false, Bool.or_self, Bool.false_or, Bool.true_or, Bool.or_true, e1, f8, g1, g2, g3, g10, g11, p1, p2]
      refine ⟨nb - (m + 1), by omega, m + 1, v, l'.set k ((((d + m) % 4294967296 : Nat) : Int), ((B % 256 : Nat) : Int)), rfl, by omega, hn, by omega, hpsrt, ?_⟩
      repeat' apply And.intro
      all_goals first | assumption | rfl | omega | (simp [eget, *]; done)
end Go.Proofs.Ytdmjloieldhlnaa
