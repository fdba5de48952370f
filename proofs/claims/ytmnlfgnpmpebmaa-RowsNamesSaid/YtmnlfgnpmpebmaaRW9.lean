/- Packed tables: the program. -/
import Derived.Test.YtmnlfgnpmpebmaaRW8
namespace Go.Proofs.Ytmnlfgnpmpebmaa
open Go Go.Ab Go.Proofs
set_option linter.unusedVariables false
set_option linter.unusedSimpArgs false
set_option maxRecDepth 20000

theorem own_plain {e sz : Nat} {h : Heap} {nx : Nat} {x : AV} {es : List (List AV)} (ho : OwnSl e sz h nx x es) : x.plain = true ∧ cellsOf x = [x] := by
  rcases ho with ⟨rfl, _⟩ | ⟨b, rfl, _⟩ <;> exact ⟨rfl, rfl⟩
/-- The loop's record, between two rounds and in one. -/
def lp (busy : Bool) (fn : FuncId) (env : Env) (ca cb : Code) (dm : Nat) : AO := .loop busy fn 43 env #[15, 16] ca cb dm

theorem body20 {fn : FuncId} {env0 : Env} {ca cb : Code} {dm yb nb n : Nat} {H : Heap} {v : AV} {es : List (List AV)} {d m : Int}
    (has : compile Try.prog (fun _ _ => false) 43 ca = some A20a0) (hbd : compile Try.prog (fun _ _ => false) 43 cb = some A20b0) (henv : eget env0 5 = some (.op nb 0))
    (hyb : hget H yb = some (lp false fn env0 ca cb dm)) (hnb : hget H nb = some (.cells [v])) (ho : OwnSl 5 1 H n v es) (hes : ∀ z ∈ es, z.length = 1) (hel : es.length ≤ 50000) (hne : yb ≠ nb) (hyn : yb < n) (hnn : nb < n)
    (hv1 : blkOf v ≠ some yb) (hv2 : blkOf v ≠ some nb) (hd0 : 0 ≤ d) (hd1 : d < 4294967296) (hm0 : -2097152 < m) (hm1 : m < 2097152) :
    AY Try.prog yb [.int .u64 d, .int .i64 m] H n fun y h' n' => y = .ret (.bool true) ∧ hget h' yb = some (lp false fn env0 ca cb dm) ∧ ∃ v', hget h' nb = some (.cells [v']) ∧ OwnSl 5 1 h' n' v' (es ++ (rowB d m).map byE) ∧ n ≤ n' ∧
      (∀ c o, c < n → hget H c = some o → c ≠ nb → c ≠ yb → blkOf v ≠ some c → hget h' c = some o) ∧ ∀ c, blkOf v' = some c → n ≤ c ∨ blkOf v = some c := by
  obtain ⟨Qv, hQ⟩ : ∃ Qv : AE → Heap → Nat → Prop, Qv = fun y h' n' => y = .ret (.bool true) ∧ hget h' yb = some (lp false fn env0 ca cb dm) ∧ ∃ v', hget h' nb = some (.cells [v']) ∧ OwnSl 5 1 h' n' v' (es ++ (rowB d m).map byE) ∧ n ≤ n' ∧
      (∀ c o, c < n → hget H c = some o → c ≠ nb → c ≠ yb → blkOf v ≠ some c → hget h' c = some o) ∧ ∀ c, blkOf v' = some c → n ≤ c ∨ blkOf v = some c := ⟨_, rfl⟩
  rw [← hQ]
  -- what is left at a round's end
  have fin : ∀ (h2 : Heap) (n2 : Nat) (v2 : AV), Grw 5 1 ((yb, lp true fn env0 ca cb dm) :: H) n v h2 n2 v2 (es ++ (rowB d m).map byE) → hget h2 yb = some (lp true fn env0 ca cb dm) ∧ hget h2 nb = some (.cells [v]) ∧
      Qv (.ret (.bool true)) ((yb, lp false fn env0 ca cb dm) :: (nb, .cells [v2]) :: h2) n2 := by
    rintro h2 n2 v2 ⟨g1, g2, g3, g4⟩
    have k1 : hget h2 yb = some (lp true fn env0 ca cb dm) := g3 yb _ hyn (by rw [hget_cons, if_pos rfl]) hv1
    have k2 : hget h2 nb = some (.cells [v]) := g3 nb _ hnn (by rw [hget_cons, if_neg hne]; exact hnb) hv2
    refine ⟨k1, k2, ?_⟩
    have b1 : blkOf v2 ≠ some yb := fun h => by
      rcases g4 yb h with h' | h'
      · omega
      · exact hv1 h'
    have b2 : blkOf v2 ≠ some nb := fun h => by
      rcases g4 nb h with h' | h'
      · omega
      · exact hv2 h'
    rw [hQ]
    refine ⟨rfl, by rw [hget_cons, if_pos rfl], v2, by rw [hget_cons, if_neg hne, hget_cons, if_pos rfl], ?_, g2, fun c o hc hg h1 h3 h4 => ?_, g4⟩
    · refine g1.keep (Nat.le_refl _) fun b o hb hg => ?_
      rw [hget_cons, if_neg (fun h => b1 (by rw [h]; exact hb)), hget_cons, if_neg (fun h => b2 (by rw [h]; exact hb))]
      exact hg
    · rw [hget_cons, if_neg (fun h => h3 h.symm), hget_cons, if_neg (fun h => h1 h.symm)]
      exact g3 c o hc (by rw [hget_cons, if_neg (fun h => h3 h.symm)]; exact hg) h4
  have ho1 : OwnSl 5 1 ((yb, lp true fn env0 ca cb dm) :: H) n v es := ho.keep (Nat.le_refl _) fun b o hb hg => by
    rw [hget_cons, if_neg (fun h => hv1 (by rw [h]; exact hb))]; exact hg
  have hnb1 : ptrCells ((yb, lp true fn env0 ca cb dm) :: H) (.op nb 0) = some [v] := by
    simp only [ptrCells]
    rw [hget_cons, if_neg hne, hnb]; rfl
  have hrl := rowB_len (d := d) (n := m) (by omega) (by omega) (by omega)
  refine AY_round has hbd hyb rfl (by decide) fun l' => AW_go mixed ?_
  simp -implicitDefEqProofs only [go_skip, go_label, go_exit, go_ret, go_seq, go_block, go_cond, go_region, go_loop, go_dregion, fin_nil, fin_seq_n, fin_seq_e, fin_seq_r, fin_seq_p, fin_blk_n, fin_blk_e, fin_blk_r, fin_blk_p, rg_nil, rg_cons, gK_t, gK_f, aK_op, aK_call, oK_val, oK_skip, fK_go, rK_ret, cK_t, cK_f, dg_nil, dg_cons, dGK_t, dGK_f, dAK_op, dS_q, dS_l, dS_w, dAK_call, dLK_go, dLK2_fp, dLK2_op, dQK_val, dOK_val, dOK_skip, dFK_go, dRK_ret, then_n, then_e, then_r, then_p, guardOk, opEv, oev, oevs, ofV_int, ofV_bool, ofV_str, ofV_nilS, ofV_nilP, ofV_nilM, ofV_nilF, ofV_nilI, List.toList_toArray, eget, setE, dropE, edel, penv, AOp.quiet, AOp.isLoad, pendOk, pendKeep, Nat.reduceEqDiff, ↓reduceIte, reduceCtorEq, bt1, bt2, bt3, bt4, b_add, b_sub, b_mul, b_eql, b_neq, b_lss, b_leq, b_gtr, b_geq, addA, ptr_fp, rel_fp, take1, List.drop_zero, List.drop_succ_cons, List.cons_append, List.nil_append, List.append_nil, Bool.not_true, Bool.not_false, decide_true, decide_false, true_and, and_true, Fin_ret, Fin_normal, rvsEv, rvEv, ex_some, resV, post_fin, ptrCells, reload, hget, hset, hdel, storeH, splice, takeV, cellsOf, AV.plain, and_self, List.take_succ_cons, List.take_zero, List.length_cons, List.length_nil, Nat.reduceAdd, Nat.reduceLeDiff, Nat.zero_add, Nat.add_zero, Nat.le_refl, List.getElem?_cons_zero, List.getElem?_cons_succ, partsE, partsE3, fillE, fillA, List.replicate_succ, List.replicate_zero, List.set_cons_zero, List.set_cons_succ, Nat.reduceLT, Nat.zero_lt_one, eq_self, List.contains_cons, List.contains_nil, Nat.reduceBEq, Bool.or_false, Bool.or_self, Bool.false_or, Bool.true_or, Bool.or_true, A20a0, bindP, henv]
  refine ⟨hyb, AW_go mixed ?_⟩
  have hlpt : AO.loop true fn 43 env0 #[15, 16] ca cb dm = lp true fn env0 ca cb dm := rfl
  have hlpf : AO.loop false fn 43 env0 #[15, 16] ca cb dm = lp false fn env0 ca cb dm := rfl
  rw [hlpt, hlpf]
  generalize hH1 : (yb, lp true fn env0 ca cb dm) :: H = H1 at *
  have hst : ∀ (h2 : Heap) (v2 : AV), hget h2 nb = some (.cells [v]) → storeH h2 (.op nb 0) [v2] = some ((nb, .cells [v2]) :: h2) := by
    intro h2 v2 h
    simp [storeH, h, splice, hset]
  simp -implicitDefEqProofs only [go_skip, go_label, go_exit, go_ret, go_seq, go_block, go_cond, go_region, go_loop, go_dregion, fin_nil, fin_seq_n, fin_seq_e, fin_seq_r, fin_seq_p, fin_blk_n, fin_blk_e, fin_blk_r, fin_blk_p, rg_nil, rg_cons, gK_t, gK_f, aK_op, aK_call, oK_val, oK_skip, fK_go, rK_ret, cK_t, cK_f, dg_nil, dg_cons, dGK_t, dGK_f, dAK_op, dS_q, dS_l, dS_w, dAK_call, dLK_go, dLK2_fp, dLK2_op, dQK_val, dOK_val, dOK_skip, dFK_go, dRK_ret, then_n, then_e, then_r, then_p, guardOk, opEv, oev, oevs, ofV_int, ofV_bool, ofV_str, ofV_nilS, ofV_nilP, ofV_nilM, ofV_nilF, ofV_nilI, List.toList_toArray, eget, setE, dropE, edel, penv, AOp.quiet, AOp.isLoad, pendOk, pendKeep, Nat.reduceEqDiff, ↓reduceIte, reduceCtorEq, bt1, bt2, bt3, bt4, b_add, b_sub, b_mul, b_eql, b_neq, b_lss, b_leq, b_gtr, b_geq, addA, ptr_fp, rel_fp, take1, List.drop_zero, List.drop_succ_cons, List.cons_append, List.nil_append, List.append_nil, Bool.not_true, Bool.not_false, decide_true, decide_false, true_and, and_true, Fin_ret, Fin_normal, rvsEv, rvEv, ex_some, resV, post_fin, takeV, cellsOf, AV.plain, and_self, List.take_succ_cons, List.take_zero, List.length_cons, List.length_nil, Nat.reduceAdd, Nat.reduceLeDiff, Nat.zero_add, Nat.add_zero, Nat.le_refl, List.getElem?_cons_zero, List.getElem?_cons_succ, partsE, partsE3, fillE, fillA, List.replicate_succ, List.replicate_zero, List.set_cons_zero, List.set_cons_succ, Nat.reduceLT, Nat.zero_lt_one, eq_self, List.contains_cons, List.contains_nil, Nat.reduceBEq, Bool.or_false, Bool.or_self, Bool.false_or, Bool.true_or, Bool.or_true, A20b0]
  refine (w29 d m).use fun n1 hle1 => ?_
  by_cases hsh : short d m
  · obtain ⟨c1, c2, c3, c4⟩ := id hsh
    have hrow : rowB d m = [(32 + 16 * (d - 1) + m + 8).toNat] := by rw [rowB, if_pos hsh]
    have g1 : IntKind.i64.wrap d = d := by rw [w64 (by omega) (by omega)]
    have g2 : IntKind.i64.wrap (d - 1) = d - 1 := by rw [w64 (by omega) (by omega)]
    have g3 : IntKind.i64.wrap (16 * (d - 1)) = 16 * (d - 1) := by rw [w64 (by omega) (by omega)]
    have g4 : IntKind.i64.wrap (32 + 16 * (d - 1)) = 32 + 16 * (d - 1) := by rw [w64 (by omega) (by omega)]
    have g5 : IntKind.i64.wrap (32 + 16 * (d - 1) + m) = 32 + 16 * (d - 1) + m := by rw [w64 (by omega) (by omega)]
    have g6 : IntKind.i64.wrap (32 + 16 * (d - 1) + m + 8) = 32 + 16 * (d - 1) + m + 8 := by rw [w64 (by omega) (by omega)]
    obtain ⟨x, hx⟩ : ∃ x : Nat, 32 + 16 * (d - 1) + m + 8 = (x : Int) := ⟨(32 + 16 * (d - 1) + m + 8).toNat, by omega⟩
    have g7 : IntKind.u8.wrap (32 + 16 * (d - 1) + m + 8) = (x : Int) := by rw [hx, IntKind.wrap_u8]; omega
    obtain ⟨v2, h2, n2, ea, gg⟩ := (ho1.mono hle1).grw (bytes := 1) (ns := [byE x]) hes (fun z hz => by simp at hz; subst hz; rfl) (by simp; omega) (by simp [maxLen]; omega)
    have ea2 : appA 5 1 1 H1 n1 v (.lst 1 [[.int .u8 (x : Int)]]) = some (v2, h2, n2) := ea
    have hb : [byE x] = (rowB d m).map byE := by rw [hrow, hx]; rfl
    rw [hb] at gg
    obtain ⟨f1, f2, f3⟩ := fin h2 n2 v2 ((Grw.refl ho1 hle1).trans gg)
    obtain ⟨p1, p2⟩ := own_plain gg.1
    have hs := hst h2 v2 f2
    have f1' : hget ((nb, .cells [v2]) :: h2) yb = some (lp true fn env0 ca cb dm) := by rw [hget_cons, if_neg (fun h => hne h.symm)]; exact f1
    simp -implicitDefEqProofs only [go_skip, go_label, go_exit, go_ret, go_seq, go_block, go_cond, go_region, go_loop, go_dregion, fin_nil, fin_seq_n, fin_seq_e, fin_seq_r, fin_seq_p, fin_blk_n, fin_blk_e, fin_blk_r, fin_blk_p, rg_nil, rg_cons, gK_t, gK_f, aK_op, aK_call, oK_val, oK_skip, fK_go, rK_ret, cK_t, cK_f, dg_nil, dg_cons, dGK_t, dGK_f, dAK_op, dS_q, dS_l, dS_w, dAK_call, dLK_go, dLK2_fp, dLK2_op, dQK_val, dOK_val, dOK_skip, dFK_go, dRK_ret, then_n, then_e, then_r, then_p, guardOk, opEv, oev, oevs, ofV_int, ofV_bool, ofV_str, ofV_nilS, ofV_nilP, ofV_nilM, ofV_nilF, ofV_nilI, List.toList_toArray, eget, setE, dropE, edel, penv, AOp.quiet, AOp.isLoad, pendOk, pendKeep, Nat.reduceEqDiff, ↓reduceIte, reduceCtorEq, bt1, bt2, bt3, bt4, b_add, b_sub, b_mul, b_eql, b_neq, b_lss, b_leq, b_gtr, b_geq, addA, ptr_fp, rel_fp, take1, List.drop_zero, List.drop_succ_cons, List.cons_append, List.nil_append, List.append_nil, Bool.not_true, Bool.not_false, decide_true, decide_false, true_and, and_true, Fin_ret, Fin_normal, rvsEv, rvEv, ex_some, resV, post_fin, takeV, cellsOf, AV.plain, and_self, List.take_succ_cons, List.take_zero, List.length_cons, List.length_nil, Nat.reduceAdd, Nat.reduceLeDiff, Nat.zero_add, Nat.add_zero, Nat.le_refl, List.getElem?_cons_zero, List.getElem?_cons_succ, partsE, partsE3, fillE, fillA, List.replicate_succ, List.replicate_zero, List.set_cons_zero, List.set_cons_succ, Nat.reduceLT, Nat.zero_lt_one, eq_self, List.contains_cons, List.contains_nil, Nat.reduceBEq, Bool.or_false, Bool.or_self, Bool.false_or, Bool.true_or, Bool.or_true, henv, hsh, hnb1, g1, g2, g3, g4, g5, g6, g7, ea2, ↓p1, ↓p2, hs]
    exact ⟨f1', f3⟩
  · have hrow : rowB d m = 1 :: (varL d.toNat ++ varL (foldZ m).toNat) := by rw [rowB, if_neg hsh]
    obtain ⟨D, hD⟩ : ∃ D : Nat, d = (D : Int) := ⟨d.toNat, by omega⟩
    subst hD
    have hz0 : 0 ≤ foldZ m ∧ foldZ m < 4611686018427387904 := by unfold foldZ; split <;> omega
    obtain ⟨Z, hZ⟩ : ∃ Z : Nat, foldZ m = (Z : Int) := ⟨(foldZ m).toNat, by omega⟩
    rw [hZ, Int.toNat_natCast, Int.toNat_natCast] at hrow
    have hvd := varL_len10 (n := D) (by omega)
    have hvz := varL_len10 (n := Z) (by omega)
    obtain ⟨v2, h2, n2, ea, gg⟩ := (ho1.mono hle1).grw (bytes := 1) (ns := [byE 1]) hes (fun z hz => by simp at hz; subst hz; rfl) (by simp; omega) (by simp [maxLen]; omega)
    have ea2 : appA 5 1 1 H1 n1 v (.lst 1 [[.int .u8 1]]) = some (v2, h2, n2) := ea
    have t1 : ∀ z ∈ es ++ [byE 1], z.length = 1 := fun z hz => by
      rcases List.mem_append.1 hz with h | h
      · exact hes z h
      · simp at h; subst h; rfl
    have t2 : ∀ z ∈ es ++ [byE 1] ++ (varL D).map byE, z.length = 1 := fun z hz => by
      rcases List.mem_append.1 hz with h | h
      · exact t1 z h
      · exact byE_len _ z h
    simp -implicitDefEqProofs only [go_skip, go_label, go_exit, go_ret, go_seq, go_block, go_cond, go_region, go_loop, go_dregion, fin_nil, fin_seq_n, fin_seq_e, fin_seq_r, fin_seq_p, fin_blk_n, fin_blk_e, fin_blk_r, fin_blk_p, rg_nil, rg_cons, gK_t, gK_f, aK_op, aK_call, oK_val, oK_skip, fK_go, rK_ret, cK_t, cK_f, dg_nil, dg_cons, dGK_t, dGK_f, dAK_op, dS_q, dS_l, dS_w, dAK_call, dLK_go, dLK2_fp, dLK2_op, dQK_val, dOK_val, dOK_skip, dFK_go, dRK_ret, then_n, then_e, then_r, then_p, guardOk, opEv, oev, oevs, ofV_int, ofV_bool, ofV_str, ofV_nilS, ofV_nilP, ofV_nilM, ofV_nilF, ofV_nilI, List.toList_toArray, eget, setE, dropE, edel, penv, AOp.quiet, AOp.isLoad, pendOk, pendKeep, Nat.reduceEqDiff, ↓reduceIte, reduceCtorEq, bt1, bt2, bt3, bt4, b_add, b_sub, b_mul, b_eql, b_neq, b_lss, b_leq, b_gtr, b_geq, addA, ptr_fp, rel_fp, take1, List.drop_zero, List.drop_succ_cons, List.cons_append, List.nil_append, List.append_nil, Bool.not_true, Bool.not_false, decide_true, decide_false, true_and, and_true, Fin_ret, Fin_normal, rvsEv, rvEv, ex_some, resV, post_fin, takeV, cellsOf, AV.plain, and_self, List.take_succ_cons, List.take_zero, List.length_cons, List.length_nil, Nat.reduceAdd, Nat.reduceLeDiff, Nat.zero_add, Nat.add_zero, Nat.le_refl, List.getElem?_cons_zero, List.getElem?_cons_succ, partsE, partsE3, fillE, fillA, List.replicate_succ, List.replicate_zero, List.set_cons_zero, List.set_cons_succ, Nat.reduceLT, Nat.zero_lt_one, eq_self, List.contains_cons, List.contains_nil, Nat.reduceBEq, Bool.or_false, Bool.or_self, Bool.false_or, Bool.true_or, Bool.or_true, henv, hsh, hnb1, ea2]
    refine (w30 v2 _ D h2 n2 (by omega) gg.1 t1 (by simp; omega)).mono ?_
    rintro y h3 n3 ⟨v3, rfl, gg3⟩
    simp -implicitDefEqProofs only [go_skip, go_label, go_exit, go_ret, go_seq, go_block, go_cond, go_region, go_loop, go_dregion, fin_nil, fin_seq_n, fin_seq_e, fin_seq_r, fin_seq_p, fin_blk_n, fin_blk_e, fin_blk_r, fin_blk_p, rg_nil, rg_cons, gK_t, gK_f, aK_op, aK_call, oK_val, oK_skip, fK_go, rK_ret, cK_t, cK_f, dg_nil, dg_cons, dGK_t, dGK_f, dAK_op, dS_q, dS_l, dS_w, dAK_call, dLK_go, dLK2_fp, dLK2_op, dQK_val, dOK_val, dOK_skip, dFK_go, dRK_ret, then_n, then_e, then_r, then_p, guardOk, opEv, oev, oevs, ofV_int, ofV_bool, ofV_str, ofV_nilS, ofV_nilP, ofV_nilM, ofV_nilF, ofV_nilI, List.toList_toArray, eget, setE, dropE, edel, penv, AOp.quiet, AOp.isLoad, pendOk, pendKeep, Nat.reduceEqDiff, ↓reduceIte, reduceCtorEq, bt1, bt2, bt3, bt4, b_add, b_sub, b_mul, b_eql, b_neq, b_lss, b_leq, b_gtr, b_geq, addA, ptr_fp, rel_fp, take1, List.drop_zero, List.drop_succ_cons, List.cons_append, List.nil_append, List.append_nil, Bool.not_true, Bool.not_false, decide_true, decide_false, true_and, and_true, Fin_ret, Fin_normal, rvsEv, rvEv, ex_some, resV, post_fin, takeV, cellsOf, AV.plain, and_self, List.take_succ_cons, List.take_zero, List.length_cons, List.length_nil, Nat.reduceAdd, Nat.reduceLeDiff, Nat.zero_add, Nat.add_zero, Nat.le_refl, List.getElem?_cons_zero, List.getElem?_cons_succ, partsE, partsE3, fillE, fillA, List.replicate_succ, List.replicate_zero, List.set_cons_zero, List.set_cons_succ, Nat.reduceLT, Nat.zero_lt_one, eq_self, List.contains_cons, List.contains_nil, Nat.reduceBEq, Bool.or_false, Bool.or_self, Bool.false_or, Bool.true_or, Bool.or_true]
    refine (w31 m (by omega) (by omega)).use fun n4 hle4 => ?_
    rw [hZ]
    simp -implicitDefEqProofs only [go_skip, go_label, go_exit, go_ret, go_seq, go_block, go_cond, go_region, go_loop, go_dregion, fin_nil, fin_seq_n, fin_seq_e, fin_seq_r, fin_seq_p, fin_blk_n, fin_blk_e, fin_blk_r, fin_blk_p, rg_nil, rg_cons, gK_t, gK_f, aK_op, aK_call, oK_val, oK_skip, fK_go, rK_ret, cK_t, cK_f, dg_nil, dg_cons, dGK_t, dGK_f, dAK_op, dS_q, dS_l, dS_w, dAK_call, dLK_go, dLK2_fp, dLK2_op, dQK_val, dOK_val, dOK_skip, dFK_go, dRK_ret, then_n, then_e, then_r, then_p, guardOk, opEv, oev, oevs, ofV_int, ofV_bool, ofV_str, ofV_nilS, ofV_nilP, ofV_nilM, ofV_nilF, ofV_nilI, List.toList_toArray, eget, setE, dropE, edel, penv, AOp.quiet, AOp.isLoad, pendOk, pendKeep, Nat.reduceEqDiff, ↓reduceIte, reduceCtorEq, bt1, bt2, bt3, bt4, b_add, b_sub, b_mul, b_eql, b_neq, b_lss, b_leq, b_gtr, b_geq, addA, ptr_fp, rel_fp, take1, List.drop_zero, List.drop_succ_cons, List.cons_append, List.nil_append, List.append_nil, Bool.not_true, Bool.not_false, decide_true, decide_false, true_and, and_true, Fin_ret, Fin_normal, rvsEv, rvEv, ex_some, resV, post_fin, takeV, cellsOf, AV.plain, and_self, List.take_succ_cons, List.take_zero, List.length_cons, List.length_nil, Nat.reduceAdd, Nat.reduceLeDiff, Nat.zero_add, Nat.add_zero, Nat.le_refl, List.getElem?_cons_zero, List.getElem?_cons_succ, partsE, partsE3, fillE, fillA, List.replicate_succ, List.replicate_zero, List.set_cons_zero, List.set_cons_succ, Nat.reduceLT, Nat.zero_lt_one, eq_self, List.contains_cons, List.contains_nil, Nat.reduceBEq, Bool.or_false, Bool.or_self, Bool.false_or, Bool.true_or, Bool.or_true]
    refine (w30 v3 _ Z h3 n4 (by omega) (gg3.1.mono hle4) t2 (by simp; omega)).mono ?_
    rintro y h5 n5 ⟨v5, rfl, gg5⟩
    have hb : es ++ [byE 1] ++ (varL D).map byE ++ (varL Z).map byE = es ++ (rowB (D : Int) m).map byE := by rw [hrow]; simp
    rw [hb] at gg5
    have all := ((Grw.refl ho1 hle1).trans gg).trans ((gg3.trans (Grw.refl gg3.1 hle4)).trans gg5)
    obtain ⟨f1, f2, f3⟩ := fin h5 n5 v5 all
    obtain ⟨p1, p2⟩ := own_plain gg5.1
    have hs := hst h5 v5 f2
    have f1' : hget ((nb, .cells [v5]) :: h5) yb = some (lp true fn env0 ca cb dm) := by rw [hget_cons, if_neg (fun h => hne h.symm)]; exact f1
    simp -implicitDefEqProofs only [go_skip, go_label, go_exit, go_ret, go_seq, go_block, go_cond, go_region, go_loop, go_dregion, fin_nil, fin_seq_n, fin_seq_e, fin_seq_r, fin_seq_p, fin_blk_n, fin_blk_e, fin_blk_r, fin_blk_p, rg_nil, rg_cons, gK_t, gK_f, aK_op, aK_call, oK_val, oK_skip, fK_go, rK_ret, cK_t, cK_f, dg_nil, dg_cons, dGK_t, dGK_f, dAK_op, dS_q, dS_l, dS_w, dAK_call, dLK_go, dLK2_fp, dLK2_op, dQK_val, dOK_val, dOK_skip, dFK_go, dRK_ret, then_n, then_e, then_r, then_p, guardOk, opEv, oev, oevs, ofV_int, ofV_bool, ofV_str, ofV_nilS, ofV_nilP, ofV_nilM, ofV_nilF, ofV_nilI, List.toList_toArray, eget, setE, dropE, edel, penv, AOp.quiet, AOp.isLoad, pendOk, pendKeep, Nat.reduceEqDiff, ↓reduceIte, reduceCtorEq, bt1, bt2, bt3, bt4, b_add, b_sub, b_mul, b_eql, b_neq, b_lss, b_leq, b_gtr, b_geq, addA, ptr_fp, rel_fp, take1, List.drop_zero, List.drop_succ_cons, List.cons_append, List.nil_append, List.append_nil, Bool.not_true, Bool.not_false, decide_true, decide_false, true_and, and_true, Fin_ret, Fin_normal, rvsEv, rvEv, ex_some, resV, post_fin, takeV, cellsOf, AV.plain, and_self, List.take_succ_cons, List.take_zero, List.length_cons, List.length_nil, Nat.reduceAdd, Nat.reduceLeDiff, Nat.zero_add, Nat.add_zero, Nat.le_refl, List.getElem?_cons_zero, List.getElem?_cons_succ, partsE, partsE3, fillE, fillA, List.replicate_succ, List.replicate_zero, List.set_cons_zero, List.set_cons_succ, Nat.reduceLT, Nat.zero_lt_one, eq_self, List.contains_cons, List.contains_nil, Nat.reduceBEq, Bool.or_false, Bool.or_self, Bool.false_or, Bool.true_or, Bool.or_true, henv, ↓p1, ↓p2, hs]
    exact ⟨f1', f3⟩
theorem w28 (l : List (Int × Int)) (nx : Nat) : AC Try.prog 28 [rowsA l] [] nx fun y h' n' => y = .ret (.fn (.func 38) [.op nx 0]) ∧ h' = [(nx, .cells [rowsA l])] ∧ n' = nx + 1 := by
  refine AC.go mixed is28 (by simp) ?_
  simp -implicitDefEqProofs only [go_skip, go_label, go_exit, go_ret, go_seq, go_block, go_cond, go_region, go_loop, go_dregion, fin_nil, fin_seq_n, fin_seq_e, fin_seq_r, fin_seq_p, fin_blk_n, fin_blk_e, fin_blk_r, fin_blk_p, rg_nil, rg_cons, gK_t, gK_f, aK_op, aK_call, oK_val, oK_skip, fK_go, rK_ret, cK_t, cK_f, dg_nil, dg_cons, dGK_t, dGK_f, dAK_op, dS_q, dS_l, dS_w, dAK_call, dLK_go, dLK2_fp, dLK2_op, dQK_val, dOK_val, dOK_skip, dFK_go, dRK_ret, then_n, then_e, then_r, then_p, guardOk, opEv, oev, oevs, ofV_int, ofV_bool, ofV_str, ofV_nilS, ofV_nilP, ofV_nilM, ofV_nilF, ofV_nilI, List.toList_toArray, eget, setE, dropE, edel, penv, AOp.quiet, AOp.isLoad, pendOk, pendKeep, Nat.reduceEqDiff, ↓reduceIte, reduceCtorEq, bt1, bt2, bt3, bt4, b_add, b_sub, b_mul, b_eql, b_neq, b_lss, b_leq, b_gtr, b_geq, addA, ptr_fp, rel_fp, take1, List.drop_zero, List.drop_succ_cons, List.cons_append, List.nil_append, List.append_nil, Bool.not_true, Bool.not_false, decide_true, decide_false, true_and, and_true, Fin_ret, Fin_normal, rvsEv, rvEv, ex_some, resV, post_fin, ptrCells, reload, hget, hset, hdel, storeH, splice, takeV, cellsOf, AV.plain, and_self, List.take_succ_cons, List.take_zero, List.length_cons, List.length_nil, Nat.reduceAdd, Nat.reduceLeDiff, Nat.zero_add, Nat.add_zero, Nat.le_refl, List.getElem?_cons_zero, List.getElem?_cons_succ, partsE, partsE3, fillE, fillA, List.replicate_succ, List.replicate_zero, List.set_cons_zero, List.set_cons_succ, Nat.reduceLT, Nat.zero_lt_one, eq_self, List.contains_cons, List.contains_nil, Nat.reduceBEq, Bool.or_false, Bool.or_self, Bool.false_or, Bool.true_or, Bool.or_true, A28, oevs, ↓plain_rows, ↓cells_rows, R28]
end Go.Proofs.Ytmnlfgnpmpebmaa
