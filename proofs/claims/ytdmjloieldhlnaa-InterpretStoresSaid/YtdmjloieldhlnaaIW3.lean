/- slices.Insert of one element, into any slice of the call's own. -/
import Derived.Test.YtdmjloieldhlnaaIW2
namespace Go.Proofs.Ytdmjloieldhlnaa
open Go Go.Ab Go.Proofs
set_option linter.unusedVariables false
set_option linter.unusedSimpArgs false
set_option maxRecDepth 20000

theorem own_slc {h : Heap} {nx n : Nat} {s : AV} {es : List (List AV)} (ho : OwnSl 36 2 h nx s es) (hn : es.length = n) : ∃ r, slcA 2 s n n none = some r := by
  rcases ho with ⟨rfl, rfl⟩ | ⟨b, rfl, _, _⟩
  · simp at hn; subst hn; exact ⟨.nilS, by simp [slcA]⟩
  · subst hn; exact ⟨.os b (0 + es.length * 2) 36 2 (es.length - es.length), by simp only [slcA]; rw [if_pos ⟨Nat.le_refl _, Nat.le_refl _, trivial⟩]⟩
theorem w17b (s : AV) (n vb : Nat) (es : List (List AV)) (x : List AV) (hs : ∀ z ∈ es, z.length = 2) (hn : es.length = n) (hl : n ≤ 5000) (hx : x.length = 2) (h : Heap) (nx : Nat) (ho : OwnSl 36 2 h nx s es) (hv : hget h vb = some (.cells x)) :
    AC Try.prog 17 [s, .int .i64 (n : Int), .os vb 0 36 2 1] h nx fun y h' n' => ∃ v', y = .ret v' ∧ Grw 36 2 h nx s h' n' v' (es ++ [x]) := by
  refine AC.go mixed is17 (by simp) ?_
  obtain ⟨v', h', n', ea, gr⟩ := ho.grw (bytes := 16) (ns := [x]) hs (by intro z hz; simp at hz; subst hz; exact hx) (by simp; omega) (by simp [maxLen]; omega)
  have hsc : sliceCells h (.os vb 0 36 2 1) = some (1, x) := by
    simp only [sliceCells, hv]
    rw [if_pos (by omega)]
    simp [List.take_of_length_le, hx]
  have ea' : appA 36 2 16 h nx s (.os vb 0 36 2 1) = some (v', h', n') := by
    rw [← ea]
    have e1 : sliceCells h (.lst 2 [x]) = some (1, x) := by simp [sliceCells]
    simp only [appA, hsc, e1]
    rfl
  obtain ⟨r, hr⟩ := own_slc ho hn
  have hln : lenA s = some n := by rw [ho.len, hn]
  have hlv : lenA (.os vb 0 36 2 1) = some 1 := rfl
  have p0 : ∀ m : Nat, (0 ≤ (m : Int)) = True := fun m => eq_true (by omega)
  have p4 : (((1 : Nat) : Int) = 0) = False := eq_false (by omega)
  simp -implicitDefEqProofs only [go_skip, go_label, go_exit, go_ret, go_seq, go_block, go_cond, go_region, go_loop, go_dregion, fin_nil, fin_seq_n, fin_seq_e, fin_seq_r, fin_seq_p, fin_blk_n, fin_blk_e, fin_blk_r, fin_blk_p, rg_nil, rg_cons, gK_t, gK_f, aK_op, aK_call, oK_val, oK_skip, fK_go, rK_ret, cK_t, cK_f, dg_nil, dg_cons, dGK_t, dGK_f, dAK_op, dS_q, dS_l, dS_w, dAK_call, dLK_go, dLK2_fp, dLK2_op, dQK_val, dOK_val, dOK_skip, dFK_go, dRK_ret, then_n, then_e, then_r, then_p, guardOk, opEv, oev, oevs, ofV_int, ofV_bool, ofV_str, ofV_nilS, ofV_nilP, ofV_nilM, ofV_nilF, ofV_nilI, List.toList_toArray, eget, setE, dropE, edel, penv, AOp.quiet, AOp.isLoad, pendOk, pendKeep, Nat.reduceEqDiff, ↓reduceIte, reduceCtorEq, bt1, bt2, bt3, bt4, b_add, b_sub, b_mul, b_eql, b_neq, b_lss, b_leq, b_gtr, b_geq, addA, ptr_fp, rel_fp, take1, List.drop_zero, List.drop_succ_cons, List.cons_append, List.nil_append, List.append_nil, Bool.not_true, Bool.not_false, decide_true, decide_false, true_and, and_true, Fin_ret, Fin_normal, rvsEv, rvEv, ex_some, resV, post_fin, takeV, cellsOf, AV.plain, and_self, List.take_succ_cons, List.take_zero, List.length_cons, List.length_nil, Nat.reduceAdd, Nat.reduceLeDiff, Nat.zero_add, Nat.add_zero, Nat.le_refl, List.getElem?_cons_zero, List.getElem?_cons_succ, partsE, partsE3, fillE, fillA, List.replicate_succ, List.replicate_zero, List.set_cons_zero, List.set_cons_succ, Nat.reduceLT, Nat.zero_lt_one, eq_self, List.contains_cons, List.contains_nil, Nat.reduceBEq, Bool.or_false, Bool.or_self, Bool.false_or, Bool.true_or, Bool.or_true, A17, hln, hlv, hr, p0, p4, bnd, Int.toNat_natCast, if_true, ea', R17]
  exact ⟨_, rfl, gr⟩
/-- slices.Insert of one element. -/
theorem w17 (s : AV) (k n vb : Nat) (es : List (List AV)) (x : List AV) (hs : ∀ z ∈ es, z.length = 2) (hn : es.length = n) (hk : k ≤ n) (hl : n ≤ 5000) (hx : x.length = 2) (h : Heap) (nx : Nat) (ho : OwnSl 36 2 h nx s es) (hv : hget h vb = some (.cells x)) (hbv : blkOf s ≠ some vb) (hvn : vb < nx) :
    AC Try.prog 17 [s, .int .i64 (k : Int), .os vb 0 36 2 1] h nx fun y h' n' => ∃ v', y = .ret v' ∧ Grw 36 2 h nx s h' n' v' (insE es k x) := by
  by_cases hkn : k = n
  · subst hkn
    have e : insE es k x = es ++ [x] := by rw [insE, List.take_of_length_le (by omega), List.drop_of_length_le (by omega)]
    rw [e]
    exact w17b s k vb es x hs hn hl hx h nx ho hv
  · rcases ho with ⟨_, rfl⟩ | ⟨b, rfl, hb, hbn⟩
    · simp at hn; omega
    · rw [hn]
      refine (w17a b k n vb es x hs hn (by omega) hl hx h nx hb hv (fun e => hbv (by rw [e]; rfl)) hbn hvn).mono ?_
      rintro y h' n' ⟨b', rfl, hle, hlt, hor, hg, hfr⟩
      refine ⟨_, rfl, .inr ⟨b', ?_, hg, hlt⟩, hle, fun c o hc ho hb' => by rw [hfr c hc (fun e => hb' (by rw [e]; rfl))]; exact ho, fun c hc => ?_⟩
      · have : (insE es k x).length = n + 1 := by simp [insE]; omega
        rw [this]
      · simp only [blkOf, Option.some.injEq] at hc
        subst hc
        rcases hor with h | h
        · exact .inr (by rw [h]; rfl)
        · exact .inl h
end Go.Proofs.Ytdmjloieldhlnaa
