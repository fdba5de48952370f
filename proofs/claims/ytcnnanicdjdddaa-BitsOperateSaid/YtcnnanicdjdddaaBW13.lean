/- The reference's lists of bits: complements, sums, shifts up, products, comparison. -/
import Derived.Test.YtcnnanicdjdddaaBW12
import Derived.Test.YtcnnanicdjdddaaBA4
namespace Go.Proofs.Ytcnnanicdjdddaa
open Go Go.Ab Go.Proofs
set_option linter.unusedVariables false
set_option linter.unusedSimpArgs false
set_option maxRecDepth 20000

def bits01 (l : List Nat) : Prop := ∀ b ∈ l, b ≤ 1
theorem bits01_at {l : List Nat} (h : bits01 l) {i b : Nat} (hb : l[i]? = some b) : b ≤ 1 := h b (List.mem_of_getElem? hb)
theorem bits01_app {l r : List Nat} (h1 : bits01 l) (h2 : bits01 r) : bits01 (l ++ r) := fun b hb => (List.mem_append.1 hb).elim (h1 b) (h2 b)
theorem bits01_one {b : Nat} (h : b ≤ 1) : bits01 [b] := fun c hc => by simp at hc; omega
theorem bitsL_01 (n x : Nat) : bits01 (bitsL n x) := fun b hb => by
  obtain ⟨i, _, rfl⟩ := List.mem_map.1 hb
  have : x / 2 ^ i % 2 < 2 := Nat.mod_lt _ (by omega)
  omega
theorem num_bit {b : Nat} (h : b ≤ 1) (p : Nat) : (if b = 1 then p else 0) = p * b := by
  rcases Nat.lt_or_ge b 1 with h1 | h1
  · have : b = 0 := by omega
    subst this; simp
  · have : b = 1 := by omega
    subst this; simp
theorem num_succ {l : List Nat} (h : bits01 l) {i b : Nat} (hb : l[i]? = some b) : num (l.take (i + 1)) = num (l.take i) + 2 ^ i * b := by rw [num_take_succ hb, num_bit (bits01_at h hb)]
theorem num_snoc {l : List Nat} {b : Nat} (h : b ≤ 1) : num (l ++ [b]) = num l + 2 ^ l.length * b := by
  rw [num_append]
  simp only [num, Nat.mul_zero, Nat.add_zero]
  rw [num_bit h, Nat.one_mul]

/-- The loops' way: a list that grows by one element in each round. -/
def notL (l : List Nat) : List Nat := l.map (1 - ·)
theorem notL_01 (l : List Nat) : bits01 (notL l) := fun b hb => by
  obtain ⟨c, _, rfl⟩ := List.mem_map.1 hb; omega
theorem num_not : ∀ {l : List Nat}, bits01 l → num (notL l) + num l + 1 = 2 ^ l.length
  | [], _ => rfl
  | b :: l, h => by
    have h1 := num_not (l := l) fun c hc => h c (List.mem_cons_of_mem _ hc)
    have hb := h b List.mem_cons_self
    simp only [notL, List.map_cons, num, List.length_cons, Nat.pow_succ] at h1 ⊢
    rcases Nat.lt_or_ge b 1 with h2 | h2
    · have : b = 0 := by omega
      subst this; simp; omega
    · have : b = 1 := by omega
      subst this; simp; omega
theorem intE_map_snoc (l : List Nat) (b : Nat) : (l ++ [b]).map intE = l.map intE ++ [intE b] := by simp
theorem w52 (l : List Nat) (h01 : bits01 l) (hl : l.length ≤ 1000) : Pure Try.prog 52 [.lst 1 (l.map intE)] (.lst 1 ((notL l).map intE)) := by
  refine Pure.own (e := 3) (intE_len _) fun nx => AC.go mixed is52 (by simp) ?_
  simp -implicitDefEqProofs only [go_skip, go_label, go_exit, go_ret, go_seq, go_block, go_cond, go_region, go_loop, go_dregion, fin_nil, fin_seq_n, fin_seq_e, fin_seq_r, fin_seq_p, fin_blk_n, fin_blk_e, fin_blk_r, fin_blk_p, rg_nil, rg_cons, gK_t, gK_f, aK_op, aK_call, oK_val, oK_skip, fK_go, rK_ret, cK_t, cK_f, dg_nil, dg_cons, dGK_t, dGK_f, dAK_op, dS_q, dS_l, dS_w, dAK_call, dLK_go, dLK2_fp, dLK2_op, dQK_val, dOK_val, dOK_skip, dFK_go, dRK_ret, then_n, then_e, then_r, then_p, guardOk, opEv, oev, oevs, ofV_int, ofV_bool, ofV_str, ofV_nilS, ofV_nilP, ofV_nilM, ofV_nilF, ofV_nilI, List.toList_toArray, eget, setE, dropE, edel, penv, AOp.quiet, AOp.isLoad, pendOk, pendKeep, Nat.reduceEqDiff, ↓reduceIte, reduceCtorEq, bt1, bt2, bt3, bt4, b_add, b_sub, b_mul, b_eql, b_neq, b_lss, b_leq, b_gtr, b_geq, addA, ptr_fp, rel_fp, take1, List.drop_zero, List.drop_succ_cons, List.cons_append, List.nil_append, List.append_nil, Bool.not_true, Bool.not_false, decide_true, decide_false, true_and, and_true, Fin_ret, Fin_normal, rvsEv, rvEv, ex_some, resV, post_fin, ptrCells, reload, hget, hset, hdel, storeH, splice, takeV, cellsOf, AV.plain, and_self, List.take_succ_cons, List.take_zero, List.length_cons, List.length_nil, Nat.reduceAdd, Nat.reduceLeDiff, Nat.zero_add, Nat.add_zero, Nat.le_refl, List.getElem?_cons_zero, List.getElem?_cons_succ, partsE, partsE3, fillE, fillA, List.replicate_succ, List.replicate_zero, List.set_cons_zero, List.set_cons_succ, Nat.reduceLT, Nat.zero_lt_one, eq_self, List.contains_cons, List.contains_nil, Nat.reduceBEq, Bool.or_false, Bool.or_self, Bool.false_or, Bool.true_or, Bool.or_true, A52]
  refine go_rounds (fun q st => ∃ (i : Nat) (v : AV), q = l.length - i ∧ i ≤ l.length ∧ eget st.env 0 = some (.lst 1 (l.map intE)) ∧ eget st.env 3 = some v ∧ eget st.env 4 = some (.int .i64 i) ∧ OwnSl 3 1 st.heap st.nx v ((notL (l.take i)).map intE) ∧ st.dm = []) (n := l.length) mixed
    ⟨0, .nilS, by simp, by omega, by simp [eget], by simp [eget], by simp [eget], .inl ⟨rfl, by simp [notL]⟩, rfl⟩ ?_
  rintro q ⟨env, heap, nx', dm⟩ ⟨i, v, rfl, hi, h0, h3, h4, ho, hdm⟩
  simp only at h0 h3 h4 ho hdm
  subst hdm
  simp -implicitDefEqProofs only [go_skip, go_label, go_exit, go_ret, go_seq, go_block, go_cond, go_region, go_loop, go_dregion, fin_nil, fin_seq_n, fin_seq_e, fin_seq_r, fin_seq_p, fin_blk_n, fin_blk_e, fin_blk_r, fin_blk_p, rg_nil, rg_cons, gK_t, gK_f, aK_op, aK_call, oK_val, oK_skip, fK_go, rK_ret, cK_t, cK_f, dg_nil, dg_cons, dGK_t, dGK_f, dAK_op, dS_q, dS_l, dS_w, dAK_call, dLK_go, dLK2_fp, dLK2_op, dQK_val, dOK_val, dOK_skip, dFK_go, dRK_ret, then_n, then_e, then_r, then_p, guardOk, opEv, oev, oevs, ofV_int, ofV_bool, ofV_str, ofV_nilS, ofV_nilP, ofV_nilM, ofV_nilF, ofV_nilI, List.toList_toArray, eget, setE, dropE, edel, penv, AOp.quiet, AOp.isLoad, pendOk, pendKeep, Nat.reduceEqDiff, ↓reduceIte, reduceCtorEq, bt1, bt2, bt3, bt4, b_add, b_sub, b_mul, b_eql, b_neq, b_lss, b_leq, b_gtr, b_geq, addA, ptr_fp, rel_fp, take1, List.drop_zero, List.drop_succ_cons, List.cons_append, List.nil_append, List.append_nil, Bool.not_true, Bool.not_false, decide_true, decide_false, true_and, and_true, Fin_ret, Fin_normal, rvsEv, rvEv, ex_some, resV, post_fin, ptrCells, reload, hget, hset, hdel, storeH, splice, takeV, cellsOf, AV.plain, and_self, List.take_succ_cons, List.take_zero, List.length_cons, List.length_nil, Nat.reduceAdd, Nat.reduceLeDiff, Nat.zero_add, Nat.add_zero, Nat.le_refl, List.getElem?_cons_zero, List.getElem?_cons_succ, partsE, partsE3, fillE, fillA, List.replicate_succ, List.replicate_zero, List.set_cons_zero, List.set_cons_succ, Nat.reduceLT, Nat.zero_lt_one, eq_self, List.contains_cons, List.contains_nil, Nat.reduceBEq, Bool.or_false, Bool.or_self, Bool.false_or, Bool.true_or, Bool.or_true, A52l0, h0, h3, h4, len_map]
  refine cK_dec (fun hc => ?_) (fun hc => ?_)
  · obtain ⟨b, hb⟩ : ∃ b, l[i]? = some b := ⟨l[i]'(by omega), List.getElem?_eq_getElem (by omega)⟩
    have hb1 := bits01_at h01 hb
    have hix := idxA_map (f := intE) (sz := 1) hb
    have hs : IntKind.i64.wrap (1 - (b : Int)) = ((1 - b : Nat) : Int) := by rw [w64 (by omega) (by omega)]; omega
    have ht : notL (l.take (i + 1)) = notL (l.take i) ++ [1 - b] := by simp [notL, List.take_add_one, hb]
    obtain ⟨v', h', n2, ea, ho', hle2, _⟩ := ho.app (bytes := 8) (ns := [intE (1 - b)]) (intE_len _) (fun z hz => by simp at hz; subst hz; rfl)
      (by simp [notL]; omega) (by simp [notL, maxLen]; omega)
    have ho2 : OwnSl 3 1 h' n2 v' ((notL (l.take (i + 1))).map intE) := by rw [ht, intE_map_snoc]; exact ho'
    have ha : IntKind.i64.wrap ((i : Int) + 1) = ((i + 1 : Nat) : Int) := by rw [w64 (by omega) (by omega)]; omega
    simp only [intE] at ea
    simp -implicitDefEqProofs only [go_skip, go_label, go_exit, go_ret, go_seq, go_block, go_cond, go_region, go_loop, go_dregion, fin_nil, fin_seq_n, fin_seq_e, fin_seq_r, fin_seq_p, fin_blk_n, fin_blk_e, fin_blk_r, fin_blk_p, rg_nil, rg_cons, gK_t, gK_f, aK_op, aK_call, oK_val, oK_skip, fK_go, rK_ret, cK_t, cK_f, dg_nil, dg_cons, dGK_t, dGK_f, dAK_op, dS_q, dS_l, dS_w, dAK_call, dLK_go, dLK2_fp, dLK2_op, dQK_val, dOK_val, dOK_skip, dFK_go, dRK_ret, then_n, then_e, then_r, then_p, guardOk, opEv, oev, oevs, ofV_int, ofV_bool, ofV_str, ofV_nilS, ofV_nilP, ofV_nilM, ofV_nilF, ofV_nilI, List.toList_toArray, eget, setE, dropE, edel, penv, AOp.quiet, AOp.isLoad, pendOk, pendKeep, Nat.reduceEqDiff, ↓reduceIte, reduceCtorEq, bt1, bt2, bt3, bt4, b_add, b_sub, b_mul, b_eql, b_neq, b_lss, b_leq, b_gtr, b_geq, addA, ptr_fp, rel_fp, take1, List.drop_zero, List.drop_succ_cons, List.cons_append, List.nil_append, List.append_nil, Bool.not_true, Bool.not_false, decide_true, decide_false, true_and, and_true, Fin_ret, Fin_normal, rvsEv, rvEv, ex_some, resV, post_fin, ptrCells, reload, hget, hset, hdel, storeH, splice, takeV, cellsOf, AV.plain, and_self, List.take_succ_cons, List.take_zero, List.length_cons, List.length_nil, Nat.reduceAdd, Nat.reduceLeDiff, Nat.zero_add, Nat.add_zero, Nat.le_refl, List.getElem?_cons_zero, List.getElem?_cons_succ, partsE, partsE3, fillE, fillA, List.replicate_succ, List.replicate_zero, List.set_cons_zero, List.set_cons_succ, Nat.reduceLT, Nat.zero_lt_one, eq_self, List.contains_cons, List.contains_nil, Nat.reduceBEq, Bool.or_false, Bool.or_self, Bool.false_or, Bool.true_or, Bool.or_true, h0, h3, h4, hix, intE, hs, ea, ha]
    refine ⟨l.length - (i + 1), by omega, i + 1, v', rfl, by omega, ?_⟩
    first | exact ho2 | exact ⟨rfl, ho2⟩ | exact ⟨rfl, rfl, ho2⟩ | exact ⟨rfl, rfl, rfl, ho2⟩ | exact ⟨by simp [intE], ho2⟩ | exact ⟨rfl, by simp [intE], ho2⟩ | exact ⟨by simp [intE], rfl, ho2⟩
  · obtain rfl : i = l.length := by omega
    rw [List.take_length] at ho
    simp -implicitDefEqProofs only [go_skip, go_label, go_exit, go_ret, go_seq, go_block, go_cond, go_region, go_loop, go_dregion, fin_nil, fin_seq_n, fin_seq_e, fin_seq_r, fin_seq_p, fin_blk_n, fin_blk_e, fin_blk_r, fin_blk_p, rg_nil, rg_cons, gK_t, gK_f, aK_op, aK_call, oK_val, oK_skip, fK_go, rK_ret, cK_t, cK_f, dg_nil, dg_cons, dGK_t, dGK_f, dAK_op, dS_q, dS_l, dS_w, dAK_call, dLK_go, dLK2_fp, dLK2_op, dQK_val, dOK_val, dOK_skip, dFK_go, dRK_ret, then_n, then_e, then_r, then_p, guardOk, opEv, oev, oevs, ofV_int, ofV_bool, ofV_str, ofV_nilS, ofV_nilP, ofV_nilM, ofV_nilF, ofV_nilI, List.toList_toArray, eget, setE, dropE, edel, penv, AOp.quiet, AOp.isLoad, pendOk, pendKeep, Nat.reduceEqDiff, ↓reduceIte, reduceCtorEq, bt1, bt2, bt3, bt4, b_add, b_sub, b_mul, b_eql, b_neq, b_lss, b_leq, b_gtr, b_geq, addA, ptr_fp, rel_fp, take1, List.drop_zero, List.drop_succ_cons, List.cons_append, List.nil_append, List.append_nil, Bool.not_true, Bool.not_false, decide_true, decide_false, true_and, and_true, Fin_ret, Fin_normal, rvsEv, rvEv, ex_some, resV, post_fin, ptrCells, reload, hget, hset, hdel, storeH, splice, takeV, cellsOf, AV.plain, and_self, List.take_succ_cons, List.take_zero, List.length_cons, List.length_nil, Nat.reduceAdd, Nat.reduceLeDiff, Nat.zero_add, Nat.add_zero, Nat.le_refl, List.getElem?_cons_zero, List.getElem?_cons_succ, partsE, partsE3, fillE, fillA, List.replicate_succ, List.replicate_zero, List.set_cons_zero, List.set_cons_succ, Nat.reduceLT, Nat.zero_lt_one, eq_self, List.contains_cons, List.contains_nil, Nat.reduceBEq, Bool.or_false, Bool.or_self, Bool.false_or, Bool.true_or, Bool.or_true, h3, R52]
    exact ⟨v, rfl, ho⟩

/-- A sum's digits and its carry. -/
def addI (a b : List Nat) (c : Nat) : Nat → List Nat × Nat
  | 0 => ([], c)
  | i + 1 => let p := addI a b c i; let n := a.getD i 0 + b.getD i 0 + p.2; (p.1 ++ [n % 2], n / 2)
theorem addI_len (a b : List Nat) (c : Nat) : ∀ i, (addI a b c i).1.length = i
  | 0 => rfl
  | i + 1 => by simp [addI, addI_len a b c i]
theorem addI_01 (a b : List Nat) (c : Nat) : ∀ i, bits01 (addI a b c i).1
  | 0 => fun b hb => by simp [addI] at hb
  | i + 1 => bits01_app (addI_01 a b c i) (bits01_one (by have := Nat.mod_lt (a.getD i 0 + b.getD i 0 + (addI a b c i).2) (show 0 < 2 by omega); omega))
theorem addI_carry {a b : List Nat} {c : Nat} (ha : bits01 a) (hb : bits01 b) (hc : c ≤ 1) : ∀ i, i ≤ a.length → i ≤ b.length → (addI a b c i).2 ≤ 1
  | 0, _, _ => hc
  | i + 1, h1, h2 => by
    have ih := addI_carry ha hb hc i (by omega) (by omega)
    have a1 := bits01_at ha (List.getElem?_eq_getElem (show i < a.length by omega))
    have b1 := bits01_at hb (List.getElem?_eq_getElem (show i < b.length by omega))
    simp only [addI, List.getD_eq_getElem?_getD, List.getElem?_eq_getElem (show i < a.length by omega), List.getElem?_eq_getElem (show i < b.length by omega), Option.getD_some]
    omega
theorem num_addI {a b : List Nat} {c : Nat} (ha : bits01 a) (hb : bits01 b) : ∀ i, i ≤ a.length → i ≤ b.length → num (addI a b c i).1 + 2 ^ i * (addI a b c i).2 = num (a.take i) + num (b.take i) + c
  | 0, _, _ => by simp [addI, num]
  | i + 1, h1, h2 => by
    have ih := num_addI ha hb i (by omega) (by omega) (c := c)
    have ea := List.getElem?_eq_getElem (show i < a.length by omega)
    have eb := List.getElem?_eq_getElem (show i < b.length by omega)
    rw [num_succ ha ea, num_succ hb eb]
    simp only [addI, List.getD_eq_getElem?_getD, ea, eb, Option.getD_some]
    generalize a[i] = x at *
    generalize b[i] = y at *
    generalize hk : (addI a b c i).2 = k at *
    have hd := Nat.div_add_mod (x + y + k) 2
    rw [num_snoc (by have := Nat.mod_lt (x + y + k) (show 0 < 2 by omega); omega), addI_len, Nat.pow_succ]
    have e1 : 2 ^ i * ((x + y + k) % 2) + 2 ^ i * 2 * ((x + y + k) / 2) = 2 ^ i * (x + y + k) := by
      rw [Nat.mul_assoc, ← Nat.mul_add]; congr 1; omega
    have e2 : 2 ^ i * (x + y + k) = 2 ^ i * x + 2 ^ i * y + 2 ^ i * k := by rw [Nat.mul_add, Nat.mul_add]
    omega
def addL (a b : List Nat) (c : Nat) : List Nat := (addI a b c a.length).1
theorem num_add {a b : List Nat} {c : Nat} (ha : bits01 a) (hb : bits01 b) (hl : a.length ≤ b.length) : num (addL a b c) = (num a + num (b.take a.length) + c) % 2 ^ a.length := by
  have h := num_addI ha hb (c := c) a.length (Nat.le_refl _) hl
  rw [List.take_length] at h
  rw [← h, Nat.add_mul_mod_self_left, Nat.mod_eq_of_lt]
  · rfl
  · have := num_lt (addI a b c a.length).1
    rwa [addI_len] at this
theorem addL_len (a b : List Nat) (c : Nat) : (addL a b c).length = a.length := addI_len a b c _
theorem addL_01 (a b : List Nat) (c : Nat) : bits01 (addL a b c) := addI_01 a b c _
end Go.Proofs.Ytcnnanicdjdddaa
