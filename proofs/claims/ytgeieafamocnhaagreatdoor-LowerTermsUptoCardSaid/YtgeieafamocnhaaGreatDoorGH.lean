/- Well-formed statements. -/
import Derived.Test.YtgeieafamocnhaaGreatDoorGG
namespace Go.Proofs.YtgeieafamocnhaaGreatDoor
open Go Go.Ab Go.Proofs
open Nat (reduceEqDiff reduceAdd reduceLeDiff reduceLT)
set_option linter.unusedVariables false
set_option linter.unusedSimpArgs false
set_option maxRecDepth 20000
def wfM (k : Int) (n f : Nm) (w : Int) (len nb ne : Nat) : Bool :=
  if k = 1 then isNm n && decide (len = 1) && decide (nb = 0) && decide (ne = 0) && (f == []) && sized w
  else if k = 2 then isNm n && decide (len = 1) && decide (nb = 0) && decide (ne = 0) && (f == []) && decide (w = 0)
  else if k = 3 then isNm n && decide (len = 2) && decide (nb = 0) && decide (ne = 0) && (f == []) && decide (w = 0)
  else if k = 4 then (n == []) && decide (len = 1) && (f == []) && decide (w = 0)
  else if k = 5 then (n == []) && decide (len = 1) && decide (ne = 0) && (f == []) && decide (w = 0)
  else if k = 6 then (n == []) && decide (len = 0) && decide (nb = 0) && decide (ne = 0) && (f == []) && decide (w = 0)
  else if k = 7 then (n == []) && decide (len = 1) && decide (nb = 0) && decide (ne = 0) && (f == []) && decide (w = 0)
  else if k = 8 then (n == []) && decide (len ≤ 1) && decide (nb = 0) && decide (ne = 0) && (f == []) && decide (w = 0)
  else if k = 9 then ((n == []) || isNm n) && decide (nb = 0) && decide (ne = 0) && isNm f && decide (w = 0)
  else false
mutual
def wfS : Sm → Bool
  | .mk k n f w l b e => wfM k n f w l.length b.length e.length && l.all wfE && wfSL b && wfSL e
def wfSL : List Sm → Bool
  | [] => true
  | x :: r => wfS x && wfSL r
end
theorem wfSL_all : ∀ l : List Sm, wfSL l = l.all wfS
  | [] => rfl
  | x :: r => by simp only [wfSL, List.all_cons, wfSL_all r]
theorem wfS_eq (k : Int) (n f : Nm) (w : Int) (l : List Ex) (b e : List Sm) : wfS (.mk k n f w l b e) = (wfM k n f w l.length b.length e.length && l.all wfE && b.all wfS && e.all wfS) := by rw [wfS, wfSL_all, wfSL_all]
mutual
def shS : Sm → Prop
  | .mk _ n f _ l b e => n.length ≤ 100000 ∧ f.length ≤ 100000 ∧ shEL l ∧ nodesL l ≤ 1152921504606846976 ∧ shSL b ∧ shSL e
def shSL : List Sm → Prop
  | [] => True
  | x :: r => shS x ∧ shSL r
end
theorem shSL_mem : ∀ {l : List Sm}, shSL l → ∀ x ∈ l, shS x
  | [], _, x, hx => by simp at hx
  | y :: r, h, x, hx => by
    rcases List.mem_cons.1 hx with rfl | hx
    · exact h.1
    · exact shSL_mem h.2 x hx
theorem stmts_pos (x : Sm) : 1 ≤ stmts x := by cases x; simp only [stmts]; omega
theorem stmtsL_mem : ∀ {l : List Sm} {x : Sm}, x ∈ l → stmts x ≤ stmtsL l
  | [], x, h => by simp at h
  | y :: r, x, h => by
    simp only [stmtsL]
    rcases List.mem_cons.1 h with rfl | h
    · omega
    · have := stmtsL_mem h; omega
theorem stmtsL_len : ∀ (l : List Sm), l.length ≤ stmtsL l
  | [] => by simp
  | x :: r => by have := stmtsL_len r; have := stmts_pos x; simp only [List.length_cons, stmtsL]; omega
theorem sm_mk (k : Int) (n f : Nm) (w : Int) (l : List Ex) (b e : List Sm) : smE (.mk k n f w l b e) = [.int .u8 k, .str n, .str f, .int .i64 w, exsA l, smsA b, smsA e] := smE_eq _
theorem ipos {α : Type} (l : List α) : ((0 : Int) < (l.length : Int)) = ¬ (l.length = 0) := propext (by omega)
theorem imin {α : Type} (l : List α) : ((l.length : Int) = (if (1 : Int) < (l.length : Int) then (1 : Int) else (l.length : Int))) = (l.length ≤ 1) := propext (by split <;> omega)
theorem ile1 {α : Type} (l : List α) : ((l.length : Int) ≤ 1) = (l.length ≤ 1) := propext (by omega)
set_option maxHeartbeats 4000000 in
theorem w127_1 (w : Int) (n f : Nm) (l : List Ex) (b e : List Sm) (hn1 : n.length ≤ 100000) (hf1 : f.length ≤ 100000) (cE : Pure Tryz.prog 81 [exsA l, .fn (.func 38) []] (.bool (l.all wfE))) (cB : Pure Tryz.prog 126 [smsA b, .fn (.func 127) []] (.bool (b.all wfS))) (cC : Pure Tryz.prog 126 [smsA e, .fn (.func 127) []] (.bool (e.all wfS))) :
    Pure Tryz.prog 127 [.agg (smE (.mk 1 n f w l b e))] (.bool (wfS (.mk 1 n f w l b e))) := by
  have le := exs_len l
  have lb := sms_len b
  have lee := sms_len e
  refine Pure.of fun nx => AC.go mixed is127 (by simp) ?_
  have nn : (nx + 1 = nx) = False := eq_false (by omega)
  have nself : ((l.length : Int) = (l.length : Int)) = True := eq_true rfl
  rw [sm_mk]
  have i0 := ilen l 0 0 rfl
  have i1 := ilen l 1 1 rfl
  have i2 := ilen l 2 2 rfl
  have b0 := ilen b 0 0 rfl
  have e0 := ilen e 0 0 rfl
  have b1 := ipos b
  have e1 := ipos e
  have l8 := imin l
  have l9 := ile1 l
  cases hm : (isNm n)
  rotate_left
  rcases ced_cases (l.length = 1) with ⟨-, hl⟩ | ⟨-, hl⟩
  rotate_left
  rcases ced_cases (b.length = 0) with ⟨-, hnb⟩ | ⟨-, hnb⟩
  rotate_left
  rcases ced_cases (e.length = 0) with ⟨-, hne⟩ | ⟨-, hne⟩
  rotate_left
  cases hfe : (f == [])
  rotate_left
  cases hs : (sized w)
  rotate_left
  cases ha : (l.all wfE)
  rotate_left
  cases hba : (b.all wfS)
  rotate_left
  cases hea : (e.all wfS)
  rotate_left
  all_goals simp -implicitDefEqProofs only [RR, RE, RP, RG, takeV, reduceEqDiff, ↓reduceIte, reduceCtorEq, reduceAdd, reduceLeDiff, reduceLT, Nat.reduceBEq, A127, A127p, R127, b_str, strA, if_false, ↓c_exs, ↓p_exs, ↓c_sms, ↓p_sms, Int.reduceEq, unA, not_false_eq_true, not_true_eq_false, Bool.false_eq_true, *]
  all_goals repeat' ((first | refine cE.use fun _ _ => ?_ | refine cB.use fun _ _ => ?_ | refine cC.use fun _ _ => ?_ | refine (w80 n hn1).use fun _ _ => ?_ | refine (w80 f hf1).use fun _ _ => ?_ | refine (w78 w).use fun _ _ => ?_); simp -implicitDefEqProofs only [RR, RE, RP, RG, takeV, reduceEqDiff, ↓reduceIte, reduceCtorEq, reduceAdd, reduceLeDiff, reduceLT, Nat.reduceBEq, R127, b_str, strA, if_false, ↓c_exs, ↓p_exs, ↓c_sms, ↓p_sms, Int.reduceEq, unA, not_false_eq_true, not_true_eq_false, Bool.false_eq_true, *])
  all_goals simp [wfS_eq, wfM, *]
set_option maxHeartbeats 4000000 in
theorem w127_2 (w : Int) (n f : Nm) (l : List Ex) (b e : List Sm) (hn1 : n.length ≤ 100000) (hf1 : f.length ≤ 100000) (cE : Pure Tryz.prog 81 [exsA l, .fn (.func 38) []] (.bool (l.all wfE))) (cB : Pure Tryz.prog 126 [smsA b, .fn (.func 127) []] (.bool (b.all wfS))) (cC : Pure Tryz.prog 126 [smsA e, .fn (.func 127) []] (.bool (e.all wfS))) :
    Pure Tryz.prog 127 [.agg (smE (.mk 2 n f w l b e))] (.bool (wfS (.mk 2 n f w l b e))) := by
  have le := exs_len l
  have lb := sms_len b
  have lee := sms_len e
  refine Pure.of fun nx => AC.go mixed is127 (by simp) ?_
  have nn : (nx + 1 = nx) = False := eq_false (by omega)
  have nself : ((l.length : Int) = (l.length : Int)) = True := eq_true rfl
  rw [sm_mk]
  have i0 := ilen l 0 0 rfl
  have i1 := ilen l 1 1 rfl
  have i2 := ilen l 2 2 rfl
  have b0 := ilen b 0 0 rfl
  have e0 := ilen e 0 0 rfl
  have b1 := ipos b
  have e1 := ipos e
  have l8 := imin l
  have l9 := ile1 l
  cases hm : (isNm n)
  rotate_left
  rcases ced_cases (l.length = 1) with ⟨-, hl⟩ | ⟨-, hl⟩
  rotate_left
  rcases ced_cases (b.length = 0) with ⟨-, hnb⟩ | ⟨-, hnb⟩
  rotate_left
  rcases ced_cases (e.length = 0) with ⟨-, hne⟩ | ⟨-, hne⟩
  rotate_left
  cases hfe : (f == [])
  rotate_left
  rcases ced_cases (w = 0) with ⟨-, hw⟩ | ⟨-, hw⟩
  rotate_left
  cases ha : (l.all wfE)
  rotate_left
  cases hba : (b.all wfS)
  rotate_left
  cases hea : (e.all wfS)
  rotate_left
  all_goals simp -implicitDefEqProofs only [RR, RE, RP, RG, takeV, reduceEqDiff, ↓reduceIte, reduceCtorEq, reduceAdd, reduceLeDiff, reduceLT, Nat.reduceBEq, A127, A127p, R127, b_str, strA, if_false, ↓c_exs, ↓p_exs, ↓c_sms, ↓p_sms, Int.reduceEq, unA, not_false_eq_true, not_true_eq_false, Bool.false_eq_true, *]
  all_goals repeat' ((first | refine cE.use fun _ _ => ?_ | refine cB.use fun _ _ => ?_ | refine cC.use fun _ _ => ?_ | refine (w80 n hn1).use fun _ _ => ?_ | refine (w80 f hf1).use fun _ _ => ?_ | refine (w78 w).use fun _ _ => ?_); simp -implicitDefEqProofs only [RR, RE, RP, RG, takeV, reduceEqDiff, ↓reduceIte, reduceCtorEq, reduceAdd, reduceLeDiff, reduceLT, Nat.reduceBEq, R127, b_str, strA, if_false, ↓c_exs, ↓p_exs, ↓c_sms, ↓p_sms, Int.reduceEq, unA, not_false_eq_true, not_true_eq_false, Bool.false_eq_true, *])
  all_goals simp [wfS_eq, wfM, *]
set_option maxHeartbeats 4000000 in
theorem w127_3 (w : Int) (n f : Nm) (l : List Ex) (b e : List Sm) (hn1 : n.length ≤ 100000) (hf1 : f.length ≤ 100000) (cE : Pure Tryz.prog 81 [exsA l, .fn (.func 38) []] (.bool (l.all wfE))) (cB : Pure Tryz.prog 126 [smsA b, .fn (.func 127) []] (.bool (b.all wfS))) (cC : Pure Tryz.prog 126 [smsA e, .fn (.func 127) []] (.bool (e.all wfS))) :
    Pure Tryz.prog 127 [.agg (smE (.mk 3 n f w l b e))] (.bool (wfS (.mk 3 n f w l b e))) := by
  have le := exs_len l
  have lb := sms_len b
  have lee := sms_len e
  refine Pure.of fun nx => AC.go mixed is127 (by simp) ?_
  have nn : (nx + 1 = nx) = False := eq_false (by omega)
  have nself : ((l.length : Int) = (l.length : Int)) = True := eq_true rfl
  rw [sm_mk]
  have i0 := ilen l 0 0 rfl
  have i1 := ilen l 1 1 rfl
  have i2 := ilen l 2 2 rfl
  have b0 := ilen b 0 0 rfl
  have e0 := ilen e 0 0 rfl
  have b1 := ipos b
  have e1 := ipos e
  have l8 := imin l
  have l9 := ile1 l
  cases hm : (isNm n)
  rotate_left
  rcases ced_cases (l.length = 2) with ⟨-, hl⟩ | ⟨-, hl⟩
  rotate_left
  rcases ced_cases (b.length = 0) with ⟨-, hnb⟩ | ⟨-, hnb⟩
  rotate_left
  rcases ced_cases (e.length = 0) with ⟨-, hne⟩ | ⟨-, hne⟩
  rotate_left
  cases hfe : (f == [])
  rotate_left
  rcases ced_cases (w = 0) with ⟨-, hw⟩ | ⟨-, hw⟩
  rotate_left
  cases ha : (l.all wfE)
  rotate_left
  cases hba : (b.all wfS)
  rotate_left
  cases hea : (e.all wfS)
  rotate_left
  all_goals simp -implicitDefEqProofs only [RR, RE, RP, RG, takeV, reduceEqDiff, ↓reduceIte, reduceCtorEq, reduceAdd, reduceLeDiff, reduceLT, Nat.reduceBEq, A127, A127p, R127, b_str, strA, if_false, ↓c_exs, ↓p_exs, ↓c_sms, ↓p_sms, Int.reduceEq, unA, not_false_eq_true, not_true_eq_false, Bool.false_eq_true, *]
  all_goals repeat' ((first | refine cE.use fun _ _ => ?_ | refine cB.use fun _ _ => ?_ | refine cC.use fun _ _ => ?_ | refine (w80 n hn1).use fun _ _ => ?_ | refine (w80 f hf1).use fun _ _ => ?_ | refine (w78 w).use fun _ _ => ?_); simp -implicitDefEqProofs only [RR, RE, RP, RG, takeV, reduceEqDiff, ↓reduceIte, reduceCtorEq, reduceAdd, reduceLeDiff, reduceLT, Nat.reduceBEq, R127, b_str, strA, if_false, ↓c_exs, ↓p_exs, ↓c_sms, ↓p_sms, Int.reduceEq, unA, not_false_eq_true, not_true_eq_false, Bool.false_eq_true, *])
  all_goals simp [wfS_eq, wfM, *]
set_option maxHeartbeats 4000000 in
theorem w127_4 (w : Int) (n f : Nm) (l : List Ex) (b e : List Sm) (hn1 : n.length ≤ 100000) (hf1 : f.length ≤ 100000) (cE : Pure Tryz.prog 81 [exsA l, .fn (.func 38) []] (.bool (l.all wfE))) (cB : Pure Tryz.prog 126 [smsA b, .fn (.func 127) []] (.bool (b.all wfS))) (cC : Pure Tryz.prog 126 [smsA e, .fn (.func 127) []] (.bool (e.all wfS))) :
    Pure Tryz.prog 127 [.agg (smE (.mk 4 n f w l b e))] (.bool (wfS (.mk 4 n f w l b e))) := by
  have le := exs_len l
  have lb := sms_len b
  have lee := sms_len e
  refine Pure.of fun nx => AC.go mixed is127 (by simp) ?_
  have nn : (nx + 1 = nx) = False := eq_false (by omega)
  have nself : ((l.length : Int) = (l.length : Int)) = True := eq_true rfl
  rw [sm_mk]
  have i0 := ilen l 0 0 rfl
  have i1 := ilen l 1 1 rfl
  have i2 := ilen l 2 2 rfl
  have b0 := ilen b 0 0 rfl
  have e0 := ilen e 0 0 rfl
  have b1 := ipos b
  have e1 := ipos e
  have l8 := imin l
  have l9 := ile1 l
  cases hn : (n == [])
  rotate_left
  rcases ced_cases (l.length = 1) with ⟨-, hl⟩ | ⟨-, hl⟩
  rotate_left
  cases hfe : (f == [])
  rotate_left
  rcases ced_cases (w = 0) with ⟨-, hw⟩ | ⟨-, hw⟩
  rotate_left
  cases ha : (l.all wfE)
  rotate_left
  cases hba : (b.all wfS)
  rotate_left
  cases hea : (e.all wfS)
  rotate_left
  all_goals simp -implicitDefEqProofs only [RR, RE, RP, RG, takeV, reduceEqDiff, ↓reduceIte, reduceCtorEq, reduceAdd, reduceLeDiff, reduceLT, Nat.reduceBEq, A127, A127p, R127, b_str, strA, if_false, ↓c_exs, ↓p_exs, ↓c_sms, ↓p_sms, Int.reduceEq, unA, not_false_eq_true, not_true_eq_false, Bool.false_eq_true, *]
  all_goals repeat' ((first | refine cE.use fun _ _ => ?_ | refine cB.use fun _ _ => ?_ | refine cC.use fun _ _ => ?_ | refine (w80 n hn1).use fun _ _ => ?_ | refine (w80 f hf1).use fun _ _ => ?_ | refine (w78 w).use fun _ _ => ?_); simp -implicitDefEqProofs only [RR, RE, RP, RG, takeV, reduceEqDiff, ↓reduceIte, reduceCtorEq, reduceAdd, reduceLeDiff, reduceLT, Nat.reduceBEq, R127, b_str, strA, if_false, ↓c_exs, ↓p_exs, ↓c_sms, ↓p_sms, Int.reduceEq, unA, not_false_eq_true, not_true_eq_false, Bool.false_eq_true, *])
  all_goals simp [wfS_eq, wfM, *]
set_option maxHeartbeats 4000000 in
theorem w127_5 (w : Int) (n f : Nm) (l : List Ex) (b e : List Sm) (hn1 : n.length ≤ 100000) (hf1 : f.length ≤ 100000) (cE : Pure Tryz.prog 81 [exsA l, .fn (.func 38) []] (.bool (l.all wfE))) (cB : Pure Tryz.prog 126 [smsA b, .fn (.func 127) []] (.bool (b.all wfS))) (cC : Pure Tryz.prog 126 [smsA e, .fn (.func 127) []] (.bool (e.all wfS))) :
    Pure Tryz.prog 127 [.agg (smE (.mk 5 n f w l b e))] (.bool (wfS (.mk 5 n f w l b e))) := by
  have le := exs_len l
  have lb := sms_len b
  have lee := sms_len e
  refine Pure.of fun nx => AC.go mixed is127 (by simp) ?_
  have nn : (nx + 1 = nx) = False := eq_false (by omega)
  have nself : ((l.length : Int) = (l.length : Int)) = True := eq_true rfl
  rw [sm_mk]
  have i0 := ilen l 0 0 rfl
  have i1 := ilen l 1 1 rfl
  have i2 := ilen l 2 2 rfl
  have b0 := ilen b 0 0 rfl
  have e0 := ilen e 0 0 rfl
  have b1 := ipos b
  have e1 := ipos e
  have l8 := imin l
  have l9 := ile1 l
  cases hn : (n == [])
  rotate_left
  rcases ced_cases (l.length = 1) with ⟨-, hl⟩ | ⟨-, hl⟩
  rotate_left
  rcases ced_cases (e.length = 0) with ⟨-, hne⟩ | ⟨-, hne⟩
  rotate_left
  cases hfe : (f == [])
  rotate_left
  rcases ced_cases (w = 0) with ⟨-, hw⟩ | ⟨-, hw⟩
  rotate_left
  cases ha : (l.all wfE)
  rotate_left
  cases hba : (b.all wfS)
  rotate_left
  cases hea : (e.all wfS)
  rotate_left
  all_goals simp -implicitDefEqProofs only [RR, RE, RP, RG, takeV, reduceEqDiff, ↓reduceIte, reduceCtorEq, reduceAdd, reduceLeDiff, reduceLT, Nat.reduceBEq, A127, A127p, R127, b_str, strA, if_false, ↓c_exs, ↓p_exs, ↓c_sms, ↓p_sms, Int.reduceEq, unA, not_false_eq_true, not_true_eq_false, Bool.false_eq_true, *]
  all_goals repeat' ((first | refine cE.use fun _ _ => ?_ | refine cB.use fun _ _ => ?_ | refine cC.use fun _ _ => ?_ | refine (w80 n hn1).use fun _ _ => ?_ | refine (w80 f hf1).use fun _ _ => ?_ | refine (w78 w).use fun _ _ => ?_); simp -implicitDefEqProofs only [RR, RE, RP, RG, takeV, reduceEqDiff, ↓reduceIte, reduceCtorEq, reduceAdd, reduceLeDiff, reduceLT, Nat.reduceBEq, R127, b_str, strA, if_false, ↓c_exs, ↓p_exs, ↓c_sms, ↓p_sms, Int.reduceEq, unA, not_false_eq_true, not_true_eq_false, Bool.false_eq_true, *])
  all_goals simp [wfS_eq, wfM, *]
set_option maxHeartbeats 4000000 in
theorem w127_6 (w : Int) (n f : Nm) (l : List Ex) (b e : List Sm) (hn1 : n.length ≤ 100000) (hf1 : f.length ≤ 100000) (cE : Pure Tryz.prog 81 [exsA l, .fn (.func 38) []] (.bool (l.all wfE))) (cB : Pure Tryz.prog 126 [smsA b, .fn (.func 127) []] (.bool (b.all wfS))) (cC : Pure Tryz.prog 126 [smsA e, .fn (.func 127) []] (.bool (e.all wfS))) :
    Pure Tryz.prog 127 [.agg (smE (.mk 6 n f w l b e))] (.bool (wfS (.mk 6 n f w l b e))) := by
  have le := exs_len l
  have lb := sms_len b
  have lee := sms_len e
  refine Pure.of fun nx => AC.go mixed is127 (by simp) ?_
  have nn : (nx + 1 = nx) = False := eq_false (by omega)
  have nself : ((l.length : Int) = (l.length : Int)) = True := eq_true rfl
  rw [sm_mk]
  have i0 := ilen l 0 0 rfl
  have i1 := ilen l 1 1 rfl
  have i2 := ilen l 2 2 rfl
  have b0 := ilen b 0 0 rfl
  have e0 := ilen e 0 0 rfl
  have b1 := ipos b
  have e1 := ipos e
  have l8 := imin l
  have l9 := ile1 l
  cases hn : (n == [])
  rotate_left
  rcases ced_cases (l.length = 0) with ⟨-, hl⟩ | ⟨-, hl⟩
  rotate_left
  rcases ced_cases (b.length = 0) with ⟨-, hnb⟩ | ⟨-, hnb⟩
  rotate_left
  rcases ced_cases (e.length = 0) with ⟨-, hne⟩ | ⟨-, hne⟩
  rotate_left
  cases hfe : (f == [])
  rotate_left
  rcases ced_cases (w = 0) with ⟨-, hw⟩ | ⟨-, hw⟩
  rotate_left
  cases ha : (l.all wfE)
  rotate_left
  cases hba : (b.all wfS)
  rotate_left
  cases hea : (e.all wfS)
  rotate_left
  all_goals simp -implicitDefEqProofs only [RR, RE, RP, RG, takeV, reduceEqDiff, ↓reduceIte, reduceCtorEq, reduceAdd, reduceLeDiff, reduceLT, Nat.reduceBEq, A127, A127p, R127, b_str, strA, if_false, ↓c_exs, ↓p_exs, ↓c_sms, ↓p_sms, Int.reduceEq, unA, not_false_eq_true, not_true_eq_false, Bool.false_eq_true, *]
  all_goals repeat' ((first | refine cE.use fun _ _ => ?_ | refine cB.use fun _ _ => ?_ | refine cC.use fun _ _ => ?_ | refine (w80 n hn1).use fun _ _ => ?_ | refine (w80 f hf1).use fun _ _ => ?_ | refine (w78 w).use fun _ _ => ?_); simp -implicitDefEqProofs only [RR, RE, RP, RG, takeV, reduceEqDiff, ↓reduceIte, reduceCtorEq, reduceAdd, reduceLeDiff, reduceLT, Nat.reduceBEq, R127, b_str, strA, if_false, ↓c_exs, ↓p_exs, ↓c_sms, ↓p_sms, Int.reduceEq, unA, not_false_eq_true, not_true_eq_false, Bool.false_eq_true, *])
  all_goals simp [wfS_eq, wfM, *]
set_option maxHeartbeats 4000000 in
theorem w127_7 (w : Int) (n f : Nm) (l : List Ex) (b e : List Sm) (hn1 : n.length ≤ 100000) (hf1 : f.length ≤ 100000) (cE : Pure Tryz.prog 81 [exsA l, .fn (.func 38) []] (.bool (l.all wfE))) (cB : Pure Tryz.prog 126 [smsA b, .fn (.func 127) []] (.bool (b.all wfS))) (cC : Pure Tryz.prog 126 [smsA e, .fn (.func 127) []] (.bool (e.all wfS))) :
    Pure Tryz.prog 127 [.agg (smE (.mk 7 n f w l b e))] (.bool (wfS (.mk 7 n f w l b e))) := by
  have le := exs_len l
  have lb := sms_len b
  have lee := sms_len e
  refine Pure.of fun nx => AC.go mixed is127 (by simp) ?_
  have nn : (nx + 1 = nx) = False := eq_false (by omega)
  have nself : ((l.length : Int) = (l.length : Int)) = True := eq_true rfl
  rw [sm_mk]
  have i0 := ilen l 0 0 rfl
  have i1 := ilen l 1 1 rfl
  have i2 := ilen l 2 2 rfl
  have b0 := ilen b 0 0 rfl
  have e0 := ilen e 0 0 rfl
  have b1 := ipos b
  have e1 := ipos e
  have l8 := imin l
  have l9 := ile1 l
  cases hn : (n == [])
  rotate_left
  rcases ced_cases (l.length = 1) with ⟨-, hl⟩ | ⟨-, hl⟩
  rotate_left
  rcases ced_cases (b.length = 0) with ⟨-, hnb⟩ | ⟨-, hnb⟩
  rotate_left
  rcases ced_cases (e.length = 0) with ⟨-, hne⟩ | ⟨-, hne⟩
  rotate_left
  cases hfe : (f == [])
  rotate_left
  rcases ced_cases (w = 0) with ⟨-, hw⟩ | ⟨-, hw⟩
  rotate_left
  cases ha : (l.all wfE)
  rotate_left
  cases hba : (b.all wfS)
  rotate_left
  cases hea : (e.all wfS)
  rotate_left
  all_goals simp -implicitDefEqProofs only [RR, RE, RP, RG, takeV, reduceEqDiff, ↓reduceIte, reduceCtorEq, reduceAdd, reduceLeDiff, reduceLT, Nat.reduceBEq, A127, A127p, R127, b_str, strA, if_false, ↓c_exs, ↓p_exs, ↓c_sms, ↓p_sms, Int.reduceEq, unA, not_false_eq_true, not_true_eq_false, Bool.false_eq_true, *]
  all_goals repeat' ((first | refine cE.use fun _ _ => ?_ | refine cB.use fun _ _ => ?_ | refine cC.use fun _ _ => ?_ | refine (w80 n hn1).use fun _ _ => ?_ | refine (w80 f hf1).use fun _ _ => ?_ | refine (w78 w).use fun _ _ => ?_); simp -implicitDefEqProofs only [RR, RE, RP, RG, takeV, reduceEqDiff, ↓reduceIte, reduceCtorEq, reduceAdd, reduceLeDiff, reduceLT, Nat.reduceBEq, R127, b_str, strA, if_false, ↓c_exs, ↓p_exs, ↓c_sms, ↓p_sms, Int.reduceEq, unA, not_false_eq_true, not_true_eq_false, Bool.false_eq_true, *])
  all_goals simp [wfS_eq, wfM, *]
set_option maxHeartbeats 4000000 in
theorem w127_8 (w : Int) (n f : Nm) (l : List Ex) (b e : List Sm) (hn1 : n.length ≤ 100000) (hf1 : f.length ≤ 100000) (cE : Pure Tryz.prog 81 [exsA l, .fn (.func 38) []] (.bool (l.all wfE))) (cB : Pure Tryz.prog 126 [smsA b, .fn (.func 127) []] (.bool (b.all wfS))) (cC : Pure Tryz.prog 126 [smsA e, .fn (.func 127) []] (.bool (e.all wfS))) :
    Pure Tryz.prog 127 [.agg (smE (.mk 8 n f w l b e))] (.bool (wfS (.mk 8 n f w l b e))) := by
  have le := exs_len l
  have lb := sms_len b
  have lee := sms_len e
  refine Pure.of fun nx => AC.go mixed is127 (by simp) ?_
  have nn : (nx + 1 = nx) = False := eq_false (by omega)
  have nself : ((l.length : Int) = (l.length : Int)) = True := eq_true rfl
  rw [sm_mk]
  have i0 := ilen l 0 0 rfl
  have i1 := ilen l 1 1 rfl
  have i2 := ilen l 2 2 rfl
  have b0 := ilen b 0 0 rfl
  have e0 := ilen e 0 0 rfl
  have b1 := ipos b
  have e1 := ipos e
  have l8 := imin l
  have l9 := ile1 l
  cases hn : (n == [])
  rotate_left
  rcases ced_cases (l.length ≤ 1) with ⟨-, hl⟩ | ⟨-, hl⟩
  rotate_left
  rcases ced_cases (b.length = 0) with ⟨-, hnb⟩ | ⟨-, hnb⟩
  rotate_left
  rcases ced_cases (e.length = 0) with ⟨-, hne⟩ | ⟨-, hne⟩
  rotate_left
  cases hfe : (f == [])
  rotate_left
  rcases ced_cases (w = 0) with ⟨-, hw⟩ | ⟨-, hw⟩
  rotate_left
  cases ha : (l.all wfE)
  rotate_left
  cases hba : (b.all wfS)
  rotate_left
  cases hea : (e.all wfS)
  rotate_left
  all_goals simp -implicitDefEqProofs only [RR, RE, RP, RG, takeV, reduceEqDiff, ↓reduceIte, reduceCtorEq, reduceAdd, reduceLeDiff, reduceLT, Nat.reduceBEq, A127, A127p, R127, b_str, strA, if_false, ↓c_exs, ↓p_exs, ↓c_sms, ↓p_sms, Int.reduceEq, unA, not_false_eq_true, not_true_eq_false, Bool.false_eq_true, *]
  all_goals repeat' ((first | refine cE.use fun _ _ => ?_ | refine cB.use fun _ _ => ?_ | refine cC.use fun _ _ => ?_ | refine (w80 n hn1).use fun _ _ => ?_ | refine (w80 f hf1).use fun _ _ => ?_ | refine (w78 w).use fun _ _ => ?_); simp -implicitDefEqProofs only [RR, RE, RP, RG, takeV, reduceEqDiff, ↓reduceIte, reduceCtorEq, reduceAdd, reduceLeDiff, reduceLT, Nat.reduceBEq, R127, b_str, strA, if_false, ↓c_exs, ↓p_exs, ↓c_sms, ↓p_sms, Int.reduceEq, unA, not_false_eq_true, not_true_eq_false, Bool.false_eq_true, *])
  all_goals simp [wfS_eq, wfM, *]
set_option maxHeartbeats 4000000 in
theorem w127_9 (w : Int) (n f : Nm) (l : List Ex) (b e : List Sm) (hn1 : n.length ≤ 100000) (hf1 : f.length ≤ 100000) (cE : Pure Tryz.prog 81 [exsA l, .fn (.func 38) []] (.bool (l.all wfE))) (cB : Pure Tryz.prog 126 [smsA b, .fn (.func 127) []] (.bool (b.all wfS))) (cC : Pure Tryz.prog 126 [smsA e, .fn (.func 127) []] (.bool (e.all wfS))) :
    Pure Tryz.prog 127 [.agg (smE (.mk 9 n f w l b e))] (.bool (wfS (.mk 9 n f w l b e))) := by
  have le := exs_len l
  have lb := sms_len b
  have lee := sms_len e
  refine Pure.of fun nx => AC.go mixed is127 (by simp) ?_
  have nn : (nx + 1 = nx) = False := eq_false (by omega)
  have nself : ((l.length : Int) = (l.length : Int)) = True := eq_true rfl
  rw [sm_mk]
  have i0 := ilen l 0 0 rfl
  have i1 := ilen l 1 1 rfl
  have i2 := ilen l 2 2 rfl
  have b0 := ilen b 0 0 rfl
  have e0 := ilen e 0 0 rfl
  have b1 := ipos b
  have e1 := ipos e
  have l8 := imin l
  have l9 := ile1 l
  cases hn : (n == [])
  all_goals cases hm : (isNm n)
  all_goals
    rcases ced_cases (b.length = 0) with ⟨-, hnb⟩ | ⟨-, hnb⟩
    rotate_left
    rcases ced_cases (e.length = 0) with ⟨-, hne⟩ | ⟨-, hne⟩
    rotate_left
    cases hf : (isNm f)
    rotate_left
    rcases ced_cases (w = 0) with ⟨-, hw⟩ | ⟨-, hw⟩
    rotate_left
    cases ha : (l.all wfE)
    rotate_left
    cases hba : (b.all wfS)
    rotate_left
    cases hea : (e.all wfS)
    rotate_left
    all_goals simp -implicitDefEqProofs only [RR, RE, RP, RG, takeV, reduceEqDiff, ↓reduceIte, reduceCtorEq, reduceAdd, reduceLeDiff, reduceLT, Nat.reduceBEq, A127, A127p, R127, b_str, strA, if_false, ↓c_exs, ↓p_exs, ↓c_sms, ↓p_sms, Int.reduceEq, unA, not_false_eq_true, not_true_eq_false, Bool.false_eq_true, *]
    all_goals repeat' ((first | refine cE.use fun _ _ => ?_ | refine cB.use fun _ _ => ?_ | refine cC.use fun _ _ => ?_ | refine (w80 n hn1).use fun _ _ => ?_ | refine (w80 f hf1).use fun _ _ => ?_ | refine (w78 w).use fun _ _ => ?_); simp -implicitDefEqProofs only [RR, RE, RP, RG, takeV, reduceEqDiff, ↓reduceIte, reduceCtorEq, reduceAdd, reduceLeDiff, reduceLT, Nat.reduceBEq, R127, b_str, strA, if_false, ↓c_exs, ↓p_exs, ↓c_sms, ↓p_sms, Int.reduceEq, unA, not_false_eq_true, not_true_eq_false, Bool.false_eq_true, *])
    all_goals simp [wfS_eq, wfM, *]
set_option maxHeartbeats 4000000 in
theorem w127_k (k w : Int) (n f : Nm) (l : List Ex) (b e : List Sm) (hn1 : n.length ≤ 100000) (hf1 : f.length ≤ 100000) (cE : Pure Tryz.prog 81 [exsA l, .fn (.func 38) []] (.bool (l.all wfE))) (cB : Pure Tryz.prog 126 [smsA b, .fn (.func 127) []] (.bool (b.all wfS))) (cC : Pure Tryz.prog 126 [smsA e, .fn (.func 127) []] (.bool (e.all wfS))) (hk1 : k ≠ 1) (hk2 : k ≠ 2) (hk3 : k ≠ 3) (hk4 : k ≠ 4) (hk5 : k ≠ 5) (hk6 : k ≠ 6) (hk7 : k ≠ 7) (hk8 : k ≠ 8) (hk9 : k ≠ 9) :
    Pure Tryz.prog 127 [.agg (smE (.mk k n f w l b e))] (.bool (wfS (.mk k n f w l b e))) := by
  have le := exs_len l
  have lb := sms_len b
  have lee := sms_len e
  refine Pure.of fun nx => AC.go mixed is127 (by simp) ?_
  have nn : (nx + 1 = nx) = False := eq_false (by omega)
  have nself : ((l.length : Int) = (l.length : Int)) = True := eq_true rfl
  rw [sm_mk]
  have i0 := ilen l 0 0 rfl
  have i1 := ilen l 1 1 rfl
  have i2 := ilen l 2 2 rfl
  have b0 := ilen b 0 0 rfl
  have e0 := ilen e 0 0 rfl
  have b1 := ipos b
  have e1 := ipos e
  have l8 := imin l
  have l9 := ile1 l
  have kd1 : (k = 1) = False := eq_false hk1
  have kd2 : (k = 2) = False := eq_false hk2
  have kd3 : (k = 3) = False := eq_false hk3
  have kd4 : (k = 4) = False := eq_false hk4
  have kd5 : (k = 5) = False := eq_false hk5
  have kd6 : (k = 6) = False := eq_false hk6
  have kd7 : (k = 7) = False := eq_false hk7
  have kd8 : (k = 8) = False := eq_false hk8
  have kd9 : (k = 9) = False := eq_false hk9
  all_goals simp -implicitDefEqProofs only [RR, RE, RP, RG, takeV, reduceEqDiff, ↓reduceIte, reduceCtorEq, reduceAdd, reduceLeDiff, reduceLT, Nat.reduceBEq, A127, A127p, R127, b_str, strA, if_false, ↓c_exs, ↓p_exs, ↓c_sms, ↓p_sms, Int.reduceEq, unA, not_false_eq_true, not_true_eq_false, Bool.false_eq_true, *]
  all_goals repeat' ((first | refine cE.use fun _ _ => ?_ | refine cB.use fun _ _ => ?_ | refine cC.use fun _ _ => ?_ | refine (w80 n hn1).use fun _ _ => ?_ | refine (w80 f hf1).use fun _ _ => ?_ | refine (w78 w).use fun _ _ => ?_); simp -implicitDefEqProofs only [RR, RE, RP, RG, takeV, reduceEqDiff, ↓reduceIte, reduceCtorEq, reduceAdd, reduceLeDiff, reduceLT, Nat.reduceBEq, R127, b_str, strA, if_false, ↓c_exs, ↓p_exs, ↓c_sms, ↓p_sms, Int.reduceEq, unA, not_false_eq_true, not_true_eq_false, Bool.false_eq_true, *])
  all_goals simp [wfS_eq, wfM, *]
theorem w127 : ∀ (m : Nat) (x : Sm), stmts x ≤ m → stmts x ≤ 4611686018427387904 → shS x → Pure Tryz.prog 127 [.agg (smE x)] (.bool (wfS x)) := by
  intro m
  induction m with
  | zero => intro x hx; have := stmts_pos x; omega
  | succ m ih =>
    rintro ⟨k, n, f, w, l, b, e⟩ hm hB hsh
    simp only [stmts] at hm hB
    simp only [shS] at hsh
    obtain ⟨h1, h2, h3, h4, h5, h6⟩ := hsh
    have hl := nodesL_len l
    have hlb := stmtsL_len b
    have hle := stmtsL_len e
    have cE : Pure Tryz.prog 81 [exsA l, .fn (.func 38) []] (.bool (l.all wfE)) := w81 wfE l (by omega) fun x hx => w38 _ x (Nat.le_refl _) (by have := nodesL_memb hx; omega) (shEL_mem h3 x hx)
    have cB : Pure Tryz.prog 126 [smsA b, .fn (.func 127) []] (.bool (b.all wfS)) := w126 wfS b (by omega) fun x hx => ih x (by have := stmtsL_mem hx; omega) (by have := stmtsL_mem hx; omega) (shSL_mem h5 x hx)
    have cC : Pure Tryz.prog 126 [smsA e, .fn (.func 127) []] (.bool (e.all wfS)) := w126 wfS e (by omega) fun x hx => ih x (by have := stmtsL_mem hx; omega) (by have := stmtsL_mem hx; omega) (shSL_mem h6 x hx)
    by_cases hk1 : k = 1
    · subst hk1; exact w127_1 w n f l b e h1 h2 cE cB cC
    by_cases hk2 : k = 2
    · subst hk2; exact w127_2 w n f l b e h1 h2 cE cB cC
    by_cases hk3 : k = 3
    · subst hk3; exact w127_3 w n f l b e h1 h2 cE cB cC
    by_cases hk4 : k = 4
    · subst hk4; exact w127_4 w n f l b e h1 h2 cE cB cC
    by_cases hk5 : k = 5
    · subst hk5; exact w127_5 w n f l b e h1 h2 cE cB cC
    by_cases hk6 : k = 6
    · subst hk6; exact w127_6 w n f l b e h1 h2 cE cB cC
    by_cases hk7 : k = 7
    · subst hk7; exact w127_7 w n f l b e h1 h2 cE cB cC
    by_cases hk8 : k = 8
    · subst hk8; exact w127_8 w n f l b e h1 h2 cE cB cC
    by_cases hk9 : k = 9
    · subst hk9; exact w127_9 w n f l b e h1 h2 cE cB cC
    exact w127_k k w n f l b e h1 h2 cE cB cC hk1 hk2 hk3 hk4 hk5 hk6 hk7 hk8 hk9
end Go.Proofs.YtgeieafamocnhaaGreatDoor
