/- Well-formed statements: the reference's own. -/
import Derived.Test.YtgeieafamocnhaaGreatDoorGH
namespace Go.Proofs.YtgeieafamocnhaaGreatDoor
open Go Go.Ab Go.Proofs
open Nat (reduceEqDiff reduceAdd reduceLeDiff reduceLT)
set_option linter.unusedVariables false
set_option linter.unusedSimpArgs false
set_option maxRecDepth 20000
set_option maxHeartbeats 4000000 in
theorem w131_1 (w : Int) (n f : Nm) (l : List Ex) (b e : List Sm) (hn1 : n.length ≤ 100000) (hf1 : f.length ≤ 100000) (hB : nodesL l ≤ 1152921504606846976) (cE : ∀ r ∈ l, Pure Tryz.prog 47 [.agg (exE r)] (.bool (wfE r))) (cB : Pure Tryz.prog 104 [smsA b] (.bool (b.all wfS))) (cC : Pure Tryz.prog 104 [smsA e] (.bool (e.all wfS))) :
    Pure Tryz.prog 131 [.agg (smE (.mk 1 n f w l b e))] (.bool (wfS (.mk 1 n f w l b e))) := by
  have hsl := nodesL_len l
  have lv := exs_len l
  have lb := sms_len b
  have lee := sms_len e
  refine Pure.of fun nx => AC.go mixed is131 (by simp) ?_
  have gq : True := trivial
  rw [sm_mk]
  simp -implicitDefEqProofs only [RR, RE, RP, RG, takeV, reduceEqDiff, ↓reduceIte, reduceCtorEq, reduceAdd, reduceLeDiff, reduceLT, Nat.reduceBEq, A131, A131p, lv]
  refine go_rounds (fun q st => ∃ i : Nat, q = l.length - i ∧ i ≤ l.length ∧ (l.take i).all wfE = true ∧ eget st.env 1 = some (.op nx 0) ∧ eget st.env 3 = some (.int .i64 i) ∧ hget st.heap nx = some (.cells [.int .u8 1, .str n, .str f, .int .i64 w, exsA l, smsA b, smsA e]) ∧ st.dm = []) (n := l.length) mixed
    ⟨0, rfl, by omega, by simp, by simp [eget], by simp [eget], by simp [hget], rfl⟩ ?_
  rintro q ⟨env, heap, nx', dm⟩ ⟨i, rfl, hi, hall, g1, g3, gh, hdm⟩
  simp only at g1 g3 gh hdm
  subst hdm
  have f1 : IntKind.i64.wrap ((i : Int) + 1) = ((i + 1 : Nat) : Int) := by rw [w64 (by omega) (by omega)]; omega
  by_cases hc : (i : Int) < (l.length : Int)
  case pos =>
    have hr := List.getElem?_eq_getElem (show i < l.length by omega)
    generalize l[i] = r at hr
    have ix := exs_idx hr
    have hmem := List.mem_of_getElem? hr
    have rl := ex_len r
    have rt := ex_take r
    simp -implicitDefEqProofs only [RR, RE, RP, RG, takeV, reduceEqDiff, ↓reduceIte, reduceCtorEq, reduceAdd, reduceLeDiff, reduceLT, Nat.reduceBEq, A131l0, A131l0p, g1, g3, gh, lv, hc, ix, rl, rt]
    refine (cE r hmem).use fun n1 hn1 => ?_
    cases hw : wfE r with
    | false =>
      have ee : wfS (.mk 1 n f w l b e) = false := by
        have : l.all wfE = false := by rw [List.all_eq_false]; exact ⟨r, hmem, by simp [hw]⟩
        simp [wfS_eq, this]
      simp -implicitDefEqProofs only [RR, RE, RP, RG, takeV, reduceEqDiff, ↓reduceIte, reduceCtorEq, reduceAdd, reduceLeDiff, reduceLT, Nat.reduceBEq, g1, g3, gh, hw, unA, ee, R131]
    | true =>
      have hall2 : (l.take (i + 1)).all wfE = true := by rw [take_succ hr, List.all_append, hall]; simp [hw]
      simp -implicitDefEqProofs only [RR, RE, RP, RG, takeV, reduceEqDiff, ↓reduceIte, reduceCtorEq, reduceAdd, reduceLeDiff, reduceLT, Nat.reduceBEq, g1, g3, gh, hw, unA, f1]
      refine ⟨l.length - (i + 1), by omega, i + 1, ?_⟩
      repeat' apply And.intro
      all_goals first | assumption | rfl | omega | (simp [eget, *]; done)
  have ha : l.all wfE = true := by
    have ht : l.take i = l := List.take_of_length_le (by omega)
    rw [ht] at hall; exact hall
  clear cE
  have i0 := ilen l 0 0 rfl
  have i1 := ilen l 1 1 rfl
  have i2 := ilen l 2 2 rfl
  have b0 := ilen b 0 0 rfl
  have e0 := ilen e 0 0 rfl
  have b1 := ipos b
  have e1 := ipos e
  have l8 := imin l
  have l9 := ile1 l
  cases hba : (b.all wfS)
  rotate_left
  cases hea : (e.all wfS)
  rotate_left
  all_goals rcases dec_cases (b.length = 0) with ⟨-, hnb⟩ | ⟨-, hnb⟩
  all_goals rcases dec_cases (e.length = 0) with ⟨-, hne⟩ | ⟨-, hne⟩
  all_goals
    cases hfe : (f == [])
    rotate_left
    cases hm : (isNm n)
    rotate_left
    cases hs : (sized w)
    rotate_left
    rcases ced_cases (l.length = 1) with ⟨-, hl⟩ | ⟨-, hl⟩
    rotate_left
    all_goals simp -implicitDefEqProofs only [RR, RE, RP, RG, takeV, reduceEqDiff, ↓reduceIte, reduceCtorEq, reduceAdd, reduceLeDiff, reduceLT, Nat.reduceBEq, A131l0, A131l0p, R131, b_str, strA, if_false, Int.reduceEq, unA, not_false_eq_true, not_true_eq_false, Bool.false_eq_true, *]
    all_goals repeat' ((first | refine cB.use fun _ _ => ?_ | refine cC.use fun _ _ => ?_ | refine (w97 n hn1).use fun _ _ => ?_ | refine (w97 f hf1).use fun _ _ => ?_ | refine (w96 w).use fun _ _ => ?_); simp -implicitDefEqProofs only [RR, RE, RP, RG, takeV, reduceEqDiff, ↓reduceIte, reduceCtorEq, reduceAdd, reduceLeDiff, reduceLT, Nat.reduceBEq, R131, b_str, strA, if_false, Int.reduceEq, unA, not_false_eq_true, not_true_eq_false, Bool.false_eq_true, *])
    all_goals simp [wfS_eq, wfM, *]
set_option maxHeartbeats 4000000 in
theorem w131_2 (w : Int) (n f : Nm) (l : List Ex) (b e : List Sm) (hn1 : n.length ≤ 100000) (hf1 : f.length ≤ 100000) (hB : nodesL l ≤ 1152921504606846976) (cE : ∀ r ∈ l, Pure Tryz.prog 47 [.agg (exE r)] (.bool (wfE r))) (cB : Pure Tryz.prog 104 [smsA b] (.bool (b.all wfS))) (cC : Pure Tryz.prog 104 [smsA e] (.bool (e.all wfS))) :
    Pure Tryz.prog 131 [.agg (smE (.mk 2 n f w l b e))] (.bool (wfS (.mk 2 n f w l b e))) := by
  have hsl := nodesL_len l
  have lv := exs_len l
  have lb := sms_len b
  have lee := sms_len e
  refine Pure.of fun nx => AC.go mixed is131 (by simp) ?_
  have gq : True := trivial
  rw [sm_mk]
  simp -implicitDefEqProofs only [RR, RE, RP, RG, takeV, reduceEqDiff, ↓reduceIte, reduceCtorEq, reduceAdd, reduceLeDiff, reduceLT, Nat.reduceBEq, A131, A131p, lv]
  refine go_rounds (fun q st => ∃ i : Nat, q = l.length - i ∧ i ≤ l.length ∧ (l.take i).all wfE = true ∧ eget st.env 1 = some (.op nx 0) ∧ eget st.env 3 = some (.int .i64 i) ∧ hget st.heap nx = some (.cells [.int .u8 2, .str n, .str f, .int .i64 w, exsA l, smsA b, smsA e]) ∧ st.dm = []) (n := l.length) mixed
    ⟨0, rfl, by omega, by simp, by simp [eget], by simp [eget], by simp [hget], rfl⟩ ?_
  rintro q ⟨env, heap, nx', dm⟩ ⟨i, rfl, hi, hall, g1, g3, gh, hdm⟩
  simp only at g1 g3 gh hdm
  subst hdm
  have f1 : IntKind.i64.wrap ((i : Int) + 1) = ((i + 1 : Nat) : Int) := by rw [w64 (by omega) (by omega)]; omega
  by_cases hc : (i : Int) < (l.length : Int)
  case pos =>
    have hr := List.getElem?_eq_getElem (show i < l.length by omega)
    generalize l[i] = r at hr
    have ix := exs_idx hr
    have hmem := List.mem_of_getElem? hr
    have rl := ex_len r
    have rt := ex_take r
    simp -implicitDefEqProofs only [RR, RE, RP, RG, takeV, reduceEqDiff, ↓reduceIte, reduceCtorEq, reduceAdd, reduceLeDiff, reduceLT, Nat.reduceBEq, A131l0, A131l0p, g1, g3, gh, lv, hc, ix, rl, rt]
    refine (cE r hmem).use fun n1 hn1 => ?_
    cases hw : wfE r with
    | false =>
      have ee : wfS (.mk 2 n f w l b e) = false := by
        have : l.all wfE = false := by rw [List.all_eq_false]; exact ⟨r, hmem, by simp [hw]⟩
        simp [wfS_eq, this]
      simp -implicitDefEqProofs only [RR, RE, RP, RG, takeV, reduceEqDiff, ↓reduceIte, reduceCtorEq, reduceAdd, reduceLeDiff, reduceLT, Nat.reduceBEq, g1, g3, gh, hw, unA, ee, R131]
    | true =>
      have hall2 : (l.take (i + 1)).all wfE = true := by rw [take_succ hr, List.all_append, hall]; simp [hw]
      simp -implicitDefEqProofs only [RR, RE, RP, RG, takeV, reduceEqDiff, ↓reduceIte, reduceCtorEq, reduceAdd, reduceLeDiff, reduceLT, Nat.reduceBEq, g1, g3, gh, hw, unA, f1]
      refine ⟨l.length - (i + 1), by omega, i + 1, ?_⟩
      repeat' apply And.intro
      all_goals first | assumption | rfl | omega | (simp [eget, *]; done)
  have ha : l.all wfE = true := by
    have ht : l.take i = l := List.take_of_length_le (by omega)
    rw [ht] at hall; exact hall
  clear cE
  have i0 := ilen l 0 0 rfl
  have i1 := ilen l 1 1 rfl
  have i2 := ilen l 2 2 rfl
  have b0 := ilen b 0 0 rfl
  have e0 := ilen e 0 0 rfl
  have b1 := ipos b
  have e1 := ipos e
  have l8 := imin l
  have l9 := ile1 l
  cases hba : (b.all wfS)
  rotate_left
  cases hea : (e.all wfS)
  rotate_left
  all_goals rcases dec_cases (b.length = 0) with ⟨-, hnb⟩ | ⟨-, hnb⟩
  all_goals rcases dec_cases (e.length = 0) with ⟨-, hne⟩ | ⟨-, hne⟩
  all_goals
    rcases ced_cases (w = 0) with ⟨-, hw⟩ | ⟨-, hw⟩
    rotate_left
    cases hfe : (f == [])
    rotate_left
    cases hm : (isNm n)
    rotate_left
    rcases ced_cases (l.length = 1) with ⟨-, hl⟩ | ⟨-, hl⟩
    rotate_left
    all_goals simp -implicitDefEqProofs only [RR, RE, RP, RG, takeV, reduceEqDiff, ↓reduceIte, reduceCtorEq, reduceAdd, reduceLeDiff, reduceLT, Nat.reduceBEq, A131l0, A131l0p, R131, b_str, strA, if_false, Int.reduceEq, unA, not_false_eq_true, not_true_eq_false, Bool.false_eq_true, *]
    all_goals repeat' ((first | refine cB.use fun _ _ => ?_ | refine cC.use fun _ _ => ?_ | refine (w97 n hn1).use fun _ _ => ?_ | refine (w97 f hf1).use fun _ _ => ?_ | refine (w96 w).use fun _ _ => ?_); simp -implicitDefEqProofs only [RR, RE, RP, RG, takeV, reduceEqDiff, ↓reduceIte, reduceCtorEq, reduceAdd, reduceLeDiff, reduceLT, Nat.reduceBEq, R131, b_str, strA, if_false, Int.reduceEq, unA, not_false_eq_true, not_true_eq_false, Bool.false_eq_true, *])
    all_goals simp [wfS_eq, wfM, *]
set_option maxHeartbeats 4000000 in
theorem w131_3 (w : Int) (n f : Nm) (l : List Ex) (b e : List Sm) (hn1 : n.length ≤ 100000) (hf1 : f.length ≤ 100000) (hB : nodesL l ≤ 1152921504606846976) (cE : ∀ r ∈ l, Pure Tryz.prog 47 [.agg (exE r)] (.bool (wfE r))) (cB : Pure Tryz.prog 104 [smsA b] (.bool (b.all wfS))) (cC : Pure Tryz.prog 104 [smsA e] (.bool (e.all wfS))) :
    Pure Tryz.prog 131 [.agg (smE (.mk 3 n f w l b e))] (.bool (wfS (.mk 3 n f w l b e))) := by
  have hsl := nodesL_len l
  have lv := exs_len l
  have lb := sms_len b
  have lee := sms_len e
  refine Pure.of fun nx => AC.go mixed is131 (by simp) ?_
  have gq : True := trivial
  rw [sm_mk]
  simp -implicitDefEqProofs only [RR, RE, RP, RG, takeV, reduceEqDiff, ↓reduceIte, reduceCtorEq, reduceAdd, reduceLeDiff, reduceLT, Nat.reduceBEq, A131, A131p, lv]
  refine go_rounds (fun q st => ∃ i : Nat, q = l.length - i ∧ i ≤ l.length ∧ (l.take i).all wfE = true ∧ eget st.env 1 = some (.op nx 0) ∧ eget st.env 3 = some (.int .i64 i) ∧ hget st.heap nx = some (.cells [.int .u8 3, .str n, .str f, .int .i64 w, exsA l, smsA b, smsA e]) ∧ st.dm = []) (n := l.length) mixed
    ⟨0, rfl, by omega, by simp, by simp [eget], by simp [eget], by simp [hget], rfl⟩ ?_
  rintro q ⟨env, heap, nx', dm⟩ ⟨i, rfl, hi, hall, g1, g3, gh, hdm⟩
  simp only at g1 g3 gh hdm
  subst hdm
  have f1 : IntKind.i64.wrap ((i : Int) + 1) = ((i + 1 : Nat) : Int) := by rw [w64 (by omega) (by omega)]; omega
  by_cases hc : (i : Int) < (l.length : Int)
  case pos =>
    have hr := List.getElem?_eq_getElem (show i < l.length by omega)
    generalize l[i] = r at hr
    have ix := exs_idx hr
    have hmem := List.mem_of_getElem? hr
    have rl := ex_len r
    have rt := ex_take r
    simp -implicitDefEqProofs only [RR, RE, RP, RG, takeV, reduceEqDiff, ↓reduceIte, reduceCtorEq, reduceAdd, reduceLeDiff, reduceLT, Nat.reduceBEq, A131l0, A131l0p, g1, g3, gh, lv, hc, ix, rl, rt]
    refine (cE r hmem).use fun n1 hn1 => ?_
    cases hw : wfE r with
    | false =>
      have ee : wfS (.mk 3 n f w l b e) = false := by
        have : l.all wfE = false := by rw [List.all_eq_false]; exact ⟨r, hmem, by simp [hw]⟩
        simp [wfS_eq, this]
      simp -implicitDefEqProofs only [RR, RE, RP, RG, takeV, reduceEqDiff, ↓reduceIte, reduceCtorEq, reduceAdd, reduceLeDiff, reduceLT, Nat.reduceBEq, g1, g3, gh, hw, unA, ee, R131]
    | true =>
      have hall2 : (l.take (i + 1)).all wfE = true := by rw [take_succ hr, List.all_append, hall]; simp [hw]
      simp -implicitDefEqProofs only [RR, RE, RP, RG, takeV, reduceEqDiff, ↓reduceIte, reduceCtorEq, reduceAdd, reduceLeDiff, reduceLT, Nat.reduceBEq, g1, g3, gh, hw, unA, f1]
      refine ⟨l.length - (i + 1), by omega, i + 1, ?_⟩
      repeat' apply And.intro
      all_goals first | assumption | rfl | omega | (simp [eget, *]; done)
  have ha : l.all wfE = true := by
    have ht : l.take i = l := List.take_of_length_le (by omega)
    rw [ht] at hall; exact hall
  clear cE
  have i0 := ilen l 0 0 rfl
  have i1 := ilen l 1 1 rfl
  have i2 := ilen l 2 2 rfl
  have b0 := ilen b 0 0 rfl
  have e0 := ilen e 0 0 rfl
  have b1 := ipos b
  have e1 := ipos e
  have l8 := imin l
  have l9 := ile1 l
  cases hba : (b.all wfS)
  rotate_left
  cases hea : (e.all wfS)
  rotate_left
  all_goals rcases dec_cases (b.length = 0) with ⟨-, hnb⟩ | ⟨-, hnb⟩
  all_goals rcases dec_cases (e.length = 0) with ⟨-, hne⟩ | ⟨-, hne⟩
  all_goals
    rcases ced_cases (w = 0) with ⟨-, hw⟩ | ⟨-, hw⟩
    rotate_left
    cases hfe : (f == [])
    rotate_left
    cases hm : (isNm n)
    rotate_left
    rcases ced_cases (l.length = 2) with ⟨-, hl⟩ | ⟨-, hl⟩
    rotate_left
    all_goals simp -implicitDefEqProofs only [RR, RE, RP, RG, takeV, reduceEqDiff, ↓reduceIte, reduceCtorEq, reduceAdd, reduceLeDiff, reduceLT, Nat.reduceBEq, A131l0, A131l0p, R131, b_str, strA, if_false, Int.reduceEq, unA, not_false_eq_true, not_true_eq_false, Bool.false_eq_true, *]
    all_goals repeat' ((first | refine cB.use fun _ _ => ?_ | refine cC.use fun _ _ => ?_ | refine (w97 n hn1).use fun _ _ => ?_ | refine (w97 f hf1).use fun _ _ => ?_ | refine (w96 w).use fun _ _ => ?_); simp -implicitDefEqProofs only [RR, RE, RP, RG, takeV, reduceEqDiff, ↓reduceIte, reduceCtorEq, reduceAdd, reduceLeDiff, reduceLT, Nat.reduceBEq, R131, b_str, strA, if_false, Int.reduceEq, unA, not_false_eq_true, not_true_eq_false, Bool.false_eq_true, *])
    all_goals simp [wfS_eq, wfM, *]
set_option maxHeartbeats 4000000 in
theorem w131_4 (w : Int) (n f : Nm) (l : List Ex) (b e : List Sm) (hn1 : n.length ≤ 100000) (hf1 : f.length ≤ 100000) (hB : nodesL l ≤ 1152921504606846976) (cE : ∀ r ∈ l, Pure Tryz.prog 47 [.agg (exE r)] (.bool (wfE r))) (cB : Pure Tryz.prog 104 [smsA b] (.bool (b.all wfS))) (cC : Pure Tryz.prog 104 [smsA e] (.bool (e.all wfS))) :
    Pure Tryz.prog 131 [.agg (smE (.mk 4 n f w l b e))] (.bool (wfS (.mk 4 n f w l b e))) := by
  have hsl := nodesL_len l
  have lv := exs_len l
  have lb := sms_len b
  have lee := sms_len e
  refine Pure.of fun nx => AC.go mixed is131 (by simp) ?_
  have gq : True := trivial
  rw [sm_mk]
  simp -implicitDefEqProofs only [RR, RE, RP, RG, takeV, reduceEqDiff, ↓reduceIte, reduceCtorEq, reduceAdd, reduceLeDiff, reduceLT, Nat.reduceBEq, A131, A131p, lv]
  refine go_rounds (fun q st => ∃ i : Nat, q = l.length - i ∧ i ≤ l.length ∧ (l.take i).all wfE = true ∧ eget st.env 1 = some (.op nx 0) ∧ eget st.env 3 = some (.int .i64 i) ∧ hget st.heap nx = some (.cells [.int .u8 4, .str n, .str f, .int .i64 w, exsA l, smsA b, smsA e]) ∧ st.dm = []) (n := l.length) mixed
    ⟨0, rfl, by omega, by simp, by simp [eget], by simp [eget], by simp [hget], rfl⟩ ?_
  rintro q ⟨env, heap, nx', dm⟩ ⟨i, rfl, hi, hall, g1, g3, gh, hdm⟩
  simp only at g1 g3 gh hdm
  subst hdm
  have f1 : IntKind.i64.wrap ((i : Int) + 1) = ((i + 1 : Nat) : Int) := by rw [w64 (by omega) (by omega)]; omega
  by_cases hc : (i : Int) < (l.length : Int)
  case pos =>
    have hr := List.getElem?_eq_getElem (show i < l.length by omega)
    generalize l[i] = r at hr
    have ix := exs_idx hr
    have hmem := List.mem_of_getElem? hr
    have rl := ex_len r
    have rt := ex_take r
    simp -implicitDefEqProofs only [RR, RE, RP, RG, takeV, reduceEqDiff, ↓reduceIte, reduceCtorEq, reduceAdd, reduceLeDiff, reduceLT, Nat.reduceBEq, A131l0, A131l0p, g1, g3, gh, lv, hc, ix, rl, rt]
    refine (cE r hmem).use fun n1 hn1 => ?_
    cases hw : wfE r with
    | false =>
      have ee : wfS (.mk 4 n f w l b e) = false := by
        have : l.all wfE = false := by rw [List.all_eq_false]; exact ⟨r, hmem, by simp [hw]⟩
        simp [wfS_eq, this]
      simp -implicitDefEqProofs only [RR, RE, RP, RG, takeV, reduceEqDiff, ↓reduceIte, reduceCtorEq, reduceAdd, reduceLeDiff, reduceLT, Nat.reduceBEq, g1, g3, gh, hw, unA, ee, R131]
    | true =>
      have hall2 : (l.take (i + 1)).all wfE = true := by rw [take_succ hr, List.all_append, hall]; simp [hw]
      simp -implicitDefEqProofs only [RR, RE, RP, RG, takeV, reduceEqDiff, ↓reduceIte, reduceCtorEq, reduceAdd, reduceLeDiff, reduceLT, Nat.reduceBEq, g1, g3, gh, hw, unA, f1]
      refine ⟨l.length - (i + 1), by omega, i + 1, ?_⟩
      repeat' apply And.intro
      all_goals first | assumption | rfl | omega | (simp [eget, *]; done)
  have ha : l.all wfE = true := by
    have ht : l.take i = l := List.take_of_length_le (by omega)
    rw [ht] at hall; exact hall
  clear cE
  have i0 := ilen l 0 0 rfl
  have i1 := ilen l 1 1 rfl
  have i2 := ilen l 2 2 rfl
  have b0 := ilen b 0 0 rfl
  have e0 := ilen e 0 0 rfl
  have b1 := ipos b
  have e1 := ipos e
  have l8 := imin l
  have l9 := ile1 l
  cases hba : (b.all wfS)
  rotate_left
  cases hea : (e.all wfS)
  rotate_left
  all_goals rcases dec_cases (b.length = 0) with ⟨-, hnb⟩ | ⟨-, hnb⟩
  all_goals rcases dec_cases (e.length = 0) with ⟨-, hne⟩ | ⟨-, hne⟩
  all_goals
    rcases ced_cases (w = 0) with ⟨-, hw⟩ | ⟨-, hw⟩
    rotate_left
    cases hfe : (f == [])
    rotate_left
    cases hn : (n == [])
    rotate_left
    rcases ced_cases (l.length = 1) with ⟨-, hl⟩ | ⟨-, hl⟩
    rotate_left
    all_goals simp -implicitDefEqProofs only [RR, RE, RP, RG, takeV, reduceEqDiff, ↓reduceIte, reduceCtorEq, reduceAdd, reduceLeDiff, reduceLT, Nat.reduceBEq, A131l0, A131l0p, R131, b_str, strA, if_false, Int.reduceEq, unA, not_false_eq_true, not_true_eq_false, Bool.false_eq_true, *]
    all_goals repeat' ((first | refine cB.use fun _ _ => ?_ | refine cC.use fun _ _ => ?_ | refine (w97 n hn1).use fun _ _ => ?_ | refine (w97 f hf1).use fun _ _ => ?_ | refine (w96 w).use fun _ _ => ?_); simp -implicitDefEqProofs only [RR, RE, RP, RG, takeV, reduceEqDiff, ↓reduceIte, reduceCtorEq, reduceAdd, reduceLeDiff, reduceLT, Nat.reduceBEq, R131, b_str, strA, if_false, Int.reduceEq, unA, not_false_eq_true, not_true_eq_false, Bool.false_eq_true, *])
    all_goals simp [wfS_eq, wfM, *]
set_option maxHeartbeats 4000000 in
theorem w131_5 (w : Int) (n f : Nm) (l : List Ex) (b e : List Sm) (hn1 : n.length ≤ 100000) (hf1 : f.length ≤ 100000) (hB : nodesL l ≤ 1152921504606846976) (cE : ∀ r ∈ l, Pure Tryz.prog 47 [.agg (exE r)] (.bool (wfE r))) (cB : Pure Tryz.prog 104 [smsA b] (.bool (b.all wfS))) (cC : Pure Tryz.prog 104 [smsA e] (.bool (e.all wfS))) :
    Pure Tryz.prog 131 [.agg (smE (.mk 5 n f w l b e))] (.bool (wfS (.mk 5 n f w l b e))) := by
  have hsl := nodesL_len l
  have lv := exs_len l
  have lb := sms_len b
  have lee := sms_len e
  refine Pure.of fun nx => AC.go mixed is131 (by simp) ?_
  have gq : True := trivial
  rw [sm_mk]
  simp -implicitDefEqProofs only [RR, RE, RP, RG, takeV, reduceEqDiff, ↓reduceIte, reduceCtorEq, reduceAdd, reduceLeDiff, reduceLT, Nat.reduceBEq, A131, A131p, lv]
  refine go_rounds (fun q st => ∃ i : Nat, q = l.length - i ∧ i ≤ l.length ∧ (l.take i).all wfE = true ∧ eget st.env 1 = some (.op nx 0) ∧ eget st.env 3 = some (.int .i64 i) ∧ hget st.heap nx = some (.cells [.int .u8 5, .str n, .str f, .int .i64 w, exsA l, smsA b, smsA e]) ∧ st.dm = []) (n := l.length) mixed
    ⟨0, rfl, by omega, by simp, by simp [eget], by simp [eget], by simp [hget], rfl⟩ ?_
  rintro q ⟨env, heap, nx', dm⟩ ⟨i, rfl, hi, hall, g1, g3, gh, hdm⟩
  simp only at g1 g3 gh hdm
  subst hdm
  have f1 : IntKind.i64.wrap ((i : Int) + 1) = ((i + 1 : Nat) : Int) := by rw [w64 (by omega) (by omega)]; omega
  by_cases hc : (i : Int) < (l.length : Int)
  case pos =>
    have hr := List.getElem?_eq_getElem (show i < l.length by omega)
    generalize l[i] = r at hr
    have ix := exs_idx hr
    have hmem := List.mem_of_getElem? hr
    have rl := ex_len r
    have rt := ex_take r
    simp -implicitDefEqProofs only [RR, RE, RP, RG, takeV, reduceEqDiff, ↓reduceIte, reduceCtorEq, reduceAdd, reduceLeDiff, reduceLT, Nat.reduceBEq, A131l0, A131l0p, g1, g3, gh, lv, hc, ix, rl, rt]
    refine (cE r hmem).use fun n1 hn1 => ?_
    cases hw : wfE r with
    | false =>
      have ee : wfS (.mk 5 n f w l b e) = false := by
        have : l.all wfE = false := by rw [List.all_eq_false]; exact ⟨r, hmem, by simp [hw]⟩
        simp [wfS_eq, this]
      simp -implicitDefEqProofs only [RR, RE, RP, RG, takeV, reduceEqDiff, ↓reduceIte, reduceCtorEq, reduceAdd, reduceLeDiff, reduceLT, Nat.reduceBEq, g1, g3, gh, hw, unA, ee, R131]
    | true =>
      have hall2 : (l.take (i + 1)).all wfE = true := by rw [take_succ hr, List.all_append, hall]; simp [hw]
      simp -implicitDefEqProofs only [RR, RE, RP, RG, takeV, reduceEqDiff, ↓reduceIte, reduceCtorEq, reduceAdd, reduceLeDiff, reduceLT, Nat.reduceBEq, g1, g3, gh, hw, unA, f1]
      refine ⟨l.length - (i + 1), by omega, i + 1, ?_⟩
      repeat' apply And.intro
      all_goals first | assumption | rfl | omega | (simp [eget, *]; done)
  have ha : l.all wfE = true := by
    have ht : l.take i = l := List.take_of_length_le (by omega)
    rw [ht] at hall; exact hall
  clear cE
  have i0 := ilen l 0 0 rfl
  have i1 := ilen l 1 1 rfl
  have i2 := ilen l 2 2 rfl
  have b0 := ilen b 0 0 rfl
  have e0 := ilen e 0 0 rfl
  have b1 := ipos b
  have e1 := ipos e
  have l8 := imin l
  have l9 := ile1 l
  cases hba : (b.all wfS)
  rotate_left
  cases hea : (e.all wfS)
  rotate_left
  all_goals rcases dec_cases (b.length = 0) with ⟨-, hnb⟩ | ⟨-, hnb⟩
  all_goals rcases dec_cases (e.length = 0) with ⟨-, hne⟩ | ⟨-, hne⟩
  all_goals
    rcases ced_cases (w = 0) with ⟨-, hw⟩ | ⟨-, hw⟩
    rotate_left
    cases hfe : (f == [])
    rotate_left
    cases hn : (n == [])
    rotate_left
    rcases ced_cases (l.length = 1) with ⟨-, hl⟩ | ⟨-, hl⟩
    rotate_left
    all_goals simp -implicitDefEqProofs only [RR, RE, RP, RG, takeV, reduceEqDiff, ↓reduceIte, reduceCtorEq, reduceAdd, reduceLeDiff, reduceLT, Nat.reduceBEq, A131l0, A131l0p, R131, b_str, strA, if_false, Int.reduceEq, unA, not_false_eq_true, not_true_eq_false, Bool.false_eq_true, *]
    all_goals repeat' ((first | refine cB.use fun _ _ => ?_ | refine cC.use fun _ _ => ?_ | refine (w97 n hn1).use fun _ _ => ?_ | refine (w97 f hf1).use fun _ _ => ?_ | refine (w96 w).use fun _ _ => ?_); simp -implicitDefEqProofs only [RR, RE, RP, RG, takeV, reduceEqDiff, ↓reduceIte, reduceCtorEq, reduceAdd, reduceLeDiff, reduceLT, Nat.reduceBEq, R131, b_str, strA, if_false, Int.reduceEq, unA, not_false_eq_true, not_true_eq_false, Bool.false_eq_true, *])
    all_goals simp [wfS_eq, wfM, *]
set_option maxHeartbeats 4000000 in
theorem w131_6 (w : Int) (n f : Nm) (l : List Ex) (b e : List Sm) (hn1 : n.length ≤ 100000) (hf1 : f.length ≤ 100000) (hB : nodesL l ≤ 1152921504606846976) (cE : ∀ r ∈ l, Pure Tryz.prog 47 [.agg (exE r)] (.bool (wfE r))) (cB : Pure Tryz.prog 104 [smsA b] (.bool (b.all wfS))) (cC : Pure Tryz.prog 104 [smsA e] (.bool (e.all wfS))) :
    Pure Tryz.prog 131 [.agg (smE (.mk 6 n f w l b e))] (.bool (wfS (.mk 6 n f w l b e))) := by
  have hsl := nodesL_len l
  have lv := exs_len l
  have lb := sms_len b
  have lee := sms_len e
  refine Pure.of fun nx => AC.go mixed is131 (by simp) ?_
  have gq : True := trivial
  rw [sm_mk]
  simp -implicitDefEqProofs only [RR, RE, RP, RG, takeV, reduceEqDiff, ↓reduceIte, reduceCtorEq, reduceAdd, reduceLeDiff, reduceLT, Nat.reduceBEq, A131, A131p, lv]
  refine go_rounds (fun q st => ∃ i : Nat, q = l.length - i ∧ i ≤ l.length ∧ (l.take i).all wfE = true ∧ eget st.env 1 = some (.op nx 0) ∧ eget st.env 3 = some (.int .i64 i) ∧ hget st.heap nx = some (.cells [.int .u8 6, .str n, .str f, .int .i64 w, exsA l, smsA b, smsA e]) ∧ st.dm = []) (n := l.length) mixed
    ⟨0, rfl, by omega, by simp, by simp [eget], by simp [eget], by simp [hget], rfl⟩ ?_
  rintro q ⟨env, heap, nx', dm⟩ ⟨i, rfl, hi, hall, g1, g3, gh, hdm⟩
  simp only at g1 g3 gh hdm
  subst hdm
  have f1 : IntKind.i64.wrap ((i : Int) + 1) = ((i + 1 : Nat) : Int) := by rw [w64 (by omega) (by omega)]; omega
  by_cases hc : (i : Int) < (l.length : Int)
  case pos =>
    have hr := List.getElem?_eq_getElem (show i < l.length by omega)
    generalize l[i] = r at hr
    have ix := exs_idx hr
    have hmem := List.mem_of_getElem? hr
    have rl := ex_len r
    have rt := ex_take r
    simp -implicitDefEqProofs only [RR, RE, RP, RG, takeV, reduceEqDiff, ↓reduceIte, reduceCtorEq, reduceAdd, reduceLeDiff, reduceLT, Nat.reduceBEq, A131l0, A131l0p, g1, g3, gh, lv, hc, ix, rl, rt]
    refine (cE r hmem).use fun n1 hn1 => ?_
    cases hw : wfE r with
    | false =>
      have ee : wfS (.mk 6 n f w l b e) = false := by
        have : l.all wfE = false := by rw [List.all_eq_false]; exact ⟨r, hmem, by simp [hw]⟩
        simp [wfS_eq, this]
      simp -implicitDefEqProofs only [RR, RE, RP, RG, takeV, reduceEqDiff, ↓reduceIte, reduceCtorEq, reduceAdd, reduceLeDiff, reduceLT, Nat.reduceBEq, g1, g3, gh, hw, unA, ee, R131]
    | true =>
      have hall2 : (l.take (i + 1)).all wfE = true := by rw [take_succ hr, List.all_append, hall]; simp [hw]
      simp -implicitDefEqProofs only [RR, RE, RP, RG, takeV, reduceEqDiff, ↓reduceIte, reduceCtorEq, reduceAdd, reduceLeDiff, reduceLT, Nat.reduceBEq, g1, g3, gh, hw, unA, f1]
      refine ⟨l.length - (i + 1), by omega, i + 1, ?_⟩
      repeat' apply And.intro
      all_goals first | assumption | rfl | omega | (simp [eget, *]; done)
  have ha : l.all wfE = true := by
    have ht : l.take i = l := List.take_of_length_le (by omega)
    rw [ht] at hall; exact hall
  clear cE
  have i0 := ilen l 0 0 rfl
  have i1 := ilen l 1 1 rfl
  have i2 := ilen l 2 2 rfl
  have b0 := ilen b 0 0 rfl
  have e0 := ilen e 0 0 rfl
  have b1 := ipos b
  have e1 := ipos e
  have l8 := imin l
  have l9 := ile1 l
  cases hba : (b.all wfS)
  rotate_left
  cases hea : (e.all wfS)
  rotate_left
  all_goals rcases dec_cases (b.length = 0) with ⟨-, hnb⟩ | ⟨-, hnb⟩
  all_goals rcases dec_cases (e.length = 0) with ⟨-, hne⟩ | ⟨-, hne⟩
  all_goals
    rcases ced_cases (w = 0) with ⟨-, hw⟩ | ⟨-, hw⟩
    rotate_left
    cases hfe : (f == [])
    rotate_left
    cases hn : (n == [])
    rotate_left
    rcases ced_cases (l.length = 0) with ⟨-, hl⟩ | ⟨-, hl⟩
    rotate_left
    all_goals simp -implicitDefEqProofs only [RR, RE, RP, RG, takeV, reduceEqDiff, ↓reduceIte, reduceCtorEq, reduceAdd, reduceLeDiff, reduceLT, Nat.reduceBEq, A131l0, A131l0p, R131, b_str, strA, if_false, Int.reduceEq, unA, not_false_eq_true, not_true_eq_false, Bool.false_eq_true, *]
    all_goals repeat' ((first | refine cB.use fun _ _ => ?_ | refine cC.use fun _ _ => ?_ | refine (w97 n hn1).use fun _ _ => ?_ | refine (w97 f hf1).use fun _ _ => ?_ | refine (w96 w).use fun _ _ => ?_); simp -implicitDefEqProofs only [RR, RE, RP, RG, takeV, reduceEqDiff, ↓reduceIte, reduceCtorEq, reduceAdd, reduceLeDiff, reduceLT, Nat.reduceBEq, R131, b_str, strA, if_false, Int.reduceEq, unA, not_false_eq_true, not_true_eq_false, Bool.false_eq_true, *])
    all_goals simp [wfS_eq, wfM, *]
set_option maxHeartbeats 4000000 in
theorem w131_7 (w : Int) (n f : Nm) (l : List Ex) (b e : List Sm) (hn1 : n.length ≤ 100000) (hf1 : f.length ≤ 100000) (hB : nodesL l ≤ 1152921504606846976) (cE : ∀ r ∈ l, Pure Tryz.prog 47 [.agg (exE r)] (.bool (wfE r))) (cB : Pure Tryz.prog 104 [smsA b] (.bool (b.all wfS))) (cC : Pure Tryz.prog 104 [smsA e] (.bool (e.all wfS))) :
    Pure Tryz.prog 131 [.agg (smE (.mk 7 n f w l b e))] (.bool (wfS (.mk 7 n f w l b e))) := by
  have hsl := nodesL_len l
  have lv := exs_len l
  have lb := sms_len b
  have lee := sms_len e
  refine Pure.of fun nx => AC.go mixed is131 (by simp) ?_
  have gq : True := trivial
  rw [sm_mk]
  simp -implicitDefEqProofs only [RR, RE, RP, RG, takeV, reduceEqDiff, ↓reduceIte, reduceCtorEq, reduceAdd, reduceLeDiff, reduceLT, Nat.reduceBEq, A131, A131p, lv]
  refine go_rounds (fun q st => ∃ i : Nat, q = l.length - i ∧ i ≤ l.length ∧ (l.take i).all wfE = true ∧ eget st.env 1 = some (.op nx 0) ∧ eget st.env 3 = some (.int .i64 i) ∧ hget st.heap nx = some (.cells [.int .u8 7, .str n, .str f, .int .i64 w, exsA l, smsA b, smsA e]) ∧ st.dm = []) (n := l.length) mixed
    ⟨0, rfl, by omega, by simp, by simp [eget], by simp [eget], by simp [hget], rfl⟩ ?_
  rintro q ⟨env, heap, nx', dm⟩ ⟨i, rfl, hi, hall, g1, g3, gh, hdm⟩
  simp only at g1 g3 gh hdm
  subst hdm
  have f1 : IntKind.i64.wrap ((i : Int) + 1) = ((i + 1 : Nat) : Int) := by rw [w64 (by omega) (by omega)]; omega
  by_cases hc : (i : Int) < (l.length : Int)
  case pos =>
    have hr := List.getElem?_eq_getElem (show i < l.length by omega)
    generalize l[i] = r at hr
    have ix := exs_idx hr
    have hmem := List.mem_of_getElem? hr
    have rl := ex_len r
    have rt := ex_take r
    simp -implicitDefEqProofs only [RR, RE, RP, RG, takeV, reduceEqDiff, ↓reduceIte, reduceCtorEq, reduceAdd, reduceLeDiff, reduceLT, Nat.reduceBEq, A131l0, A131l0p, g1, g3, gh, lv, hc, ix, rl, rt]
    refine (cE r hmem).use fun n1 hn1 => ?_
    cases hw : wfE r with
    | false =>
      have ee : wfS (.mk 7 n f w l b e) = false := by
        have : l.all wfE = false := by rw [List.all_eq_false]; exact ⟨r, hmem, by simp [hw]⟩
        simp [wfS_eq, this]
      simp -implicitDefEqProofs only [RR, RE, RP, RG, takeV, reduceEqDiff, ↓reduceIte, reduceCtorEq, reduceAdd, reduceLeDiff, reduceLT, Nat.reduceBEq, g1, g3, gh, hw, unA, ee, R131]
    | true =>
      have hall2 : (l.take (i + 1)).all wfE = true := by rw [take_succ hr, List.all_append, hall]; simp [hw]
      simp -implicitDefEqProofs only [RR, RE, RP, RG, takeV, reduceEqDiff, ↓reduceIte, reduceCtorEq, reduceAdd, reduceLeDiff, reduceLT, Nat.reduceBEq, g1, g3, gh, hw, unA, f1]
      refine ⟨l.length - (i + 1), by omega, i + 1, ?_⟩
      repeat' apply And.intro
      all_goals first | assumption | rfl | omega | (simp [eget, *]; done)
  have ha : l.all wfE = true := by
    have ht : l.take i = l := List.take_of_length_le (by omega)
    rw [ht] at hall; exact hall
  clear cE
  have i0 := ilen l 0 0 rfl
  have i1 := ilen l 1 1 rfl
  have i2 := ilen l 2 2 rfl
  have b0 := ilen b 0 0 rfl
  have e0 := ilen e 0 0 rfl
  have b1 := ipos b
  have e1 := ipos e
  have l8 := imin l
  have l9 := ile1 l
  cases hba : (b.all wfS)
  rotate_left
  cases hea : (e.all wfS)
  rotate_left
  all_goals rcases dec_cases (b.length = 0) with ⟨-, hnb⟩ | ⟨-, hnb⟩
  all_goals rcases dec_cases (e.length = 0) with ⟨-, hne⟩ | ⟨-, hne⟩
  all_goals
    rcases ced_cases (w = 0) with ⟨-, hw⟩ | ⟨-, hw⟩
    rotate_left
    cases hfe : (f == [])
    rotate_left
    cases hn : (n == [])
    rotate_left
    rcases ced_cases (l.length = 1) with ⟨-, hl⟩ | ⟨-, hl⟩
    rotate_left
    all_goals simp -implicitDefEqProofs only [RR, RE, RP, RG, takeV, reduceEqDiff, ↓reduceIte, reduceCtorEq, reduceAdd, reduceLeDiff, reduceLT, Nat.reduceBEq, A131l0, A131l0p, R131, b_str, strA, if_false, Int.reduceEq, unA, not_false_eq_true, not_true_eq_false, Bool.false_eq_true, *]
    all_goals repeat' ((first | refine cB.use fun _ _ => ?_ | refine cC.use fun _ _ => ?_ | refine (w97 n hn1).use fun _ _ => ?_ | refine (w97 f hf1).use fun _ _ => ?_ | refine (w96 w).use fun _ _ => ?_); simp -implicitDefEqProofs only [RR, RE, RP, RG, takeV, reduceEqDiff, ↓reduceIte, reduceCtorEq, reduceAdd, reduceLeDiff, reduceLT, Nat.reduceBEq, R131, b_str, strA, if_false, Int.reduceEq, unA, not_false_eq_true, not_true_eq_false, Bool.false_eq_true, *])
    all_goals simp [wfS_eq, wfM, *]
set_option maxHeartbeats 4000000 in
theorem w131_8 (w : Int) (n f : Nm) (l : List Ex) (b e : List Sm) (hn1 : n.length ≤ 100000) (hf1 : f.length ≤ 100000) (hB : nodesL l ≤ 1152921504606846976) (cE : ∀ r ∈ l, Pure Tryz.prog 47 [.agg (exE r)] (.bool (wfE r))) (cB : Pure Tryz.prog 104 [smsA b] (.bool (b.all wfS))) (cC : Pure Tryz.prog 104 [smsA e] (.bool (e.all wfS))) :
    Pure Tryz.prog 131 [.agg (smE (.mk 8 n f w l b e))] (.bool (wfS (.mk 8 n f w l b e))) := by
  have hsl := nodesL_len l
  have lv := exs_len l
  have lb := sms_len b
  have lee := sms_len e
  refine Pure.of fun nx => AC.go mixed is131 (by simp) ?_
  have gq : True := trivial
  rw [sm_mk]
  simp -implicitDefEqProofs only [RR, RE, RP, RG, takeV, reduceEqDiff, ↓reduceIte, reduceCtorEq, reduceAdd, reduceLeDiff, reduceLT, Nat.reduceBEq, A131, A131p, lv]
  refine go_rounds (fun q st => ∃ i : Nat, q = l.length - i ∧ i ≤ l.length ∧ (l.take i).all wfE = true ∧ eget st.env 1 = some (.op nx 0) ∧ eget st.env 3 = some (.int .i64 i) ∧ hget st.heap nx = some (.cells [.int .u8 8, .str n, .str f, .int .i64 w, exsA l, smsA b, smsA e]) ∧ st.dm = []) (n := l.length) mixed
    ⟨0, rfl, by omega, by simp, by simp [eget], by simp [eget], by simp [hget], rfl⟩ ?_
  rintro q ⟨env, heap, nx', dm⟩ ⟨i, rfl, hi, hall, g1, g3, gh, hdm⟩
  simp only at g1 g3 gh hdm
  subst hdm
  have f1 : IntKind.i64.wrap ((i : Int) + 1) = ((i + 1 : Nat) : Int) := by rw [w64 (by omega) (by omega)]; omega
  by_cases hc : (i : Int) < (l.length : Int)
  case pos =>
    have hr := List.getElem?_eq_getElem (show i < l.length by omega)
    generalize l[i] = r at hr
    have ix := exs_idx hr
    have hmem := List.mem_of_getElem? hr
    have rl := ex_len r
    have rt := ex_take r
    simp -implicitDefEqProofs only [RR, RE, RP, RG, takeV, reduceEqDiff, ↓reduceIte, reduceCtorEq, reduceAdd, reduceLeDiff, reduceLT, Nat.reduceBEq, A131l0, A131l0p, g1, g3, gh, lv, hc, ix, rl, rt]
    refine (cE r hmem).use fun n1 hn1 => ?_
    cases hw : wfE r with
    | false =>
      have ee : wfS (.mk 8 n f w l b e) = false := by
        have : l.all wfE = false := by rw [List.all_eq_false]; exact ⟨r, hmem, by simp [hw]⟩
        simp [wfS_eq, this]
      simp -implicitDefEqProofs only [RR, RE, RP, RG, takeV, reduceEqDiff, ↓reduceIte, reduceCtorEq, reduceAdd, reduceLeDiff, reduceLT, Nat.reduceBEq, g1, g3, gh, hw, unA, ee, R131]
    | true =>
      have hall2 : (l.take (i + 1)).all wfE = true := by rw [take_succ hr, List.all_append, hall]; simp [hw]
      simp -implicitDefEqProofs only [RR, RE, RP, RG, takeV, reduceEqDiff, ↓reduceIte, reduceCtorEq, reduceAdd, reduceLeDiff, reduceLT, Nat.reduceBEq, g1, g3, gh, hw, unA, f1]
      refine ⟨l.length - (i + 1), by omega, i + 1, ?_⟩
      repeat' apply And.intro
      all_goals first | assumption | rfl | omega | (simp [eget, *]; done)
  have ha : l.all wfE = true := by
    have ht : l.take i = l := List.take_of_length_le (by omega)
    rw [ht] at hall; exact hall
  clear cE
  have i0 := ilen l 0 0 rfl
  have i1 := ilen l 1 1 rfl
  have i2 := ilen l 2 2 rfl
  have b0 := ilen b 0 0 rfl
  have e0 := ilen e 0 0 rfl
  have b1 := ipos b
  have e1 := ipos e
  have l8 := imin l
  have l9 := ile1 l
  cases hba : (b.all wfS)
  rotate_left
  cases hea : (e.all wfS)
  rotate_left
  all_goals rcases dec_cases (b.length = 0) with ⟨-, hnb⟩ | ⟨-, hnb⟩
  all_goals rcases dec_cases (e.length = 0) with ⟨-, hne⟩ | ⟨-, hne⟩
  all_goals
    rcases ced_cases (w = 0) with ⟨-, hw⟩ | ⟨-, hw⟩
    rotate_left
    cases hfe : (f == [])
    rotate_left
    cases hn : (n == [])
    rotate_left
    rcases ced_cases (l.length ≤ 1) with ⟨-, hl⟩ | ⟨-, hl⟩
    rotate_left
    all_goals simp -implicitDefEqProofs only [RR, RE, RP, RG, takeV, reduceEqDiff, ↓reduceIte, reduceCtorEq, reduceAdd, reduceLeDiff, reduceLT, Nat.reduceBEq, A131l0, A131l0p, R131, b_str, strA, if_false, Int.reduceEq, unA, not_false_eq_true, not_true_eq_false, Bool.false_eq_true, *]
    all_goals repeat' ((first | refine cB.use fun _ _ => ?_ | refine cC.use fun _ _ => ?_ | refine (w97 n hn1).use fun _ _ => ?_ | refine (w97 f hf1).use fun _ _ => ?_ | refine (w96 w).use fun _ _ => ?_); simp -implicitDefEqProofs only [RR, RE, RP, RG, takeV, reduceEqDiff, ↓reduceIte, reduceCtorEq, reduceAdd, reduceLeDiff, reduceLT, Nat.reduceBEq, R131, b_str, strA, if_false, Int.reduceEq, unA, not_false_eq_true, not_true_eq_false, Bool.false_eq_true, *])
    all_goals simp [wfS_eq, wfM, *]
set_option maxHeartbeats 4000000 in
theorem w131_9 (w : Int) (n f : Nm) (l : List Ex) (b e : List Sm) (hn1 : n.length ≤ 100000) (hf1 : f.length ≤ 100000) (hB : nodesL l ≤ 1152921504606846976) (cE : ∀ r ∈ l, Pure Tryz.prog 47 [.agg (exE r)] (.bool (wfE r))) (cB : Pure Tryz.prog 104 [smsA b] (.bool (b.all wfS))) (cC : Pure Tryz.prog 104 [smsA e] (.bool (e.all wfS))) :
    Pure Tryz.prog 131 [.agg (smE (.mk 9 n f w l b e))] (.bool (wfS (.mk 9 n f w l b e))) := by
  have hsl := nodesL_len l
  have lv := exs_len l
  have lb := sms_len b
  have lee := sms_len e
  refine Pure.of fun nx => AC.go mixed is131 (by simp) ?_
  have gq : True := trivial
  rw [sm_mk]
  simp -implicitDefEqProofs only [RR, RE, RP, RG, takeV, reduceEqDiff, ↓reduceIte, reduceCtorEq, reduceAdd, reduceLeDiff, reduceLT, Nat.reduceBEq, A131, A131p, lv]
  refine go_rounds (fun q st => ∃ i : Nat, q = l.length - i ∧ i ≤ l.length ∧ (l.take i).all wfE = true ∧ eget st.env 1 = some (.op nx 0) ∧ eget st.env 3 = some (.int .i64 i) ∧ hget st.heap nx = some (.cells [.int .u8 9, .str n, .str f, .int .i64 w, exsA l, smsA b, smsA e]) ∧ st.dm = []) (n := l.length) mixed
    ⟨0, rfl, by omega, by simp, by simp [eget], by simp [eget], by simp [hget], rfl⟩ ?_
  rintro q ⟨env, heap, nx', dm⟩ ⟨i, rfl, hi, hall, g1, g3, gh, hdm⟩
  simp only at g1 g3 gh hdm
  subst hdm
  have f1 : IntKind.i64.wrap ((i : Int) + 1) = ((i + 1 : Nat) : Int) := by rw [w64 (by omega) (by omega)]; omega
  by_cases hc : (i : Int) < (l.length : Int)
  case pos =>
    have hr := List.getElem?_eq_getElem (show i < l.length by omega)
    generalize l[i] = r at hr
    have ix := exs_idx hr
    have hmem := List.mem_of_getElem? hr
    have rl := ex_len r
    have rt := ex_take r
    simp -implicitDefEqProofs only [RR, RE, RP, RG, takeV, reduceEqDiff, ↓reduceIte, reduceCtorEq, reduceAdd, reduceLeDiff, reduceLT, Nat.reduceBEq, A131l0, A131l0p, g1, g3, gh, lv, hc, ix, rl, rt]
    refine (cE r hmem).use fun n1 hn1 => ?_
    cases hw : wfE r with
    | false =>
      have ee : wfS (.mk 9 n f w l b e) = false := by
        have : l.all wfE = false := by rw [List.all_eq_false]; exact ⟨r, hmem, by simp [hw]⟩
        simp [wfS_eq, this]
      simp -implicitDefEqProofs only [RR, RE, RP, RG, takeV, reduceEqDiff, ↓reduceIte, reduceCtorEq, reduceAdd, reduceLeDiff, reduceLT, Nat.reduceBEq, g1, g3, gh, hw, unA, ee, R131]
    | true =>
      have hall2 : (l.take (i + 1)).all wfE = true := by rw [take_succ hr, List.all_append, hall]; simp [hw]
      simp -implicitDefEqProofs only [RR, RE, RP, RG, takeV, reduceEqDiff, ↓reduceIte, reduceCtorEq, reduceAdd, reduceLeDiff, reduceLT, Nat.reduceBEq, g1, g3, gh, hw, unA, f1]
      refine ⟨l.length - (i + 1), by omega, i + 1, ?_⟩
      repeat' apply And.intro
      all_goals first | assumption | rfl | omega | (simp [eget, *]; done)
  have ha : l.all wfE = true := by
    have ht : l.take i = l := List.take_of_length_le (by omega)
    rw [ht] at hall; exact hall
  clear cE
  have i0 := ilen l 0 0 rfl
  have i1 := ilen l 1 1 rfl
  have i2 := ilen l 2 2 rfl
  have b0 := ilen b 0 0 rfl
  have e0 := ilen e 0 0 rfl
  have b1 := ipos b
  have e1 := ipos e
  have l8 := imin l
  have l9 := ile1 l
  cases hba : (b.all wfS)
  rotate_left
  cases hea : (e.all wfS)
  rotate_left
  all_goals rcases dec_cases (b.length = 0) with ⟨-, hnb⟩ | ⟨-, hnb⟩
  all_goals rcases dec_cases (e.length = 0) with ⟨-, hne⟩ | ⟨-, hne⟩
  all_goals
    cases hn : (n == [])
    all_goals cases hm : (isNm n)
    all_goals
      rcases ced_cases (w = 0) with ⟨-, hw⟩ | ⟨-, hw⟩
      rotate_left
      cases hf : (isNm f)
      rotate_left
      all_goals simp -implicitDefEqProofs only [RR, RE, RP, RG, takeV, reduceEqDiff, ↓reduceIte, reduceCtorEq, reduceAdd, reduceLeDiff, reduceLT, Nat.reduceBEq, A131l0, A131l0p, R131, b_str, strA, if_false, Int.reduceEq, unA, not_false_eq_true, not_true_eq_false, Bool.false_eq_true, *]
      all_goals repeat' ((first | refine cB.use fun _ _ => ?_ | refine cC.use fun _ _ => ?_ | refine (w97 n hn1).use fun _ _ => ?_ | refine (w97 f hf1).use fun _ _ => ?_ | refine (w96 w).use fun _ _ => ?_); simp -implicitDefEqProofs only [RR, RE, RP, RG, takeV, reduceEqDiff, ↓reduceIte, reduceCtorEq, reduceAdd, reduceLeDiff, reduceLT, Nat.reduceBEq, R131, b_str, strA, if_false, Int.reduceEq, unA, not_false_eq_true, not_true_eq_false, Bool.false_eq_true, *])
      all_goals simp [wfS_eq, wfM, *]
set_option maxHeartbeats 4000000 in
theorem w131_k (k w : Int) (n f : Nm) (l : List Ex) (b e : List Sm) (hn1 : n.length ≤ 100000) (hf1 : f.length ≤ 100000) (hB : nodesL l ≤ 1152921504606846976) (cE : ∀ r ∈ l, Pure Tryz.prog 47 [.agg (exE r)] (.bool (wfE r))) (cB : Pure Tryz.prog 104 [smsA b] (.bool (b.all wfS))) (cC : Pure Tryz.prog 104 [smsA e] (.bool (e.all wfS))) (hk1 : k ≠ 1) (hk2 : k ≠ 2) (hk3 : k ≠ 3) (hk4 : k ≠ 4) (hk5 : k ≠ 5) (hk6 : k ≠ 6) (hk7 : k ≠ 7) (hk8 : k ≠ 8) (hk9 : k ≠ 9) :
    Pure Tryz.prog 131 [.agg (smE (.mk k n f w l b e))] (.bool (wfS (.mk k n f w l b e))) := by
  have hsl := nodesL_len l
  have lv := exs_len l
  have lb := sms_len b
  have lee := sms_len e
  refine Pure.of fun nx => AC.go mixed is131 (by simp) ?_
  have gq : True := trivial
  rw [sm_mk]
  simp -implicitDefEqProofs only [RR, RE, RP, RG, takeV, reduceEqDiff, ↓reduceIte, reduceCtorEq, reduceAdd, reduceLeDiff, reduceLT, Nat.reduceBEq, A131, A131p, lv]
  refine go_rounds (fun q st => ∃ i : Nat, q = l.length - i ∧ i ≤ l.length ∧ (l.take i).all wfE = true ∧ eget st.env 1 = some (.op nx 0) ∧ eget st.env 3 = some (.int .i64 i) ∧ hget st.heap nx = some (.cells [.int .u8 k, .str n, .str f, .int .i64 w, exsA l, smsA b, smsA e]) ∧ st.dm = []) (n := l.length) mixed
    ⟨0, rfl, by omega, by simp, by simp [eget], by simp [eget], by simp [hget], rfl⟩ ?_
  rintro q ⟨env, heap, nx', dm⟩ ⟨i, rfl, hi, hall, g1, g3, gh, hdm⟩
  simp only at g1 g3 gh hdm
  subst hdm
  have f1 : IntKind.i64.wrap ((i : Int) + 1) = ((i + 1 : Nat) : Int) := by rw [w64 (by omega) (by omega)]; omega
  by_cases hc : (i : Int) < (l.length : Int)
  case pos =>
    have hr := List.getElem?_eq_getElem (show i < l.length by omega)
    generalize l[i] = r at hr
    have ix := exs_idx hr
    have hmem := List.mem_of_getElem? hr
    have rl := ex_len r
    have rt := ex_take r
    simp -implicitDefEqProofs only [RR, RE, RP, RG, takeV, reduceEqDiff, ↓reduceIte, reduceCtorEq, reduceAdd, reduceLeDiff, reduceLT, Nat.reduceBEq, A131l0, A131l0p, g1, g3, gh, lv, hc, ix, rl, rt]
    refine (cE r hmem).use fun n1 hn1 => ?_
    cases hw : wfE r with
    | false =>
      have ee : wfS (.mk k n f w l b e) = false := by
        have : l.all wfE = false := by rw [List.all_eq_false]; exact ⟨r, hmem, by simp [hw]⟩
        simp [wfS_eq, this]
      simp -implicitDefEqProofs only [RR, RE, RP, RG, takeV, reduceEqDiff, ↓reduceIte, reduceCtorEq, reduceAdd, reduceLeDiff, reduceLT, Nat.reduceBEq, g1, g3, gh, hw, unA, ee, R131]
    | true =>
      have hall2 : (l.take (i + 1)).all wfE = true := by rw [take_succ hr, List.all_append, hall]; simp [hw]
      simp -implicitDefEqProofs only [RR, RE, RP, RG, takeV, reduceEqDiff, ↓reduceIte, reduceCtorEq, reduceAdd, reduceLeDiff, reduceLT, Nat.reduceBEq, g1, g3, gh, hw, unA, f1]
      refine ⟨l.length - (i + 1), by omega, i + 1, ?_⟩
      repeat' apply And.intro
      all_goals first | assumption | rfl | omega | (simp [eget, *]; done)
  have ha : l.all wfE = true := by
    have ht : l.take i = l := List.take_of_length_le (by omega)
    rw [ht] at hall; exact hall
  clear cE
  have i0 := ilen l 0 0 rfl
  have i1 := ilen l 1 1 rfl
  have i2 := ilen l 2 2 rfl
  have b0 := ilen b 0 0 rfl
  have e0 := ilen e 0 0 rfl
  have b1 := ipos b
  have e1 := ipos e
  have l8 := imin l
  have l9 := ile1 l
  have kd1 : (k = 1) = False := eq_false hk1
  have kd2 : (k = 2) = False := eq_false hk2
  have kd3 : (k = 3) = False := eq_false hk3
  have kd4 : (k = 4) = False := eq_false hk4
  have kd5 : (k = 5) = False := eq_false hk5
  have kd6 : (k = 6) = False := eq_false hk6
  have kd7 : (k = 7) = False := eq_false hk7
  have kd8 : (k = 8) = False := eq_false hk8
  have kd9 : (k = 9) = False := eq_false hk9
  cases hba : (b.all wfS)
  rotate_left
  cases hea : (e.all wfS)
  rotate_left
  all_goals rcases dec_cases (b.length = 0) with ⟨-, hnb⟩ | ⟨-, hnb⟩
  all_goals rcases dec_cases (e.length = 0) with ⟨-, hne⟩ | ⟨-, hne⟩
  all_goals
    rcases ced_cases (w = 0) with ⟨-, hw⟩ | ⟨-, hw⟩
    rotate_left
    cases hfe : (f == [])
    rotate_left
    all_goals simp -implicitDefEqProofs only [RR, RE, RP, RG, takeV, reduceEqDiff, ↓reduceIte, reduceCtorEq, reduceAdd, reduceLeDiff, reduceLT, Nat.reduceBEq, A131l0, A131l0p, R131, b_str, strA, if_false, Int.reduceEq, unA, not_false_eq_true, not_true_eq_false, Bool.false_eq_true, *]
    all_goals repeat' ((first | refine cB.use fun _ _ => ?_ | refine cC.use fun _ _ => ?_ | refine (w97 n hn1).use fun _ _ => ?_ | refine (w97 f hf1).use fun _ _ => ?_ | refine (w96 w).use fun _ _ => ?_); simp -implicitDefEqProofs only [RR, RE, RP, RG, takeV, reduceEqDiff, ↓reduceIte, reduceCtorEq, reduceAdd, reduceLeDiff, reduceLT, Nat.reduceBEq, R131, b_str, strA, if_false, Int.reduceEq, unA, not_false_eq_true, not_true_eq_false, Bool.false_eq_true, *])
    all_goals simp [wfS_eq, wfM, *]
theorem w104 (l : List Sm) (hl : l.length ≤ 4611686018427387904) (hp : ∀ x ∈ l, Pure Tryz.prog 131 [.agg (smE x)] (.bool (wfS x))) : Pure Tryz.prog 104 [smsA l] (.bool (l.all wfS)) := by
  have lv := sms_len l
  refine Pure.of fun nx => AC.go mixed is104 (by simp) ?_
  simp -implicitDefEqProofs only [RR, RE, RP, RG, takeV, reduceEqDiff, ↓reduceIte, reduceCtorEq, reduceAdd, reduceLeDiff, reduceLT, Nat.reduceBEq, A104, A104p]
  refine go_rounds (fun q st => ∃ i : Nat, q = l.length - i ∧ i ≤ l.length ∧ (l.take i).all wfS = true ∧ eget st.env 0 = some (smsA l) ∧ eget st.env 3 = some (.int .i64 i) ∧ st.dm = []) (n := l.length) mixed
    ⟨0, rfl, by omega, by simp, by simp [eget], by simp [eget], rfl⟩ ?_
  rintro q ⟨env, heap, nx', dm⟩ ⟨i, rfl, hi, hall, g0, g3, hdm⟩
  simp only at g0 g3 hdm
  subst hdm
  have f1 : IntKind.i64.wrap ((i : Int) + 1) = ((i + 1 : Nat) : Int) := by rw [w64 (by omega) (by omega)]; omega
  by_cases hc : (i : Int) < (l.length : Int)
  case neg =>
    have ha : l.all wfS = true := by
      have ht : l.take i = l := List.take_of_length_le (by omega)
      rw [ht] at hall; exact hall
    simp -implicitDefEqProofs only [RR, RE, RP, RG, takeV, reduceEqDiff, ↓reduceIte, reduceCtorEq, reduceAdd, reduceLeDiff, reduceLT, Nat.reduceBEq, A104l0, A104l0p, g0, g3, lv, hc, ha, R104]
  have hr := List.getElem?_eq_getElem (show i < l.length by omega)
  generalize l[i] = r at hr
  have ix := sms_idx hr
  have hmem := List.mem_of_getElem? hr
  have rl := sm_len r
  have rt := sm_take r
  simp -implicitDefEqProofs only [RR, RE, RP, RG, takeV, reduceEqDiff, ↓reduceIte, reduceCtorEq, reduceAdd, reduceLeDiff, reduceLT, Nat.reduceBEq, A104l0, A104l0p, g0, g3, lv, hc, ix, rl, rt]
  refine (hp r hmem).use fun n1 hn1 => ?_
  cases hw : wfS r with
  | false =>
    have ee : l.all wfS = false := by rw [List.all_eq_false]; exact ⟨r, hmem, by simp [hw]⟩
    simp -implicitDefEqProofs only [RR, RE, RP, RG, takeV, reduceEqDiff, ↓reduceIte, reduceCtorEq, reduceAdd, reduceLeDiff, reduceLT, Nat.reduceBEq, g0, g3, hw, unA, ee, R104]
  | true =>
    have hall2 : (l.take (i + 1)).all wfS = true := by rw [take_succ hr, List.all_append, hall]; simp [hw]
    simp -implicitDefEqProofs only [RR, RE, RP, RG, takeV, reduceEqDiff, ↓reduceIte, reduceCtorEq, reduceAdd, reduceLeDiff, reduceLT, Nat.reduceBEq, g0, g3, hw, unA, f1]
    refine ⟨l.length - (i + 1), by omega, i + 1, ?_⟩
    repeat' apply And.intro
    all_goals first | assumption | rfl | omega | (simp [eget, *]; done)
theorem w131 : ∀ (m : Nat) (x : Sm), stmts x ≤ m → stmts x ≤ 4611686018427387904 → shS x → Pure Tryz.prog 131 [.agg (smE x)] (.bool (wfS x)) := by
  intro m
  induction m with
  | zero => intro x hx; have := stmts_pos x; omega
  | succ m ih =>
    rintro ⟨k, n, f, w, l, b, e⟩ hm hB hsh
    simp only [stmts] at hm hB
    simp only [shS] at hsh
    obtain ⟨h1, h2, h3, h4, h5, h6⟩ := hsh
    have hlb := stmtsL_len b
    have hle := stmtsL_len e
    have cE : ∀ r ∈ l, Pure Tryz.prog 47 [.agg (exE r)] (.bool (wfE r)) := fun x hx => w47 _ x (Nat.le_refl _) (by have := nodesL_memb hx; omega) (shEL_mem h3 x hx)
    have cB : Pure Tryz.prog 104 [smsA b] (.bool (b.all wfS)) := w104 b (by omega) fun x hx => ih x (by have := stmtsL_mem hx; omega) (by have := stmtsL_mem hx; omega) (shSL_mem h5 x hx)
    have cC : Pure Tryz.prog 104 [smsA e] (.bool (e.all wfS)) := w104 e (by omega) fun x hx => ih x (by have := stmtsL_mem hx; omega) (by have := stmtsL_mem hx; omega) (shSL_mem h6 x hx)
    by_cases hk1 : k = 1
    · subst hk1; exact w131_1 w n f l b e h1 h2 h4 cE cB cC
    by_cases hk2 : k = 2
    · subst hk2; exact w131_2 w n f l b e h1 h2 h4 cE cB cC
    by_cases hk3 : k = 3
    · subst hk3; exact w131_3 w n f l b e h1 h2 h4 cE cB cC
    by_cases hk4 : k = 4
    · subst hk4; exact w131_4 w n f l b e h1 h2 h4 cE cB cC
    by_cases hk5 : k = 5
    · subst hk5; exact w131_5 w n f l b e h1 h2 h4 cE cB cC
    by_cases hk6 : k = 6
    · subst hk6; exact w131_6 w n f l b e h1 h2 h4 cE cB cC
    by_cases hk7 : k = 7
    · subst hk7; exact w131_7 w n f l b e h1 h2 h4 cE cB cC
    by_cases hk8 : k = 8
    · subst hk8; exact w131_8 w n f l b e h1 h2 h4 cE cB cC
    by_cases hk9 : k = 9
    · subst hk9; exact w131_9 w n f l b e h1 h2 h4 cE cB cC
    exact w131_k k w n f l b e h1 h2 h4 cE cB cC hk1 hk2 hk3 hk4 hk5 hk6 hk7 hk8 hk9
end Go.Proofs.YtgeieafamocnhaaGreatDoor
