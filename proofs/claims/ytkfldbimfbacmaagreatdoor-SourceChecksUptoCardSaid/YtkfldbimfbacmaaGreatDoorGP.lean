/- Programs compared: Same. -/
import Derived.Test.YtkfldbimfbacmaaGreatDoorGO
namespace Go.Proofs.YtkfldbimfbacmaaGreatDoor
open Go Go.Ab Go.Proofs
open Nat (reduceEqDiff reduceAdd reduceLeDiff reduceLT)
set_option linter.unusedVariables false
set_option linter.unusedSimpArgs false
set_option maxRecDepth 20000
theorem beqN (a b : Nm) : (a == b) = decide (a = b) := by by_cases h : a = b <;> simp [h]
theorem bneN (a b : Nm) : (a != b) = !decide (a = b) := by by_cases h : a = b <;> simp [h]
mutual
def sameE : Ex → Ex → Bool
  | .mk k w b n o s, .mk k' w' b' n' o' s' => decide (k = k') && (decide (w = w') && (decide (b = b') && (decide (n = n') && (decide (o = o') && sameEs s s'))))
def sameEs : List Ex → List Ex → Bool
  | [], [] => true
  | x :: a, y :: b => sameE x y && sameEs a b
  | [], _ :: _ => false
  | _ :: _, [] => false
end
theorem sameEs_all : ∀ a b, sameEs a b = eqAll sameE a b
  | [], [] => by simp [sameEs, eqAll]
  | x :: a, y :: b => by simp [sameEs, eqAll, sameEs_all a b]
  | [], _ :: _ => by simp [sameEs, eqAll]
  | _ :: _, [] => by simp [sameEs, eqAll]
theorem sameE_mk (k w b : Int) (n : Nm) (o : Int) (s : List Ex) (k' w' b' : Int) (n' : Nm) (o' : Int) (s' : List Ex) : sameE (.mk k w b n o s) (.mk k' w' b' n' o' s') =
    (decide (k = k') && (decide (w = w') && (decide (b = b') && (decide (n = n') && (decide (o = o') && eqAll sameE s s'))))) := by rw [sameE, sameEs_all]
mutual
def sameS : Sm → Sm → Bool
  | .mk k n f w l b e, .mk k' n' f' w' l' b' e' => decide (k = k') && (decide (n = n') && (decide (f = f') && (decide (w = w') && (eqAll sameE l l' && (sameSs b b' && sameSs e e')))))
def sameSs : List Sm → List Sm → Bool
  | [], [] => true
  | x :: a, y :: b => sameS x y && sameSs a b
  | [], _ :: _ => false
  | _ :: _, [] => false
end
theorem sameSs_all : ∀ a b, sameSs a b = eqAll sameS a b
  | [], [] => by simp [sameSs, eqAll]
  | x :: a, y :: b => by simp [sameSs, eqAll, sameSs_all a b]
  | [], _ :: _ => by simp [sameSs, eqAll]
  | _ :: _, [] => by simp [sameSs, eqAll]
theorem sameS_mk (k : Int) (n f : Nm) (w : Int) (l : List Ex) (b e : List Sm) (k' : Int) (n' f' : Nm) (w' : Int) (l' : List Ex) (b' e' : List Sm) : sameS (.mk k n f w l b e) (.mk k' n' f' w' l' b' e') =
    (decide (k = k') && (decide (n = n') && (decide (f = f') && (decide (w = w') && (eqAll sameE l l' && (eqAll sameS b b' && eqAll sameS e e')))))) := by rw [sameS, sameSs_all, sameSs_all]
def sameP (x y : Pm) : Bool := decide (x.1 = y.1) && decide (x.2 = y.2)
def sameA (x y : Ar) : Bool := decide (x.name = y.name) && (decide (x.width = y.width) && decide (x.len = y.len))
def sameF (x y : Fu) : Bool := decide (x.name = y.name) && (decide (x.result = y.result) && (eqAll sameP x.params y.params && eqAll sameS x.body y.body))
def sameR (p q : Pr) : Bool := eqAll sameA p.arrays q.arrays && eqAll sameF p.funcs q.funcs
mutual
theorem sameE_self : ∀ x : Ex, sameE x x = true
  | .mk k w b n o s => by simp [sameE, sameEs_self s]
theorem sameEs_self : ∀ l : List Ex, sameEs l l = true
  | [] => by simp [sameEs]
  | x :: r => by simp [sameEs, sameE_self x, sameEs_self r]
end
theorem eqAll_self {α : Type} {r : α → α → Bool} (h : ∀ x, r x x = true) : ∀ l : List α, eqAll r l l = true
  | [] => rfl
  | x :: l => by simp [eqAll, h x, eqAll_self h l]
mutual
theorem sameS_self : ∀ x : Sm, sameS x x = true
  | .mk k n f w l b e => by simp [sameS, eqAll_self sameE_self l, sameSs_self b, sameSs_self e]
theorem sameSs_self : ∀ l : List Sm, sameSs l l = true
  | [] => by simp [sameSs]
  | x :: r => by simp [sameSs, sameS_self x, sameSs_self r]
end
theorem sameR_self (p : Pr) : sameR p p = true := by
  simp only [sameR, eqAll_self (r := sameA) (fun x => by simp [sameA]) p.arrays, eqAll_self (r := sameF) (fun x => by simp [sameF, eqAll_self (r := sameP) (fun x => by simp [sameP]), eqAll_self sameS_self]) p.funcs, Bool.and_self]
theorem szEL_len : ∀ l : List Ex, l.length ≤ szEL l
  | [] => by simp
  | x :: r => by have := szEL_len r; have := szE_eq x; simp only [List.length_cons, szEL]; omega
theorem szSL_len : ∀ l : List Sm, l.length ≤ szSL l
  | [] => by simp
  | x :: r => by have := szSL_len r; have := szS_eq x; simp only [List.length_cons, szSL]; omega
theorem is86q : Is Tryz.prog (fun _ _ => false) 86 32 (eqF 6 [.int .u8 0, .int .i64 0, .int .u64 0, .str [], .int .u8 0, .nilS]) [.tmp 6] := is86
theorem is57q : Is Tryz.prog (fun _ _ => false) 57 32 (eqF 7 [.int .u8 0, .str [], .str [], .int .i64 0, .nilS, .nilS, .nilS]) [.tmp 6] := is57
theorem is29q : Is Tryz.prog (fun _ _ => false) 29 32 (eqF 4 [.str [], .nilS, .int .i64 0, .nilS]) [.tmp 6] := is29
theorem is56q : Is Tryz.prog (fun _ _ => false) 56 26 (sqE 2 [.str, .int]) [.tmp 4] := is56
theorem is28q : Is Tryz.prog (fun _ _ => false) 28 26 (sqE 3 [.str, .int, .int]) [.tmp 4] := is28
theorem w87 : ∀ (N : Nat) (x y : Ex), szE x ≤ N → N ≤ 4000000 → Pure Tryz.prog 87 [.agg (exE x), .agg (exE y)] (.bool (sameE x y))
  | 0, x, y, h, _ => by have := szE_eq x; omega
  | N + 1, .mk k w b n o s, .mk k' w' b' n' o' s', h, hN => by
    have hs := szE_eq (.mk k w b n o s)
    simp only [Ex.name, Ex.sub] at hs
    have hl := szEL_len s
    have E := eqFunc mixed (by rfl) is86q exE exE s s' (fun x _ => ex_len x) (fun x _ => ex_len x) (by omega) 87 sameE fun x hx y _ => w87 N x y (by have := szEL_mem hx; omega) (by omega)
    refine Pure.of fun nx => AC.go mixed is87 (by simp) ?_
    have nn : (nx + 1 = nx) = False := eq_false (by omega)
    rw [sameE_mk, ex_mk, ex_mk]
    rcases dec_cases (k = k') with ⟨c1, d1⟩ | ⟨c1, d1⟩
    rcases dec_cases (w = w') with ⟨c2, d2⟩ | ⟨c2, d2⟩
    rcases dec_cases (b = b') with ⟨c3, d3⟩ | ⟨c3, d3⟩
    rcases dec_cases (n = n') with ⟨c4, d4⟩ | ⟨c4, d4⟩
    rcases dec_cases (o = o') with ⟨c5, d5⟩ | ⟨c5, d5⟩
    · simp -implicitDefEqProofs only [RR, RE, RP, RG, takeV, reduceEqDiff, ↓reduceIte, reduceCtorEq, reduceAdd, reduceLeDiff, reduceLT, Nat.reduceBEq, A87, A87p, b_str, strA, beqN, bneN, nn, d1, d2, d3, d4, d5]
      refine E.use fun n2 hn2 => ?_
      simp -implicitDefEqProofs only [RR, RE, RP, RG, takeV, reduceEqDiff, ↓reduceIte, reduceCtorEq, reduceAdd, reduceLeDiff, reduceLT, Nat.reduceBEq, R87, Bool.true_and]
    · simp -implicitDefEqProofs only [RR, RE, RP, RG, takeV, reduceEqDiff, ↓reduceIte, reduceCtorEq, reduceAdd, reduceLeDiff, reduceLT, Nat.reduceBEq, A87, A87p, b_str, strA, beqN, bneN, nn, d1, d2, d3, d4, d5, R87, Bool.false_and, Bool.true_and]
    · simp -implicitDefEqProofs only [RR, RE, RP, RG, takeV, reduceEqDiff, ↓reduceIte, reduceCtorEq, reduceAdd, reduceLeDiff, reduceLT, Nat.reduceBEq, A87, A87p, b_str, strA, beqN, bneN, nn, d1, d2, d3, d4, R87, Bool.false_and, Bool.true_and]
    · simp -implicitDefEqProofs only [RR, RE, RP, RG, takeV, reduceEqDiff, ↓reduceIte, reduceCtorEq, reduceAdd, reduceLeDiff, reduceLT, Nat.reduceBEq, A87, A87p, b_str, strA, beqN, bneN, nn, d1, d2, d3, R87, Bool.false_and, Bool.true_and]
    · simp -implicitDefEqProofs only [RR, RE, RP, RG, takeV, reduceEqDiff, ↓reduceIte, reduceCtorEq, reduceAdd, reduceLeDiff, reduceLT, Nat.reduceBEq, A87, A87p, b_str, strA, beqN, bneN, nn, d1, d2, R87, Bool.false_and, Bool.true_and]
    · simp -implicitDefEqProofs only [RR, RE, RP, RG, takeV, reduceEqDiff, ↓reduceIte, reduceCtorEq, reduceAdd, reduceLeDiff, reduceLT, Nat.reduceBEq, A87, A87p, b_str, strA, beqN, bneN, nn, d1, R87, Bool.false_and, Bool.true_and]
theorem w58 : ∀ (N : Nat) (x y : Sm), szS x ≤ N → N ≤ 4000000 → Pure Tryz.prog 58 [.agg (smE x), .agg (smE y)] (.bool (sameS x y))
  | 0, x, y, h, _ => by have := szS_eq x; omega
  | N + 1, .mk k n f w l b e, .mk k' n' f' w' l' b' e', h, hN => by
    have hs := szS_eq (.mk k n f w l b e)
    simp only [Sm.name, Sm.func, Sm.exprs, Sm.body, Sm.els] at hs
    have hl := szEL_len l
    have hb := szSL_len b
    have he := szSL_len e
    have E := eqFunc mixed (by rfl) is86q exE exE l l' (fun x _ => ex_len x) (fun x _ => ex_len x) (by omega) 87 sameE fun x hx y _ => w87 N x y (by have := szEL_mem hx; omega) (by omega)
    have B := eqFunc mixed (by rfl) is57q smE smE b b' (fun x _ => sm_len x) (fun x _ => sm_len x) (by omega) 58 sameS fun x hx y _ => w58 N x y (by have := szSL_mem hx; omega) (by omega)
    have G := eqFunc mixed (by rfl) is57q smE smE e e' (fun x _ => sm_len x) (fun x _ => sm_len x) (by omega) 58 sameS fun x hx y _ => w58 N x y (by have := szSL_mem hx; omega) (by omega)
    refine Pure.of fun nx => AC.go mixed is58 (by simp) ?_
    have nn : (nx + 1 = nx) = False := eq_false (by omega)
    rw [sameS_mk, sm_mk, sm_mk]
    rcases dec_cases (k = k') with ⟨c1, d1⟩ | ⟨c1, d1⟩
    rcases dec_cases (n = n') with ⟨c2, d2⟩ | ⟨c2, d2⟩
    rcases dec_cases (f = f') with ⟨c3, d3⟩ | ⟨c3, d3⟩
    rcases dec_cases (w = w') with ⟨c4, d4⟩ | ⟨c4, d4⟩
    · simp -implicitDefEqProofs only [RR, RE, RP, RG, takeV, reduceEqDiff, ↓reduceIte, reduceCtorEq, reduceAdd, reduceLeDiff, reduceLT, Nat.reduceBEq, A58, A58p, b_str, strA, beqN, bneN, nn, d1, d2, d3, d4]
      refine E.use fun n2 hn2 => ?_
      cases h1 : eqAll sameE l l' with
      | false => simp -implicitDefEqProofs only [RR, RE, RP, RG, takeV, reduceEqDiff, ↓reduceIte, reduceCtorEq, reduceAdd, reduceLeDiff, reduceLT, Nat.reduceBEq, R58, Bool.false_and, Bool.true_and]
      | true =>
        simp -implicitDefEqProofs only [RR, RE, RP, RG, takeV, reduceEqDiff, ↓reduceIte, reduceCtorEq, reduceAdd, reduceLeDiff, reduceLT, Nat.reduceBEq, nn]
        refine B.use fun n3 hn3 => ?_
        cases h2 : eqAll sameS b b' with
        | false => simp -implicitDefEqProofs only [RR, RE, RP, RG, takeV, reduceEqDiff, ↓reduceIte, reduceCtorEq, reduceAdd, reduceLeDiff, reduceLT, Nat.reduceBEq, R58, Bool.false_and, Bool.true_and]
        | true =>
          simp -implicitDefEqProofs only [RR, RE, RP, RG, takeV, reduceEqDiff, ↓reduceIte, reduceCtorEq, reduceAdd, reduceLeDiff, reduceLT, Nat.reduceBEq, nn]
          refine G.use fun n4 hn4 => ?_
          simp -implicitDefEqProofs only [RR, RE, RP, RG, takeV, reduceEqDiff, ↓reduceIte, reduceCtorEq, reduceAdd, reduceLeDiff, reduceLT, Nat.reduceBEq, R58, Bool.true_and]
    · simp -implicitDefEqProofs only [RR, RE, RP, RG, takeV, reduceEqDiff, ↓reduceIte, reduceCtorEq, reduceAdd, reduceLeDiff, reduceLT, Nat.reduceBEq, A58, A58p, b_str, strA, beqN, bneN, nn, d1, d2, d3, d4, R58, Bool.false_and, Bool.true_and]
    · simp -implicitDefEqProofs only [RR, RE, RP, RG, takeV, reduceEqDiff, ↓reduceIte, reduceCtorEq, reduceAdd, reduceLeDiff, reduceLT, Nat.reduceBEq, A58, A58p, b_str, strA, beqN, bneN, nn, d1, d2, d3, R58, Bool.false_and, Bool.true_and]
    · simp -implicitDefEqProofs only [RR, RE, RP, RG, takeV, reduceEqDiff, ↓reduceIte, reduceCtorEq, reduceAdd, reduceLeDiff, reduceLT, Nat.reduceBEq, A58, A58p, b_str, strA, beqN, bneN, nn, d1, d2, R58, Bool.false_and, Bool.true_and]
    · simp -implicitDefEqProofs only [RR, RE, RP, RG, takeV, reduceEqDiff, ↓reduceIte, reduceCtorEq, reduceAdd, reduceLeDiff, reduceLT, Nat.reduceBEq, A58, A58p, b_str, strA, beqN, bneN, nn, d1, R58, Bool.false_and, Bool.true_and]
theorem eqL_pm (x y : Pm) : eqL [.str, .int] (pmE x) (pmE y) = some (sameP x y) := by
  simp only [eqL, eqC, pmE, sameP]
  by_cases h1 : x.1 = y.1 <;> by_cases h2 : x.2 = y.2 <;> simp [h1, h2]
theorem eqL_ar (x y : Ar) : eqL [.str, .int, .int] (arE x) (arE y) = some (sameA x y) := by
  simp only [eqL, eqC, arE, sameA]
  by_cases h1 : x.name = y.name <;> by_cases h2 : x.width = y.width <;> by_cases h3 : x.len = y.len <;> simp [h1, h2, h3]
theorem w30 (x y : Fu) (hx : szSL x.body ≤ 4000000) (hp : x.params.length ≤ 50) : Pure Tryz.prog 30 [.agg (fuE x), .agg (fuE y)] (.bool (sameF x y)) := by
  have hb := szSL_len x.body
  have P := sqEqual mixed is56q pmE x.params y.params pm_len (by omega) sameP eqL_pm
  have B := eqFunc mixed (by rfl) is57q smE smE x.body y.body (fun x _ => sm_len x) (fun x _ => sm_len x) (by omega) 58 sameS fun z hz y _ => w58 4000000 z y (by have := szSL_mem hz; omega) (by omega)
  refine Pure.of fun nx => AC.go mixed is30 (by simp) ?_
  have nn : (nx + 1 = nx) = False := eq_false (by omega)
  rcases dec_cases (x.name = y.name) with ⟨c1, d1⟩ | ⟨c1, d1⟩
  rcases dec_cases (x.result = y.result) with ⟨c2, d2⟩ | ⟨c2, d2⟩
  · simp -implicitDefEqProofs only [RR, RE, RP, RG, takeV, reduceEqDiff, ↓reduceIte, reduceCtorEq, reduceAdd, reduceLeDiff, reduceLT, Nat.reduceBEq, A30, A30p, b_str, strA, beqN, bneN, nn, fuE, sameF, d1, d2]
    refine P.use fun n2 hn2 => ?_
    cases h1 : eqAll sameP x.params y.params with
    | false => simp -implicitDefEqProofs only [RR, RE, RP, RG, takeV, reduceEqDiff, ↓reduceIte, reduceCtorEq, reduceAdd, reduceLeDiff, reduceLT, Nat.reduceBEq, R30, Bool.false_and, Bool.true_and]
    | true =>
      simp -implicitDefEqProofs only [RR, RE, RP, RG, takeV, reduceEqDiff, ↓reduceIte, reduceCtorEq, reduceAdd, reduceLeDiff, reduceLT, Nat.reduceBEq, nn]
      refine B.use fun n3 hn3 => ?_
      simp -implicitDefEqProofs only [RR, RE, RP, RG, takeV, reduceEqDiff, ↓reduceIte, reduceCtorEq, reduceAdd, reduceLeDiff, reduceLT, Nat.reduceBEq, R30, Bool.true_and]
  · simp -implicitDefEqProofs only [RR, RE, RP, RG, takeV, reduceEqDiff, ↓reduceIte, reduceCtorEq, reduceAdd, reduceLeDiff, reduceLT, Nat.reduceBEq, A30, A30p, b_str, strA, beqN, bneN, nn, fuE, sameF, d1, d2, R30, Bool.false_and, Bool.true_and]
  · simp -implicitDefEqProofs only [RR, RE, RP, RG, takeV, reduceEqDiff, ↓reduceIte, reduceCtorEq, reduceAdd, reduceLeDiff, reduceLT, Nat.reduceBEq, A30, A30p, b_str, strA, beqN, bneN, nn, fuE, sameF, d1, R30, Bool.false_and, Bool.true_and]
theorem w9 (p q : Pr) (o : OkP p) : Pure Tryz.prog 9 [.agg (prE p), .agg (prE q)] (.bool (sameR p q)) := by
  have ha := o.al
  have hf := o.fl
  have A := sqEqual mixed is28q arE p.arrays q.arrays ar_len (by omega) sameA eqL_ar
  have B := eqFunc mixed (by rfl) is29q fuE fuE p.funcs q.funcs (fun x _ => fu_len x) (fun x _ => fu_len x) (by omega) 30 sameF fun z hz y _ => w30 z y (by have := o.fb z hz; omega) (o.fp z hz)
  refine Pure.of fun nx => AC.go mixed is9 (by simp) ?_
  have nn : (nx + 1 = nx) = False := eq_false (by omega)
  simp -implicitDefEqProofs only [RR, RE, RP, RG, takeV, reduceEqDiff, ↓reduceIte, reduceCtorEq, reduceAdd, reduceLeDiff, reduceLT, Nat.reduceBEq, A9, A9p, nn, prE, sameR]
  refine A.use fun n2 hn2 => ?_
  cases h1 : eqAll sameA p.arrays q.arrays with
  | false => simp -implicitDefEqProofs only [RR, RE, RP, RG, takeV, reduceEqDiff, ↓reduceIte, reduceCtorEq, reduceAdd, reduceLeDiff, reduceLT, Nat.reduceBEq, R9, Bool.false_and, Bool.true_and]
  | true =>
    simp -implicitDefEqProofs only [RR, RE, RP, RG, takeV, reduceEqDiff, ↓reduceIte, reduceCtorEq, reduceAdd, reduceLeDiff, reduceLT, Nat.reduceBEq, nn]
    refine B.use fun n3 hn3 => ?_
    simp -implicitDefEqProofs only [RR, RE, RP, RG, takeV, reduceEqDiff, ↓reduceIte, reduceCtorEq, reduceAdd, reduceLeDiff, reduceLT, Nat.reduceBEq, R9, Bool.true_and]
end Go.Proofs.YtkfldbimfbacmaaGreatDoor
namespace Go.Proofs.YtkfldbimfbacmaaGreatDoor
open Go Go.Ab Go.Proofs
open Nat (reduceEqDiff reduceAdd reduceLeDiff reduceLT)
set_option linter.unusedVariables false
set_option linter.unusedSimpArgs false
set_option maxRecDepth 20000
theorem sameP_eq (a b : List Pm) : decide (a = b) = eqAll sameP a b := by
  rw [Bool.eq_iff_iff, eqAll_eq (fun x y => by simp [sameP, Prod.ext_iff]) a b]; simp
theorem w59_of (a b : List Ex) (hA : szEL a ≤ 4000000) (H : ∀ x ∈ a, ∀ y ∈ b, Pure Tryz.prog 59 [exsA x.sub, exsA y.sub] (.bool (eqAll sameE x.sub y.sub))) : Pure Tryz.prog 59 [exsA a, exsA b] (.bool (eqAll sameE a b)) := by
  refine Pure.of fun nx => AC.go mixed is59 (by simp) ?_
  have hla := szEL_len a
  have lv := exs_len a
  have lw := exs_len b
  rcases dec_cases ((a.length : Int) = (b.length : Int)) with ⟨hl, hl'⟩ | ⟨hl, hl'⟩
  case inr =>
    have hr : eqAll sameE a b = false := eqAll_len fun e => hl (by rw [e])
    simp -implicitDefEqProofs only [RR, RE, RP, RG, takeV, reduceEqDiff, ↓reduceIte, reduceCtorEq, reduceAdd, reduceLeDiff, reduceLT, Nat.reduceBEq, A59, A59p, lv, lw, hl', hr, R59]
  simp -implicitDefEqProofs only [RR, RE, RP, RG, takeV, reduceEqDiff, ↓reduceIte, reduceCtorEq, reduceAdd, reduceLeDiff, reduceLT, Nat.reduceBEq, A59, A59p, lv, lw, hl']
  refine go_rounds (fun k st => ∃ i : Nat, k = a.length - i ∧ i ≤ a.length ∧ eqAll sameE (a.drop i) (b.drop i) = eqAll sameE a b ∧ eget st.env 0 = some (exsA a) ∧ eget st.env 1 = some (exsA b) ∧ eget st.env 5 = some (.int .i64 i) ∧ st.dm = []) (n := a.length) mixed
    ⟨0, rfl, by omega, by simp, by simp [eget], by simp [eget], by simp [eget], rfl⟩ ?_
  rintro k ⟨env, heap, nx', dm⟩ ⟨i, rfl, hi, hf, g0, g1, g5, hdm⟩
  simp only at g0 g1 g5 hdm
  subst hdm
  rcases dec_cases ((i : Int) < (a.length : Int)) with ⟨hc, hc'⟩ | ⟨hc, hc'⟩
  case inr =>
    have h1 : a.drop i = [] := List.drop_of_length_le (by omega)
    have h2 : b.drop i = [] := List.drop_of_length_le (by omega)
    rw [h1, h2] at hf
    have hr : eqAll sameE a b = true := by rw [← hf]; rfl
    simp -implicitDefEqProofs only [RR, RE, RP, RG, takeV, reduceEqDiff, ↓reduceIte, reduceCtorEq, reduceAdd, reduceLeDiff, reduceLT, Nat.reduceBEq, A59l0, A59l0p, g0, g5, lv, hc', hr, R59]
  have ha := List.getElem?_eq_getElem (show i < a.length by omega)
  have hb := List.getElem?_eq_getElem (show i < b.length by omega)
  generalize a[i] = x at ha
  generalize b[i] = y at hb
  have ia := exs_idx ha
  have ib := exs_idx hb
  have C := H x (List.mem_of_getElem? ha) y (List.mem_of_getElem? hb)
  rw [eqAll_drop ha hb] at hf
  obtain ⟨k, w, b', n, o, s⟩ := x
  obtain ⟨k', w', b'', n', o', s'⟩ := y
  simp only [Ex.sub] at C
  rw [ex_mk] at ia ib
  rw [sameE_mk] at hf
  have n1 : (nx' + 1 = nx') = False := eq_false (by omega)
  have nb : (nx' = nx' + 1) = False := eq_false (by omega)
  have f1 : IntKind.i64.wrap ((i : Int) + 1) = ((i + 1 : Nat) : Int) := by rw [w64 (by omega) (by omega)]; omega
  rcases dec_cases (k = k') with ⟨c1, d1⟩ | ⟨c1, d1⟩
  rcases dec_cases (w = w') with ⟨c2, d2⟩ | ⟨c2, d2⟩
  rcases dec_cases (b' = b'') with ⟨c3, d3⟩ | ⟨c3, d3⟩
  rcases dec_cases (n = n') with ⟨c4, d4⟩ | ⟨c4, d4⟩
  rcases dec_cases (o = o') with ⟨c5, d5⟩ | ⟨c5, d5⟩
  · simp only [d1, d2, d3, d4, d5, decide_true, Bool.true_and] at hf
    simp -implicitDefEqProofs only [RR, RE, RP, RG, takeV, reduceEqDiff, ↓reduceIte, reduceCtorEq, reduceAdd, reduceLeDiff, reduceLT, Nat.reduceBEq, A59l0, A59l0p, b_str, strA, beqN, bneN, g0, g1, g5, lv, hc', ia, ib, n1, nb, d1, d2, d3, d4, d5]
    refine C.use fun n2 hn2 => ?_
    cases h1 : eqAll sameE s s' with
    | false =>
      rw [h1, Bool.false_and] at hf
      simp -implicitDefEqProofs only [RR, RE, RP, RG, takeV, reduceEqDiff, ↓reduceIte, reduceCtorEq, reduceAdd, reduceLeDiff, reduceLT, Nat.reduceBEq, unA, hf.symm, R59]
    | true =>
      rw [h1, Bool.true_and] at hf
      simp -implicitDefEqProofs only [RR, RE, RP, RG, takeV, reduceEqDiff, ↓reduceIte, reduceCtorEq, reduceAdd, reduceLeDiff, reduceLT, Nat.reduceBEq, unA, g5, f1]
      refine ⟨a.length - (i + 1), by omega, i + 1, rfl, by omega, hf, ?_⟩
      repeat' apply And.intro
      all_goals first | assumption | rfl | (simp [eget, *]; done)
  all_goals simp only [d1, decide_true, decide_false, Bool.true_and, Bool.false_and, *] at hf
  · simp -implicitDefEqProofs only [RR, RE, RP, RG, takeV, reduceEqDiff, ↓reduceIte, reduceCtorEq, reduceAdd, reduceLeDiff, reduceLT, Nat.reduceBEq, A59l0, A59l0p, b_str, strA, beqN, bneN, g0, g1, g5, lv, hc', ia, ib, n1, nb, d1, d2, d3, d4, d5, unA, hf.symm, R59]
  · simp -implicitDefEqProofs only [RR, RE, RP, RG, takeV, reduceEqDiff, ↓reduceIte, reduceCtorEq, reduceAdd, reduceLeDiff, reduceLT, Nat.reduceBEq, A59l0, A59l0p, b_str, strA, beqN, bneN, g0, g1, g5, lv, hc', ia, ib, n1, nb, d1, d2, d3, d4, unA, hf.symm, R59]
  · simp -implicitDefEqProofs only [RR, RE, RP, RG, takeV, reduceEqDiff, ↓reduceIte, reduceCtorEq, reduceAdd, reduceLeDiff, reduceLT, Nat.reduceBEq, A59l0, A59l0p, b_str, strA, beqN, bneN, g0, g1, g5, lv, hc', ia, ib, n1, nb, d1, d2, d3, unA, hf.symm, R59]
  · simp -implicitDefEqProofs only [RR, RE, RP, RG, takeV, reduceEqDiff, ↓reduceIte, reduceCtorEq, reduceAdd, reduceLeDiff, reduceLT, Nat.reduceBEq, A59l0, A59l0p, b_str, strA, beqN, bneN, g0, g1, g5, lv, hc', ia, ib, n1, nb, d1, d2, unA, hf.symm, R59]
  · simp -implicitDefEqProofs only [RR, RE, RP, RG, takeV, reduceEqDiff, ↓reduceIte, reduceCtorEq, reduceAdd, reduceLeDiff, reduceLT, Nat.reduceBEq, A59l0, A59l0p, b_str, strA, beqN, bneN, g0, g1, g5, lv, hc', ia, ib, n1, nb, d1, unA, hf.symm, R59]
theorem w59 : ∀ (N : Nat) (a b : List Ex), szEL a ≤ N → N ≤ 4000000 → Pure Tryz.prog 59 [exsA a, exsA b] (.bool (eqAll sameE a b))
  | 0, a, b, h, hN => w59_of a b (by omega) fun x hx => by have := szEL_mem hx; have := szE_eq x; omega
  | N + 1, a, b, h, hN => w59_of a b (by omega) fun x hx y _ => w59 N x.sub y.sub (by have := szEL_mem hx; have := szE_eq x; omega) (by omega)
theorem w32_of (a b : List Sm) (hA : szSL a ≤ 4000000) (H : ∀ x ∈ a, ∀ y ∈ b, Pure Tryz.prog 32 [smsA x.body, smsA y.body] (.bool (eqAll sameS x.body y.body)) ∧ Pure Tryz.prog 32 [smsA x.els, smsA y.els] (.bool (eqAll sameS x.els y.els))) :
    Pure Tryz.prog 32 [smsA a, smsA b] (.bool (eqAll sameS a b)) := by
  refine Pure.of fun nx => AC.go mixed is32 (by simp) ?_
  have hla := szSL_len a
  have lv := sms_len a
  have lw := sms_len b
  rcases dec_cases ((a.length : Int) = (b.length : Int)) with ⟨hl, hl'⟩ | ⟨hl, hl'⟩
  case inr =>
    have hr : eqAll sameS a b = false := eqAll_len fun e => hl (by rw [e])
    simp -implicitDefEqProofs only [RR, RE, RP, RG, takeV, reduceEqDiff, ↓reduceIte, reduceCtorEq, reduceAdd, reduceLeDiff, reduceLT, Nat.reduceBEq, A32, A32p, lv, lw, hl', hr, R32]
  simp -implicitDefEqProofs only [RR, RE, RP, RG, takeV, reduceEqDiff, ↓reduceIte, reduceCtorEq, reduceAdd, reduceLeDiff, reduceLT, Nat.reduceBEq, A32, A32p, lv, lw, hl']
  refine go_rounds (fun k st => ∃ i : Nat, k = a.length - i ∧ i ≤ a.length ∧ eqAll sameS (a.drop i) (b.drop i) = eqAll sameS a b ∧ eget st.env 0 = some (smsA a) ∧ eget st.env 1 = some (smsA b) ∧ eget st.env 5 = some (.int .i64 i) ∧ st.dm = []) (n := a.length) mixed
    ⟨0, rfl, by omega, by simp, by simp [eget], by simp [eget], by simp [eget], rfl⟩ ?_
  rintro k ⟨env, heap, nx', dm⟩ ⟨i, rfl, hi, hf, g0, g1, g5, hdm⟩
  simp only at g0 g1 g5 hdm
  subst hdm
  rcases dec_cases ((i : Int) < (a.length : Int)) with ⟨hc, hc'⟩ | ⟨hc, hc'⟩
  case inr =>
    have h1 : a.drop i = [] := List.drop_of_length_le (by omega)
    have h2 : b.drop i = [] := List.drop_of_length_le (by omega)
    rw [h1, h2] at hf
    have hr : eqAll sameS a b = true := by rw [← hf]; rfl
    simp -implicitDefEqProofs only [RR, RE, RP, RG, takeV, reduceEqDiff, ↓reduceIte, reduceCtorEq, reduceAdd, reduceLeDiff, reduceLT, Nat.reduceBEq, A32l0, A32l0p, g0, g5, lv, hc', hr, R32]
  have ha := List.getElem?_eq_getElem (show i < a.length by omega)
  have hb := List.getElem?_eq_getElem (show i < b.length by omega)
  generalize a[i] = x at ha
  generalize b[i] = y at hb
  have ia := sms_idx ha
  have ib := sms_idx hb
  have hx := List.mem_of_getElem? ha
  have hsx := szSL_mem hx
  have hse := szS_eq x
  have C := H x hx y (List.mem_of_getElem? hb)
  rw [eqAll_drop ha hb] at hf
  obtain ⟨k, n, f, w, l, b', e⟩ := x
  obtain ⟨k', n', f', w', l', b'', e'⟩ := y
  simp only [Sm.body, Sm.els, Sm.name, Sm.func, Sm.exprs] at C hse
  rw [sm_mk] at ia ib
  rw [sameS_mk] at hf
  have D := w59 4000000 l l' (by omega) (by omega)
  have n1 : (nx' + 1 = nx') = False := eq_false (by omega)
  have nb : (nx' = nx' + 1) = False := eq_false (by omega)
  have f1 : IntKind.i64.wrap ((i : Int) + 1) = ((i + 1 : Nat) : Int) := by rw [w64 (by omega) (by omega)]; omega
  rcases dec_cases (k = k') with ⟨c1, d1⟩ | ⟨c1, d1⟩
  rcases dec_cases (n = n') with ⟨c2, d2⟩ | ⟨c2, d2⟩
  rcases dec_cases (f = f') with ⟨c3, d3⟩ | ⟨c3, d3⟩
  rcases dec_cases (w = w') with ⟨c4, d4⟩ | ⟨c4, d4⟩
  · simp only [d1, d2, d3, d4, decide_true, Bool.true_and] at hf
    simp -implicitDefEqProofs only [RR, RE, RP, RG, takeV, reduceEqDiff, ↓reduceIte, reduceCtorEq, reduceAdd, reduceLeDiff, reduceLT, Nat.reduceBEq, A32l0, A32l0p, b_str, strA, beqN, bneN, g0, g1, g5, lv, hc', ia, ib, n1, nb, d1, d2, d3, d4]
    refine D.use fun n2 hn2 => ?_
    cases h1 : eqAll sameE l l' with
    | false =>
      rw [h1, Bool.false_and, Bool.false_and] at hf
      simp -implicitDefEqProofs only [RR, RE, RP, RG, takeV, reduceEqDiff, ↓reduceIte, reduceCtorEq, reduceAdd, reduceLeDiff, reduceLT, Nat.reduceBEq, unA, hf.symm, R32]
    | true =>
      simp -implicitDefEqProofs only [RR, RE, RP, RG, takeV, reduceEqDiff, ↓reduceIte, reduceCtorEq, reduceAdd, reduceLeDiff, reduceLT, Nat.reduceBEq, unA, n1, nb]
      refine C.1.use fun n3 hn3 => ?_
      cases h2 : eqAll sameS b' b'' with
      | false =>
        rw [h1, h2, Bool.true_and, Bool.false_and, Bool.false_and] at hf
        simp -implicitDefEqProofs only [RR, RE, RP, RG, takeV, reduceEqDiff, ↓reduceIte, reduceCtorEq, reduceAdd, reduceLeDiff, reduceLT, Nat.reduceBEq, unA, hf.symm, R32]
      | true =>
        simp -implicitDefEqProofs only [RR, RE, RP, RG, takeV, reduceEqDiff, ↓reduceIte, reduceCtorEq, reduceAdd, reduceLeDiff, reduceLT, Nat.reduceBEq, unA, n1, nb]
        refine C.2.use fun n4 hn4 => ?_
        cases h3 : eqAll sameS e e' with
        | false =>
          rw [h1, h2, h3, Bool.true_and, Bool.true_and, Bool.false_and] at hf
          simp -implicitDefEqProofs only [RR, RE, RP, RG, takeV, reduceEqDiff, ↓reduceIte, reduceCtorEq, reduceAdd, reduceLeDiff, reduceLT, Nat.reduceBEq, unA, hf.symm, R32]
        | true =>
          rw [h1, h2, h3, Bool.true_and, Bool.true_and, Bool.true_and] at hf
          simp -implicitDefEqProofs only [RR, RE, RP, RG, takeV, reduceEqDiff, ↓reduceIte, reduceCtorEq, reduceAdd, reduceLeDiff, reduceLT, Nat.reduceBEq, unA, g5, f1]
          refine ⟨a.length - (i + 1), by omega, i + 1, rfl, by omega, hf, ?_⟩
          repeat' apply And.intro
          all_goals first | assumption | rfl | (simp [eget, *]; done)
  all_goals simp only [d1, decide_true, decide_false, Bool.true_and, Bool.false_and, *] at hf
  · simp -implicitDefEqProofs only [RR, RE, RP, RG, takeV, reduceEqDiff, ↓reduceIte, reduceCtorEq, reduceAdd, reduceLeDiff, reduceLT, Nat.reduceBEq, A32l0, A32l0p, b_str, strA, beqN, bneN, g0, g1, g5, lv, hc', ia, ib, n1, nb, d1, d2, d3, d4, unA, hf.symm, R32]
  · simp -implicitDefEqProofs only [RR, RE, RP, RG, takeV, reduceEqDiff, ↓reduceIte, reduceCtorEq, reduceAdd, reduceLeDiff, reduceLT, Nat.reduceBEq, A32l0, A32l0p, b_str, strA, beqN, bneN, g0, g1, g5, lv, hc', ia, ib, n1, nb, d1, d2, d3, unA, hf.symm, R32]
  · simp -implicitDefEqProofs only [RR, RE, RP, RG, takeV, reduceEqDiff, ↓reduceIte, reduceCtorEq, reduceAdd, reduceLeDiff, reduceLT, Nat.reduceBEq, A32l0, A32l0p, b_str, strA, beqN, bneN, g0, g1, g5, lv, hc', ia, ib, n1, nb, d1, d2, unA, hf.symm, R32]
  · simp -implicitDefEqProofs only [RR, RE, RP, RG, takeV, reduceEqDiff, ↓reduceIte, reduceCtorEq, reduceAdd, reduceLeDiff, reduceLT, Nat.reduceBEq, A32l0, A32l0p, b_str, strA, beqN, bneN, g0, g1, g5, lv, hc', ia, ib, n1, nb, d1, unA, hf.symm, R32]
theorem w32 : ∀ (N : Nat) (a b : List Sm), szSL a ≤ N → N ≤ 4000000 → Pure Tryz.prog 32 [smsA a, smsA b] (.bool (eqAll sameS a b))
  | 0, a, b, h, hN => w32_of a b (by omega) fun x hx => by have := szSL_mem hx; have := szS_eq x; omega
  | N + 1, a, b, h, hN => w32_of a b (by omega) fun x hx y _ => ⟨w32 N x.body y.body (by have := szSL_mem hx; have := szS_eq x; omega) (by omega), w32 N x.els y.els (by have := szSL_mem hx; have := szS_eq x; omega) (by omega)⟩
end Go.Proofs.YtkfldbimfbacmaaGreatDoor
namespace Go.Proofs.YtkfldbimfbacmaaGreatDoor
open Go Go.Ab Go.Proofs
open Nat (reduceEqDiff reduceAdd reduceLeDiff reduceLT)
set_option linter.unusedVariables false
set_option linter.unusedSimpArgs false
set_option maxRecDepth 20000
theorem _root_.Go.Ab.OwnSl.sub {e sz : Nat} {h h' : Heap} {nx nx' : Nat} {x : AV} {es : List (List AV)} (ho : OwnSl e sz h nx x es) (hs : Sub h h') (hle : nx ≤ nx') : OwnSl e sz h' nx' x es := ho.keep hle fun b o _ hg => hs b o hg
theorem _root_.Go.Ab.OwnSl.cel {e sz : Nat} {h : Heap} {nx : Nat} {x : AV} {es : List (List AV)} (ho : OwnSl e sz h nx x es) : cellsOf x = [x] := by rcases ho with ⟨rfl, _⟩ | ⟨b, rfl, _⟩ <;> rfl
theorem _root_.Go.Ab.OwnSl.pln {e sz : Nat} {h : Heap} {nx : Nat} {x : AV} {es : List (List AV)} (ho : OwnSl e sz h nx x es) : x.plain = true := by rcases ho with ⟨rfl, _⟩ | ⟨b, rfl, _⟩ <;> rfl
mutual
def OE (h : Heap) : Ex → List AV → Prop
  | .mk k w b n o s, c => ∃ v cs nx, c = [.int .u8 k, .int .i64 w, .int .u64 b, .str n, .int .u8 o, v] ∧ OwnSl 41 6 h nx v cs ∧ OEs h s cs
def OEs (h : Heap) : List Ex → List (List AV) → Prop
  | [], cs => cs = []
  | x :: r, cs => ∃ c cs', cs = c :: cs' ∧ OE h x c ∧ OEs h r cs'
end
mutual
theorem OE.mono {h h' : Heap} (hs : Sub h h') : ∀ {x : Ex} {c : List AV}, OE h x c → OE h' x c
  | .mk k w b n o s, c, H => by
    simp only [OE] at H ⊢
    obtain ⟨v, cs, nx, h1, h2, h3⟩ := H
    exact ⟨v, cs, nx, h1, h2.sub hs (Nat.le_refl _), OEs.mono hs h3⟩
theorem OEs.mono {h h' : Heap} (hs : Sub h h') : ∀ {l : List Ex} {cs : List (List AV)}, OEs h l cs → OEs h' l cs
  | [], cs, H => by simp only [OEs] at H ⊢; exact H
  | x :: r, cs, H => by
    simp only [OEs] at H ⊢
    obtain ⟨c, cs', h1, h2, h3⟩ := H
    exact ⟨c, cs', h1, OE.mono hs h2, OEs.mono hs h3⟩
end
theorem OE.len {h : Heap} {x : Ex} {c : List AV} (H : OE h x c) : c.length = 6 := by
  cases x; simp only [OE] at H; obtain ⟨_, _, _, rfl, _⟩ := H; rfl
theorem OEs.snoc {h : Heap} {x : Ex} {c : List AV} (H : OE h x c) : ∀ {l : List Ex} {cs : List (List AV)}, OEs h l cs → OEs h (l ++ [x]) (cs ++ [c])
  | [], cs, hl => by simp only [OEs] at hl; subst hl; simp only [List.nil_append, OEs]; exact ⟨c, [], rfl, H, rfl⟩
  | y :: r, cs, hl => by
    simp only [OEs] at hl
    obtain ⟨c', cs', rfl, h2, h3⟩ := hl
    simp only [List.cons_append, OEs]
    exact ⟨c', cs' ++ [c], rfl, h2, OEs.snoc H h3⟩
theorem mkE : Mk 6 (fun x h c => OE h x c) (fun l h cs => OEs h l cs) where
  nil := by simp [OEs]
  snoc l x h h2 cs c hl hx hd := OEs.snoc (hx.mono (Sub.front _ _)) (hl.mono (Sub.back hd))
  len x h c H := H.len
mutual
def OS (hs he : Heap) : Sm → List AV → Prop
  | .mk k n f w l b e, c => ∃ vl vb ve cl cb ce n1 n2 n3, c = [.int .u8 k, .str n, .str f, .int .i64 w, vl, vb, ve] ∧ OwnSl 41 6 he n1 vl cl ∧ OEs he l cl ∧ OwnSl 38 7 hs n2 vb cb ∧ OSs hs he b cb ∧ OwnSl 38 7 hs n3 ve ce ∧ OSs hs he e ce
def OSs (hs he : Heap) : List Sm → List (List AV) → Prop
  | [], cs => cs = []
  | x :: r, cs => ∃ c cs', cs = c :: cs' ∧ OS hs he x c ∧ OSs hs he r cs'
end
mutual
theorem OS.mono {hs he hs' he' : Heap} (h1 : Sub hs hs') (h2 : Sub he he') : ∀ {x : Sm} {c : List AV}, OS hs he x c → OS hs' he' x c
  | .mk k n f w l b e, c, H => by
    simp only [OS] at H ⊢
    obtain ⟨vl, vb, ve, cl, cb, ce, n1, n2, n3, k1, k2, k3, k4, k5, k6, k7⟩ := H
    exact ⟨vl, vb, ve, cl, cb, ce, n1, n2, n3, k1, k2.sub h2 (Nat.le_refl _), k3.mono h2, k4.sub h1 (Nat.le_refl _), OSs.mono h1 h2 k5, k6.sub h1 (Nat.le_refl _), OSs.mono h1 h2 k7⟩
theorem OSs.mono {hs he hs' he' : Heap} (h1 : Sub hs hs') (h2 : Sub he he') : ∀ {l : List Sm} {cs : List (List AV)}, OSs hs he l cs → OSs hs' he' l cs
  | [], cs, H => by simp only [OSs] at H ⊢; exact H
  | x :: r, cs, H => by
    simp only [OSs] at H ⊢
    obtain ⟨c, cs', k1, k2, k3⟩ := H
    exact ⟨c, cs', k1, OS.mono h1 h2 k2, OSs.mono h1 h2 k3⟩
end
theorem OS.len {hs he : Heap} {x : Sm} {c : List AV} (H : OS hs he x c) : c.length = 7 := by
  cases x; simp only [OS] at H; obtain ⟨_, _, _, _, _, _, _, _, _, rfl, _⟩ := H; rfl
theorem OSs.snoc {hs he : Heap} {x : Sm} {c : List AV} (H : OS hs he x c) : ∀ {l : List Sm} {cs : List (List AV)}, OSs hs he l cs → OSs hs he (l ++ [x]) (cs ++ [c])
  | [], cs, hl => by simp only [OSs] at hl; subst hl; simp only [List.nil_append, OSs]; exact ⟨c, [], rfl, H, rfl⟩
  | y :: r, cs, hl => by
    simp only [OSs] at hl
    obtain ⟨c', cs', rfl, h2, h3⟩ := hl
    simp only [List.cons_append, OSs]
    exact ⟨c', cs' ++ [c], rfl, h2, OSs.snoc H h3⟩
def Two (hs he h : Heap) : Prop := Sub hs h ∧ Sub he h ∧ Dsj hs he
theorem Two.join {hs he h hs2 he2 h2 : Heap} (a : Two hs he h) (b : Two hs2 he2 h2) (hd : Dsj h h2) : Two (hs2 ++ hs) (he2 ++ he) (h2 ++ h) := by
  obtain ⟨a1, a2, a3⟩ := a
  obtain ⟨b1, b2, b3⟩ := b
  refine ⟨Sub.both (b1.trans (Sub.front _ _)) (a1.trans (Sub.back hd)), Sub.both (b2.trans (Sub.front _ _)) (a2.trans (Sub.back hd)), Dsj.app ?_ ?_⟩
  · exact (Dsj.app b3.symm (Dsj.sub a2 b1 hd)).symm
  · exact (Dsj.app (Dsj.sub a1 b2 hd).symm a3.symm).symm
theorem Two.l {hs he h hs2 he2 h2 : Heap} (a : Two hs he h) (b : Two hs2 he2 h2) (hd : Dsj h h2) : Sub hs (hs2 ++ hs) ∧ Sub he (he2 ++ he) :=
  ⟨Sub.back (Dsj.sub a.1 b.1 hd), Sub.back (Dsj.sub a.2.1 b.2.1 hd)⟩
def DS (x : Sm) (h : Heap) (c : List AV) : Prop := ∃ hs he, Two hs he h ∧ OS hs he x c
def DSs (l : List Sm) (h : Heap) (cs : List (List AV)) : Prop := ∃ hs he, Two hs he h ∧ OSs hs he l cs
theorem Two.nil : Two [] [] [] := ⟨Sub.nil _, Sub.nil _, fun b o h => by simp [hget] at h⟩
theorem mkS : Mk 7 DS DSs where
  nil := ⟨[], [], Two.nil, by simp [OSs]⟩
  snoc l x h h2 cs c hl hx hd := by
    obtain ⟨hs, he, t1, o1⟩ := hl
    obtain ⟨hs2, he2, t2, o2⟩ := hx
    obtain ⟨l1, l2⟩ := t1.l t2 hd
    exact ⟨hs2 ++ hs, he2 ++ he, t1.join t2 hd, OSs.snoc (o2.mono (Sub.front _ _) (Sub.front _ _)) (o1.mono l1 l2)⟩
  len x h c H := by obtain ⟨_, _, _, H⟩ := H; exact H.len
theorem own_sms {l : List Sm} {h : Heap} {nx : Nat} {v : AV} {cs : List (List AV)} {h0 : Heap} (O : OwnD 38 7 DSs l h nx v cs h0) : ∃ hs he, Two hs he h ∧ OwnSl 38 7 hs nx v cs ∧ OSs hs he l cs := by
  obtain ⟨ho, ⟨hs, he, ⟨t1, t2, t3⟩, hl⟩, hs0, hk0, hb0, _, _⟩ := O
  rcases ho with ⟨rfl, rfl⟩ | ⟨b, rfl, hg, hlt⟩
  · exact ⟨hs, he, ⟨t1.trans hs0, t2.trans hs0, t3⟩, .inl ⟨rfl, rfl⟩, hl⟩
  · have hb := hk0 b rfl
    have sub1 : Sub hs ((b, .cells cs.flatten) :: hs) := fun k o hk => by
      rw [hget_cons, if_neg]
      · exact hk
      · intro e; subst e; rw [t1 _ _ hk] at hb; cases hb
    refine ⟨(b, .cells cs.flatten) :: hs, he, ⟨fun k o hk => ?_, t2.trans hs0, fun k o hk => ?_⟩, .inr ⟨b, rfl, by simp [hget_cons], hlt⟩, hl.mono sub1 (Sub.refl _)⟩
    · rw [hget_cons] at hk
      split at hk
      · rename_i e; subst e; injection hk with hk; subst hk; exact hg
      · exact hs0 k o (t1 k o hk)
    · rw [hget_cons] at hk
      split at hk
      · rename_i e; subst e
        cases hq : hget he b with
        | none => rfl
        | some o' => rw [t2 _ _ hq] at hb; cases hb
      · exact t3 k o hk
theorem is35q : Is Tryz.prog (fun _ _ => false) 35 22 (ech 6 [.int .u8 0, .int .i64 0, .int .u64 0, .str [], .int .u8 0, .nilS] 41 72) [.tmp 4] := is35
theorem is17q : Is Tryz.prog (fun _ _ => false) 17 22 (ech 7 [.int .u8 0, .str [], .str [], .int .i64 0, .nilS, .nilS, .nilS] 38 120) [.tmp 4] := is17
theorem is14q : Is Tryz.prog (fun _ _ => false) 14 22 (ech 4 [.str [], .nilS, .int .i64 0, .nilS] 35 72) [.tmp 4] := is14
theorem is16q : Is Tryz.prog (fun r i => [(3, 0)].contains (r, i)) 16 8 (clnC 2 45 24 [.str [], .int .i64 0]) [.tmp 2] := is16
theorem is13q : Is Tryz.prog (fun r i => [(3, 0)].contains (r, i)) 13 8 (clnC 3 43 32 [.str [], .int .i64 0, .int .i64 0]) [.tmp 2] := is13
theorem back_of {h h2 : Heap} (hd : ∀ c o, hget h c = some o → hget h2 c = none) {b : Nat} {o : AO} (hb : hget h b = some o) : hget (h2 ++ h) b = some o := by rw [hget_append, hd b o hb]; exact hb
theorem sub_two {h2 base : Heap} {a b : Nat} {x y x' y' : AO} (hd : ∀ c o, hget base c = some o → hget h2 c = none) (ha : hget base a = some x') (hb : hget base b = some y') : Sub h2 ((a, x) :: (b, y) :: (h2 ++ base)) := fun k o hk => by
  rw [hget_cons, if_neg, hget_cons, if_neg]
  · exact Sub.front _ _ k o hk
  · intro e; subst e; rw [hd _ _ hb] at hk; cases hk
  · intro e; subst e; rw [hd _ _ ha] at hk; cases hk
theorem w36 : ∀ (N : Nat) (x : Ex), szE x ≤ N → N ≤ 4000000 → ∀ nx, AC Tryz.prog 36 [.agg (exE x)] [] nx fun y h' n' => ∃ c, y = .ret (.agg c) ∧ OE h' x c
  | 0, x, h, _, _ => by have := szE_eq x; omega
  | N + 1, .mk k w b n o s, h, hN, nx => by
    have hs := szE_eq (.mk k w b n o s)
    simp only [Ex.name, Ex.sub] at hs
    have hl := szEL_len s
    have E := each mixed (by rfl) is35q exE s (fun x _ => ex_len x) mkE (by omega) (by omega) (by simp only [maxLen]; omega) 36 fun x hx => w36 N x (by have := szEL_mem hx; omega) (by omega)
    refine AC.go mixed is36 (by simp) ?_
    have n1 : (nx + 1 = nx) = False := eq_false (by omega)
    have n2 : (nx = nx + 1) = False := eq_false (by omega)
    rw [ex_mk]
    simp -implicitDefEqProofs only [RR, RE, RP, RG, takeV, reduceEqDiff, ↓reduceIte, reduceCtorEq, reduceAdd, reduceLeDiff, reduceLT, Nat.reduceBEq, A36, A36p, n1, n2]
    refine ((E (nx + 1 + 1)).frame _).mono ?_
    rintro y h' n' ⟨h2, rfl, hn2, hdj, v, cs, h0, rfl, O⟩
    have ga := back_of hdj (show hget _ nx = some _ by simp [hget, n1]; rfl)
    have gb := back_of hdj (show hget _ (nx + 1) = some _ by simp [hget]; rfl)
    have k1 := O.1.cel
    have k2 := O.1.pln
    simp -implicitDefEqProofs only [RR, RE, RP, RG, takeV, reduceEqDiff, ↓reduceIte, reduceCtorEq, reduceAdd, reduceLeDiff, reduceLT, Nat.reduceBEq, ga, gb, n1, n2, k1, k2, R36]
    refine ⟨_, rfl, ?_⟩
    simp only [OE]
    have S := fun x y => sub_two (h2 := h2) (a := nx + 1) (b := nx) (x := x) (y := y) hdj (by simp [hget]; rfl) (by simp [hget, n1]; rfl)
    exact ⟨v, cs, n', rfl, O.1.sub (S _ _) (Nat.le_refl _), (O.2.1.mono O.2.2.1).mono (S _ _)⟩
end Go.Proofs.YtkfldbimfbacmaaGreatDoor
