/- Well-formed arrays, functions and programs. -/
import Derived.Test.YtgeieafamocnhaaGreatDoorGI
namespace Go.Proofs.YtgeieafamocnhaaGreatDoor
open Go Go.Ab Go.Proofs
open Nat (reduceEqDiff reduceAdd reduceLeDiff reduceLT)
set_option linter.unusedVariables false
set_option linter.unusedSimpArgs false
set_option maxRecDepth 20000
def band64 (x y : Int) : Int := IntKind.i64.wrap ((BitVec.ofInt 64 x &&& BitVec.ofInt 64 y).toNat : Int)
theorem band_eq (x y : Int) : bitsA .and .i64 x y = some (band64 x y) := rfl
def wfA (a : Ar) : Bool := isNm a.name && sized a.width && decide (1 < a.width) && decide (1 ≤ a.len) && decide (a.len ≤ 64) && decide (band64 a.len (IntKind.i64.wrap (a.len - 1)) = 0)
def wfP (v : Pm) : Bool := isNm v.1 && sized v.2
def wfF (f : Fu) : Bool := f.params.all wfP && isNm f.name && (decide (f.result = 0) || sized f.result) && f.body.all wfS
theorem arE_eq (a : Ar) : arE a = [.str a.name, .int .i64 a.width, .int .i64 a.len] := rfl
theorem fuE_eq (f : Fu) : fuE f = [.str f.name, pmsA f.params, .int .i64 f.result, smsA f.body] := rfl
theorem pmE_eq (v : Pm) : pmE v = [.str v.1, .int .i64 v.2] := rfl
theorem prE_eq (p : Pr) : prE p = [arsA p.arrays, fusA p.funcs] := rfl
theorem w87 (a : Ar) (hn : a.name.length ≤ 100000) : Pure Tryz.prog 87 [.agg (arE a)] (.bool (wfA a)) := by
  refine Pure.of fun nx => AC.go mixed is87 (by simp) ?_
  rw [arE_eq]
  cases h1 : (isNm a.name) with
  | false =>
    have ee : wfA a = false := by simp [wfA, h1]
    simp -implicitDefEqProofs only [RR, RE, RP, RG, takeV, reduceEqDiff, ↓reduceIte, reduceCtorEq, reduceAdd, reduceLeDiff, reduceLT, Nat.reduceBEq, A87, A87p, b_and, band_eq, Option.map_some, h1]
    refine (w80 _ hn).use fun n2 _ => ?_
    simp -implicitDefEqProofs only [RR, RE, RP, RG, takeV, reduceEqDiff, ↓reduceIte, reduceCtorEq, reduceAdd, reduceLeDiff, reduceLT, Nat.reduceBEq, b_and, band_eq, Option.map_some, h1, ee, R87]
  | true =>
    cases h2 : (sized a.width) with
    | false =>
      have ee : wfA a = false := by simp [wfA, h1, h2]
      simp -implicitDefEqProofs only [RR, RE, RP, RG, takeV, reduceEqDiff, ↓reduceIte, reduceCtorEq, reduceAdd, reduceLeDiff, reduceLT, Nat.reduceBEq, A87, A87p, b_and, band_eq, Option.map_some, h1, h2]
      refine (w80 _ hn).use fun n2 _ => ?_
      simp -implicitDefEqProofs only [RR, RE, RP, RG, takeV, reduceEqDiff, ↓reduceIte, reduceCtorEq, reduceAdd, reduceLeDiff, reduceLT, Nat.reduceBEq, b_and, band_eq, Option.map_some, h1, h2]
      refine (w78 _).use fun n2 _ => ?_
      simp -implicitDefEqProofs only [RR, RE, RP, RG, takeV, reduceEqDiff, ↓reduceIte, reduceCtorEq, reduceAdd, reduceLeDiff, reduceLT, Nat.reduceBEq, b_and, band_eq, Option.map_some, h1, h2, ee, R87]
    | true =>
      rcases dec_cases (1 < a.width) with ⟨h3', h3⟩ | ⟨h3', h3⟩
      case inr =>
        have ee : wfA a = false := by simp [wfA, h1, h2, h3]
        simp -implicitDefEqProofs only [RR, RE, RP, RG, takeV, reduceEqDiff, ↓reduceIte, reduceCtorEq, reduceAdd, reduceLeDiff, reduceLT, Nat.reduceBEq, A87, A87p, b_and, band_eq, Option.map_some, h1, h2, h3]
        refine (w80 _ hn).use fun n2 _ => ?_
        simp -implicitDefEqProofs only [RR, RE, RP, RG, takeV, reduceEqDiff, ↓reduceIte, reduceCtorEq, reduceAdd, reduceLeDiff, reduceLT, Nat.reduceBEq, b_and, band_eq, Option.map_some, h1, h2, h3]
        refine (w78 _).use fun n2 _ => ?_
        simp -implicitDefEqProofs only [RR, RE, RP, RG, takeV, reduceEqDiff, ↓reduceIte, reduceCtorEq, reduceAdd, reduceLeDiff, reduceLT, Nat.reduceBEq, b_and, band_eq, Option.map_some, h1, h2, h3, ee, R87]
      rcases dec_cases (1 ≤ a.len) with ⟨h4', h4⟩ | ⟨h4', h4⟩
      case inr =>
        have ee : wfA a = false := by simp [wfA, h1, h2, h3, h4]
        simp -implicitDefEqProofs only [RR, RE, RP, RG, takeV, reduceEqDiff, ↓reduceIte, reduceCtorEq, reduceAdd, reduceLeDiff, reduceLT, Nat.reduceBEq, A87, A87p, b_and, band_eq, Option.map_some, h1, h2, h3, h4]
        refine (w80 _ hn).use fun n2 _ => ?_
        simp -implicitDefEqProofs only [RR, RE, RP, RG, takeV, reduceEqDiff, ↓reduceIte, reduceCtorEq, reduceAdd, reduceLeDiff, reduceLT, Nat.reduceBEq, b_and, band_eq, Option.map_some, h1, h2, h3, h4]
        refine (w78 _).use fun n2 _ => ?_
        simp -implicitDefEqProofs only [RR, RE, RP, RG, takeV, reduceEqDiff, ↓reduceIte, reduceCtorEq, reduceAdd, reduceLeDiff, reduceLT, Nat.reduceBEq, b_and, band_eq, Option.map_some, h1, h2, h3, h4, ee, R87]
      rcases dec_cases (a.len ≤ 64) with ⟨h5', h5⟩ | ⟨h5', h5⟩
      case inr =>
        have ee : wfA a = false := by simp [wfA, h1, h2, h3, h4, h5]
        simp -implicitDefEqProofs only [RR, RE, RP, RG, takeV, reduceEqDiff, ↓reduceIte, reduceCtorEq, reduceAdd, reduceLeDiff, reduceLT, Nat.reduceBEq, A87, A87p, b_and, band_eq, Option.map_some, h1, h2, h3, h4, h5]
        refine (w80 _ hn).use fun n2 _ => ?_
        simp -implicitDefEqProofs only [RR, RE, RP, RG, takeV, reduceEqDiff, ↓reduceIte, reduceCtorEq, reduceAdd, reduceLeDiff, reduceLT, Nat.reduceBEq, b_and, band_eq, Option.map_some, h1, h2, h3, h4, h5]
        refine (w78 _).use fun n2 _ => ?_
        simp -implicitDefEqProofs only [RR, RE, RP, RG, takeV, reduceEqDiff, ↓reduceIte, reduceCtorEq, reduceAdd, reduceLeDiff, reduceLT, Nat.reduceBEq, b_and, band_eq, Option.map_some, h1, h2, h3, h4, h5, ee, R87]
      rcases dec_cases (band64 a.len (IntKind.i64.wrap (a.len - 1)) = 0) with ⟨h6', h6⟩ | ⟨h6', h6⟩
      case inr =>
        have ee : wfA a = false := by simp [wfA, h1, h2, h3, h4, h5, h6]
        simp -implicitDefEqProofs only [RR, RE, RP, RG, takeV, reduceEqDiff, ↓reduceIte, reduceCtorEq, reduceAdd, reduceLeDiff, reduceLT, Nat.reduceBEq, A87, A87p, b_and, band_eq, Option.map_some, h1, h2, h3, h4, h5, h6]
        refine (w80 _ hn).use fun n2 _ => ?_
        simp -implicitDefEqProofs only [RR, RE, RP, RG, takeV, reduceEqDiff, ↓reduceIte, reduceCtorEq, reduceAdd, reduceLeDiff, reduceLT, Nat.reduceBEq, b_and, band_eq, Option.map_some, h1, h2, h3, h4, h5, h6]
        refine (w78 _).use fun n2 _ => ?_
        simp -implicitDefEqProofs only [RR, RE, RP, RG, takeV, reduceEqDiff, ↓reduceIte, reduceCtorEq, reduceAdd, reduceLeDiff, reduceLT, Nat.reduceBEq, b_and, band_eq, Option.map_some, h1, h2, h3, h4, h5, h6, ee, R87]
      have ee : wfA a = true := by simp [wfA, h1, h2, h3, h4, h5, h6]
      simp -implicitDefEqProofs only [RR, RE, RP, RG, takeV, reduceEqDiff, ↓reduceIte, reduceCtorEq, reduceAdd, reduceLeDiff, reduceLT, Nat.reduceBEq, A87, A87p, b_and, band_eq, Option.map_some, h1, h2, h3, h4, h5, h6]
      refine (w80 _ hn).use fun n2 _ => ?_
      simp -implicitDefEqProofs only [RR, RE, RP, RG, takeV, reduceEqDiff, ↓reduceIte, reduceCtorEq, reduceAdd, reduceLeDiff, reduceLT, Nat.reduceBEq, b_and, band_eq, Option.map_some, h1, h2, h3, h4, h5, h6]
      refine (w78 _).use fun n2 _ => ?_
      simp -implicitDefEqProofs only [RR, RE, RP, RG, takeV, reduceEqDiff, ↓reduceIte, reduceCtorEq, reduceAdd, reduceLeDiff, reduceLT, Nat.reduceBEq, b_and, band_eq, Option.map_some, h1, h2, h3, h4, h5, h6, ee, R87]
theorem w125 (v : Pm) (hn : v.1.length ≤ 100000) : Pure Tryz.prog 125 [.agg (pmE v)] (.bool (wfP v)) := by
  refine Pure.of fun nx => AC.go mixed is125 (by simp) ?_
  rw [pmE_eq]
  cases h1 : (isNm v.1) with
  | false =>
    have ee : wfP v = false := by simp [wfP, h1]
    simp -implicitDefEqProofs only [RR, RE, RP, RG, takeV, reduceEqDiff, ↓reduceIte, reduceCtorEq, reduceAdd, reduceLeDiff, reduceLT, Nat.reduceBEq, A125, A125p, h1]
    refine (w80 _ hn).use fun n2 _ => ?_
    simp -implicitDefEqProofs only [RR, RE, RP, RG, takeV, reduceEqDiff, ↓reduceIte, reduceCtorEq, reduceAdd, reduceLeDiff, reduceLT, Nat.reduceBEq, h1, ee, R125]
  | true =>
    cases h2 : (sized v.2) with
    | false =>
      have ee : wfP v = false := by simp [wfP, h1, h2]
      simp -implicitDefEqProofs only [RR, RE, RP, RG, takeV, reduceEqDiff, ↓reduceIte, reduceCtorEq, reduceAdd, reduceLeDiff, reduceLT, Nat.reduceBEq, A125, A125p, h1, h2]
      refine (w80 _ hn).use fun n2 _ => ?_
      simp -implicitDefEqProofs only [RR, RE, RP, RG, takeV, reduceEqDiff, ↓reduceIte, reduceCtorEq, reduceAdd, reduceLeDiff, reduceLT, Nat.reduceBEq, h1, h2]
      refine (w78 _).use fun n2 _ => ?_
      simp -implicitDefEqProofs only [RR, RE, RP, RG, takeV, reduceEqDiff, ↓reduceIte, reduceCtorEq, reduceAdd, reduceLeDiff, reduceLT, Nat.reduceBEq, h1, h2, ee, R125]
    | true =>
      have ee : wfP v = true := by simp [wfP, h1, h2]
      simp -implicitDefEqProofs only [RR, RE, RP, RG, takeV, reduceEqDiff, ↓reduceIte, reduceCtorEq, reduceAdd, reduceLeDiff, reduceLT, Nat.reduceBEq, A125, A125p, h1, h2]
      refine (w80 _ hn).use fun n2 _ => ?_
      simp -implicitDefEqProofs only [RR, RE, RP, RG, takeV, reduceEqDiff, ↓reduceIte, reduceCtorEq, reduceAdd, reduceLeDiff, reduceLT, Nat.reduceBEq, h1, h2]
      refine (w78 _).use fun n2 _ => ?_
      simp -implicitDefEqProofs only [RR, RE, RP, RG, takeV, reduceEqDiff, ↓reduceIte, reduceCtorEq, reduceAdd, reduceLeDiff, reduceLT, Nat.reduceBEq, h1, h2, ee, R125]
theorem w89 (f : Fu) (hn : f.name.length ≤ 100000) (hp1 : ∀ v ∈ f.params, v.1.length ≤ 100000) (hpl : f.params.length ≤ 4611686018427387904) (hbl : f.body.length ≤ 4611686018427387904) (hb : ∀ x ∈ f.body, Pure Tryz.prog 127 [.agg (smE x)] (.bool (wfS x))) : Pure Tryz.prog 89 [.agg (fuE f)] (.bool (wfF f)) := by
  refine Pure.of fun nx => AC.go mixed is89 (by simp) ?_
  rw [fuE_eq]
  have c55 := w124 wfP f.params hpl fun x hx => w125 x (hp1 x hx)
  have c57 := w126 wfS f.body hbl hb
  cases h1 : (isNm f.name) with
  | false =>
    have ee : wfF f = false := by simp [wfF, h1]
    simp -implicitDefEqProofs only [RR, RE, RP, RG, takeV, reduceEqDiff, ↓reduceIte, reduceCtorEq, reduceAdd, reduceLeDiff, reduceLT, Nat.reduceBEq, A89, A89p, ↓c_pms, ↓p_pms, ↓c_sms, ↓p_sms, h1]
    refine c55.use fun n2 _ => ?_
    simp -implicitDefEqProofs only [RR, RE, RP, RG, takeV, reduceEqDiff, ↓reduceIte, reduceCtorEq, reduceAdd, reduceLeDiff, reduceLT, Nat.reduceBEq, ↓c_pms, ↓p_pms, ↓c_sms, ↓p_sms, h1]
    refine (w80 _ hn).use fun n2 _ => ?_
    simp -implicitDefEqProofs only [RR, RE, RP, RG, takeV, reduceEqDiff, ↓reduceIte, reduceCtorEq, reduceAdd, reduceLeDiff, reduceLT, Nat.reduceBEq, ↓c_pms, ↓p_pms, ↓c_sms, ↓p_sms, h1, ee, R89]
  | true =>
    cases h0 : (f.params.all wfP) with
    | false =>
      have ee : wfF f = false := by simp [wfF, h1, h0]
      simp -implicitDefEqProofs only [RR, RE, RP, RG, takeV, reduceEqDiff, ↓reduceIte, reduceCtorEq, reduceAdd, reduceLeDiff, reduceLT, Nat.reduceBEq, A89, A89p, ↓c_pms, ↓p_pms, ↓c_sms, ↓p_sms, h1, h0]
      refine c55.use fun n2 _ => ?_
      simp -implicitDefEqProofs only [RR, RE, RP, RG, takeV, reduceEqDiff, ↓reduceIte, reduceCtorEq, reduceAdd, reduceLeDiff, reduceLT, Nat.reduceBEq, ↓c_pms, ↓p_pms, ↓c_sms, ↓p_sms, h1, h0]
      refine (w80 _ hn).use fun n2 _ => ?_
      simp -implicitDefEqProofs only [RR, RE, RP, RG, takeV, reduceEqDiff, ↓reduceIte, reduceCtorEq, reduceAdd, reduceLeDiff, reduceLT, Nat.reduceBEq, ↓c_pms, ↓p_pms, ↓c_sms, ↓p_sms, h1, h0, ee, R89]
    | true =>
      rcases dec_cases (f.result = 0) with ⟨h2', h2⟩ | ⟨h2', h2⟩
      case inl =>
        cases h4 : (f.body.all wfS) with
        | false =>
          have ee : wfF f = false := by simp [wfF, h1, h0, h2, h4]
          simp -implicitDefEqProofs only [RR, RE, RP, RG, takeV, reduceEqDiff, ↓reduceIte, reduceCtorEq, reduceAdd, reduceLeDiff, reduceLT, Nat.reduceBEq, A89, A89p, ↓c_pms, ↓p_pms, ↓c_sms, ↓p_sms, h1, h0, h2, h4]
          refine c55.use fun n2 _ => ?_
          simp -implicitDefEqProofs only [RR, RE, RP, RG, takeV, reduceEqDiff, ↓reduceIte, reduceCtorEq, reduceAdd, reduceLeDiff, reduceLT, Nat.reduceBEq, ↓c_pms, ↓p_pms, ↓c_sms, ↓p_sms, h1, h0, h2, h4]
          refine (w80 _ hn).use fun n2 _ => ?_
          simp -implicitDefEqProofs only [RR, RE, RP, RG, takeV, reduceEqDiff, ↓reduceIte, reduceCtorEq, reduceAdd, reduceLeDiff, reduceLT, Nat.reduceBEq, ↓c_pms, ↓p_pms, ↓c_sms, ↓p_sms, h1, h0, h2, h4]
          refine c57.use fun n2 _ => ?_
          simp -implicitDefEqProofs only [RR, RE, RP, RG, takeV, reduceEqDiff, ↓reduceIte, reduceCtorEq, reduceAdd, reduceLeDiff, reduceLT, Nat.reduceBEq, ↓c_pms, ↓p_pms, ↓c_sms, ↓p_sms, h1, h0, h2, h4, ee, R89]
        | true =>
          have ee : wfF f = true := by simp [wfF, h1, h0, h2, h4]
          simp -implicitDefEqProofs only [RR, RE, RP, RG, takeV, reduceEqDiff, ↓reduceIte, reduceCtorEq, reduceAdd, reduceLeDiff, reduceLT, Nat.reduceBEq, A89, A89p, ↓c_pms, ↓p_pms, ↓c_sms, ↓p_sms, h1, h0, h2, h4]
          refine c55.use fun n2 _ => ?_
          simp -implicitDefEqProofs only [RR, RE, RP, RG, takeV, reduceEqDiff, ↓reduceIte, reduceCtorEq, reduceAdd, reduceLeDiff, reduceLT, Nat.reduceBEq, ↓c_pms, ↓p_pms, ↓c_sms, ↓p_sms, h1, h0, h2, h4]
          refine (w80 _ hn).use fun n2 _ => ?_
          simp -implicitDefEqProofs only [RR, RE, RP, RG, takeV, reduceEqDiff, ↓reduceIte, reduceCtorEq, reduceAdd, reduceLeDiff, reduceLT, Nat.reduceBEq, ↓c_pms, ↓p_pms, ↓c_sms, ↓p_sms, h1, h0, h2, h4]
          refine c57.use fun n2 _ => ?_
          simp -implicitDefEqProofs only [RR, RE, RP, RG, takeV, reduceEqDiff, ↓reduceIte, reduceCtorEq, reduceAdd, reduceLeDiff, reduceLT, Nat.reduceBEq, ↓c_pms, ↓p_pms, ↓c_sms, ↓p_sms, h1, h0, h2, h4, ee, R89]
      cases h3 : (sized f.result) with
      | false =>
        have ee : wfF f = false := by simp [wfF, h1, h0, h2, h3]
        simp -implicitDefEqProofs only [RR, RE, RP, RG, takeV, reduceEqDiff, ↓reduceIte, reduceCtorEq, reduceAdd, reduceLeDiff, reduceLT, Nat.reduceBEq, A89, A89p, ↓c_pms, ↓p_pms, ↓c_sms, ↓p_sms, h1, h0, h2, h3]
        refine c55.use fun n2 _ => ?_
        simp -implicitDefEqProofs only [RR, RE, RP, RG, takeV, reduceEqDiff, ↓reduceIte, reduceCtorEq, reduceAdd, reduceLeDiff, reduceLT, Nat.reduceBEq, ↓c_pms, ↓p_pms, ↓c_sms, ↓p_sms, h1, h0, h2, h3]
        refine (w80 _ hn).use fun n2 _ => ?_
        simp -implicitDefEqProofs only [RR, RE, RP, RG, takeV, reduceEqDiff, ↓reduceIte, reduceCtorEq, reduceAdd, reduceLeDiff, reduceLT, Nat.reduceBEq, ↓c_pms, ↓p_pms, ↓c_sms, ↓p_sms, h1, h0, h2, h3]
        refine (w78 _).use fun n2 _ => ?_
        simp -implicitDefEqProofs only [RR, RE, RP, RG, takeV, reduceEqDiff, ↓reduceIte, reduceCtorEq, reduceAdd, reduceLeDiff, reduceLT, Nat.reduceBEq, ↓c_pms, ↓p_pms, ↓c_sms, ↓p_sms, h1, h0, h2, h3, ee, R89]
      | true =>
        cases h4 : (f.body.all wfS) with
        | false =>
          have ee : wfF f = false := by simp [wfF, h1, h0, h2, h3, h4]
          simp -implicitDefEqProofs only [RR, RE, RP, RG, takeV, reduceEqDiff, ↓reduceIte, reduceCtorEq, reduceAdd, reduceLeDiff, reduceLT, Nat.reduceBEq, A89, A89p, ↓c_pms, ↓p_pms, ↓c_sms, ↓p_sms, h1, h0, h2, h3, h4]
          refine c55.use fun n2 _ => ?_
          simp -implicitDefEqProofs only [RR, RE, RP, RG, takeV, reduceEqDiff, ↓reduceIte, reduceCtorEq, reduceAdd, reduceLeDiff, reduceLT, Nat.reduceBEq, ↓c_pms, ↓p_pms, ↓c_sms, ↓p_sms, h1, h0, h2, h3, h4]
          refine (w80 _ hn).use fun n2 _ => ?_
          simp -implicitDefEqProofs only [RR, RE, RP, RG, takeV, reduceEqDiff, ↓reduceIte, reduceCtorEq, reduceAdd, reduceLeDiff, reduceLT, Nat.reduceBEq, ↓c_pms, ↓p_pms, ↓c_sms, ↓p_sms, h1, h0, h2, h3, h4]
          refine (w78 _).use fun n2 _ => ?_
          simp -implicitDefEqProofs only [RR, RE, RP, RG, takeV, reduceEqDiff, ↓reduceIte, reduceCtorEq, reduceAdd, reduceLeDiff, reduceLT, Nat.reduceBEq, ↓c_pms, ↓p_pms, ↓c_sms, ↓p_sms, h1, h0, h2, h3, h4]
          refine c57.use fun n2 _ => ?_
          simp -implicitDefEqProofs only [RR, RE, RP, RG, takeV, reduceEqDiff, ↓reduceIte, reduceCtorEq, reduceAdd, reduceLeDiff, reduceLT, Nat.reduceBEq, ↓c_pms, ↓p_pms, ↓c_sms, ↓p_sms, h1, h0, h2, h3, h4, ee, R89]
        | true =>
          have ee : wfF f = true := by simp [wfF, h1, h0, h2, h3, h4]
          simp -implicitDefEqProofs only [RR, RE, RP, RG, takeV, reduceEqDiff, ↓reduceIte, reduceCtorEq, reduceAdd, reduceLeDiff, reduceLT, Nat.reduceBEq, A89, A89p, ↓c_pms, ↓p_pms, ↓c_sms, ↓p_sms, h1, h0, h2, h3, h4]
          refine c55.use fun n2 _ => ?_
          simp -implicitDefEqProofs only [RR, RE, RP, RG, takeV, reduceEqDiff, ↓reduceIte, reduceCtorEq, reduceAdd, reduceLeDiff, reduceLT, Nat.reduceBEq, ↓c_pms, ↓p_pms, ↓c_sms, ↓p_sms, h1, h0, h2, h3, h4]
          refine (w80 _ hn).use fun n2 _ => ?_
          simp -implicitDefEqProofs only [RR, RE, RP, RG, takeV, reduceEqDiff, ↓reduceIte, reduceCtorEq, reduceAdd, reduceLeDiff, reduceLT, Nat.reduceBEq, ↓c_pms, ↓p_pms, ↓c_sms, ↓p_sms, h1, h0, h2, h3, h4]
          refine (w78 _).use fun n2 _ => ?_
          simp -implicitDefEqProofs only [RR, RE, RP, RG, takeV, reduceEqDiff, ↓reduceIte, reduceCtorEq, reduceAdd, reduceLeDiff, reduceLT, Nat.reduceBEq, ↓c_pms, ↓p_pms, ↓c_sms, ↓p_sms, h1, h0, h2, h3, h4]
          refine c57.use fun n2 _ => ?_
          simp -implicitDefEqProofs only [RR, RE, RP, RG, takeV, reduceEqDiff, ↓reduceIte, reduceCtorEq, reduceAdd, reduceLeDiff, reduceLT, Nat.reduceBEq, ↓c_pms, ↓p_pms, ↓c_sms, ↓p_sms, h1, h0, h2, h3, h4, ee, R89]
def wfR (p : Pr) : Bool := p.arrays.all wfA && p.funcs.all wfF && decide (0 < p.funcs.length)
theorem all_step {α : Type} {g : α → Bool} {l : List α} {i : Nat} {r : α} (hr : l[i]? = some r) (h : (l.take i).all g = true) (hg : g r = true) : (l.take (i + 1)).all g = true := by
  rw [take_succ hr, List.all_append, h]; simp [hg]
theorem all_end {α : Type} {g : α → Bool} {l : List α} {i : Nat} (hi : l.length ≤ i) (h : (l.take i).all g = true) : l.all g = true := by
  rwa [List.take_of_length_le hi] at h
theorem all_bad {α : Type} {g : α → Bool} {l : List α} {i : Nat} {r : α} (hr : l[i]? = some r) (hg : g r = false) : l.all g = false := by
  rw [List.all_eq_false]; exact ⟨r, List.mem_of_getElem? hr, by simp [hg]⟩
set_option maxHeartbeats 4000000 in
theorem w57 (p : Pr) (ha : ∀ a ∈ p.arrays, a.name.length ≤ 100000) (hal : p.arrays.length ≤ 4611686018427387904) (hfl : p.funcs.length ≤ 4611686018427387904) (hf : ∀ f ∈ p.funcs, f.name.length ≤ 100000 ∧ (∀ v ∈ f.params, v.1.length ≤ 100000) ∧ f.params.length ≤ 4611686018427387904 ∧ Pure Tryz.prog 104 [smsA f.body] (.bool (f.body.all wfS))) : Pure Tryz.prog 57 [.agg (prE p)] (.bool (wfR p)) := by
  refine Pure.of fun nx => AC.go mixed is57 (by simp) ?_
  rw [prE_eq]
  have la := ars_len p.arrays
  have lf := fus_len p.funcs
  simp -implicitDefEqProofs only [RR, RE, RP, RG, takeV, reduceEqDiff, ↓reduceIte, reduceCtorEq, reduceAdd, reduceLeDiff, reduceLT, Nat.reduceBEq, A57, A57p, la, lf, ↓c_ars, ↓p_ars, ↓c_fus, ↓p_fus]
  refine go_rounds (fun q st => ∃ i : Nat, q = p.arrays.length - i ∧ i ≤ p.arrays.length ∧ (p.arrays.take i).all wfA = true ∧ eget st.env 1 = some (.op nx 0) ∧ eget st.env 3 = some (.int .i64 i) ∧ hget st.heap nx = some (.cells [arsA p.arrays, fusA p.funcs]) ∧ nx < st.nx ∧ st.dm = []) (n := p.arrays.length) mixed
    ⟨0, rfl, by omega, by simp, by simp [eget], by simp [eget], by simp [hget], by simp, rfl⟩ ?_
  rintro q ⟨env, heap, nx', dm⟩ ⟨i, rfl, hi, hall, g1, g3, gh, hnx, hdm⟩
  simp only at g1 g3 gh hnx hdm
  subst hdm
  have f1 : IntKind.i64.wrap ((i : Int) + 1) = ((i + 1 : Nat) : Int) := by rw [w64 (by omega) (by omega)]; omega
  have nn : (nx' = nx) = False := eq_false (by omega)
  by_cases hc : (i : Int) < (p.arrays.length : Int)
  case pos =>
    have hr := List.getElem?_eq_getElem (show i < p.arrays.length by omega)
    generalize p.arrays[i] = a at hr
    have ix := ars_idx hr
    have hmem := List.mem_of_getElem? hr
    have hn := ha a hmem
    have rl := ar_len a
    have rt := ar_take a
    have ae := arE_eq a
    cases h1 : (isNm a.name) with
    | false =>
      have eb : wfA a = false := by simp [wfA, h1]
      have ee : wfR p = false := by simp [wfR, all_bad hr eb]
      simp -implicitDefEqProofs only [RR, RE, RP, RG, takeV, reduceEqDiff, ↓reduceIte, reduceCtorEq, reduceAdd, reduceLeDiff, reduceLT, Nat.reduceBEq, A57l0, A57l0p, ↓c_ars, ↓p_ars, ↓c_fus, ↓p_fus, b_and, band_eq, Option.map_some, unA, g1, g3, gh, nn, la, hc, ix, rl, rt, ae, h1]
      refine (w97 _ hn).use fun n2 _ => ?_
      simp -implicitDefEqProofs only [RR, RE, RP, RG, takeV, reduceEqDiff, ↓reduceIte, reduceCtorEq, reduceAdd, reduceLeDiff, reduceLT, Nat.reduceBEq, b_and, band_eq, Option.map_some, unA, g1, g3, gh, nn, la, hc, ix, rl, rt, ae, h1, ee, R57]
    | true =>
      rcases dec_cases (a.width = 1) with ⟨h3', h3⟩ | ⟨h3', h3⟩
      case inl =>
        have eb : wfA a = false := by simp [wfA, h3']
        have ee : wfR p = false := by simp [wfR, all_bad hr eb]
        simp -implicitDefEqProofs only [RR, RE, RP, RG, takeV, reduceEqDiff, ↓reduceIte, reduceCtorEq, reduceAdd, reduceLeDiff, reduceLT, Nat.reduceBEq, A57l0, A57l0p, ↓c_ars, ↓p_ars, ↓c_fus, ↓p_fus, b_and, band_eq, Option.map_some, unA, g1, g3, gh, nn, la, hc, ix, rl, rt, ae, h1, h3]
        refine (w97 _ hn).use fun n2 _ => ?_
        simp -implicitDefEqProofs only [RR, RE, RP, RG, takeV, reduceEqDiff, ↓reduceIte, reduceCtorEq, reduceAdd, reduceLeDiff, reduceLT, Nat.reduceBEq, b_and, band_eq, Option.map_some, unA, g1, g3, gh, nn, la, hc, ix, rl, rt, ae, h1, h3, ee, R57]
      cases h2 : (sized a.width) with
      | false =>
        have eb : wfA a = false := by simp [wfA, h2]
        have ee : wfR p = false := by simp [wfR, all_bad hr eb]
        simp -implicitDefEqProofs only [RR, RE, RP, RG, takeV, reduceEqDiff, ↓reduceIte, reduceCtorEq, reduceAdd, reduceLeDiff, reduceLT, Nat.reduceBEq, A57l0, A57l0p, ↓c_ars, ↓p_ars, ↓c_fus, ↓p_fus, b_and, band_eq, Option.map_some, unA, g1, g3, gh, nn, la, hc, ix, rl, rt, ae, h1, h3, h2]
        refine (w97 _ hn).use fun n2 _ => ?_
        simp -implicitDefEqProofs only [RR, RE, RP, RG, takeV, reduceEqDiff, ↓reduceIte, reduceCtorEq, reduceAdd, reduceLeDiff, reduceLT, Nat.reduceBEq, b_and, band_eq, Option.map_some, unA, g1, g3, gh, nn, la, hc, ix, rl, rt, ae, h1, h3, h2]
        refine (w96 _).use fun n2 _ => ?_
        simp -implicitDefEqProofs only [RR, RE, RP, RG, takeV, reduceEqDiff, ↓reduceIte, reduceCtorEq, reduceAdd, reduceLeDiff, reduceLT, Nat.reduceBEq, b_and, band_eq, Option.map_some, unA, g1, g3, gh, nn, la, hc, ix, rl, rt, ae, h1, h3, h2, ee, R57]
      | true =>
        rcases dec_cases (a.len < 1) with ⟨h4', h4⟩ | ⟨h4', h4⟩
        case inl =>
          have eb : wfA a = false := by simp only [wfA, Bool.and_eq_false_iff, decide_eq_false_iff_not]; omega
          have ee : wfR p = false := by simp [wfR, all_bad hr eb]
          simp -implicitDefEqProofs only [RR, RE, RP, RG, takeV, reduceEqDiff, ↓reduceIte, reduceCtorEq, reduceAdd, reduceLeDiff, reduceLT, Nat.reduceBEq, A57l0, A57l0p, ↓c_ars, ↓p_ars, ↓c_fus, ↓p_fus, b_and, band_eq, Option.map_some, unA, g1, g3, gh, nn, la, hc, ix, rl, rt, ae, h1, h3, h2, h4]
          refine (w97 _ hn).use fun n2 _ => ?_
          simp -implicitDefEqProofs only [RR, RE, RP, RG, takeV, reduceEqDiff, ↓reduceIte, reduceCtorEq, reduceAdd, reduceLeDiff, reduceLT, Nat.reduceBEq, b_and, band_eq, Option.map_some, unA, g1, g3, gh, nn, la, hc, ix, rl, rt, ae, h1, h3, h2, h4]
          refine (w96 _).use fun n2 _ => ?_
          simp -implicitDefEqProofs only [RR, RE, RP, RG, takeV, reduceEqDiff, ↓reduceIte, reduceCtorEq, reduceAdd, reduceLeDiff, reduceLT, Nat.reduceBEq, b_and, band_eq, Option.map_some, unA, g1, g3, gh, nn, la, hc, ix, rl, rt, ae, h1, h3, h2, h4, ee, R57]
        rcases dec_cases ((64 : Int) < a.len) with ⟨h5', h5⟩ | ⟨h5', h5⟩
        case inl =>
          have eb : wfA a = false := by simp only [wfA, Bool.and_eq_false_iff, decide_eq_false_iff_not]; omega
          have ee : wfR p = false := by simp [wfR, all_bad hr eb]
          simp -implicitDefEqProofs only [RR, RE, RP, RG, takeV, reduceEqDiff, ↓reduceIte, reduceCtorEq, reduceAdd, reduceLeDiff, reduceLT, Nat.reduceBEq, A57l0, A57l0p, ↓c_ars, ↓p_ars, ↓c_fus, ↓p_fus, b_and, band_eq, Option.map_some, unA, g1, g3, gh, nn, la, hc, ix, rl, rt, ae, h1, h3, h2, h4, h5]
          refine (w97 _ hn).use fun n2 _ => ?_
          simp -implicitDefEqProofs only [RR, RE, RP, RG, takeV, reduceEqDiff, ↓reduceIte, reduceCtorEq, reduceAdd, reduceLeDiff, reduceLT, Nat.reduceBEq, b_and, band_eq, Option.map_some, unA, g1, g3, gh, nn, la, hc, ix, rl, rt, ae, h1, h3, h2, h4, h5]
          refine (w96 _).use fun n2 _ => ?_
          simp -implicitDefEqProofs only [RR, RE, RP, RG, takeV, reduceEqDiff, ↓reduceIte, reduceCtorEq, reduceAdd, reduceLeDiff, reduceLT, Nat.reduceBEq, b_and, band_eq, Option.map_some, unA, g1, g3, gh, nn, la, hc, ix, rl, rt, ae, h1, h3, h2, h4, h5, ee, R57]
        rcases dec_cases (band64 a.len (IntKind.i64.wrap (a.len - 1)) = 0) with ⟨h6', h6⟩ | ⟨h6', h6⟩
        case inr =>
          have eb : wfA a = false := by simp [wfA, h6]
          have ee : wfR p = false := by simp [wfR, all_bad hr eb]
          simp -implicitDefEqProofs only [RR, RE, RP, RG, takeV, reduceEqDiff, ↓reduceIte, reduceCtorEq, reduceAdd, reduceLeDiff, reduceLT, Nat.reduceBEq, A57l0, A57l0p, ↓c_ars, ↓p_ars, ↓c_fus, ↓p_fus, b_and, band_eq, Option.map_some, unA, g1, g3, gh, nn, la, hc, ix, rl, rt, ae, h1, h3, h2, h4, h5, h6]
          refine (w97 _ hn).use fun n2 _ => ?_
          simp -implicitDefEqProofs only [RR, RE, RP, RG, takeV, reduceEqDiff, ↓reduceIte, reduceCtorEq, reduceAdd, reduceLeDiff, reduceLT, Nat.reduceBEq, b_and, band_eq, Option.map_some, unA, g1, g3, gh, nn, la, hc, ix, rl, rt, ae, h1, h3, h2, h4, h5, h6]
          refine (w96 _).use fun n2 _ => ?_
          simp -implicitDefEqProofs only [RR, RE, RP, RG, takeV, reduceEqDiff, ↓reduceIte, reduceCtorEq, reduceAdd, reduceLeDiff, reduceLT, Nat.reduceBEq, b_and, band_eq, Option.map_some, unA, g1, g3, gh, nn, la, hc, ix, rl, rt, ae, h1, h3, h2, h4, h5, h6, ee, R57]
        have ew : 1 < a.width := by simp only [sized, Bool.or_eq_true, decide_eq_true_iff] at h2; omega
        have eb : wfA a = true := by simp only [wfA, h1, h2, h6, decide_true, Bool.and_true, Bool.true_and, Bool.and_eq_true, decide_eq_true_iff]; omega
        simp -implicitDefEqProofs only [RR, RE, RP, RG, takeV, reduceEqDiff, ↓reduceIte, reduceCtorEq, reduceAdd, reduceLeDiff, reduceLT, Nat.reduceBEq, A57l0, A57l0p, ↓c_ars, ↓p_ars, ↓c_fus, ↓p_fus, b_and, band_eq, Option.map_some, unA, g1, g3, gh, nn, la, hc, ix, rl, rt, ae, h1, h3, h2, h4, h5, h6]
        refine (w97 _ hn).use fun n2 _ => ?_
        simp -implicitDefEqProofs only [RR, RE, RP, RG, takeV, reduceEqDiff, ↓reduceIte, reduceCtorEq, reduceAdd, reduceLeDiff, reduceLT, Nat.reduceBEq, b_and, band_eq, Option.map_some, unA, g1, g3, gh, nn, la, hc, ix, rl, rt, ae, h1, h3, h2, h4, h5, h6]
        refine (w96 _).use fun n2 _ => ?_
        simp -implicitDefEqProofs only [RR, RE, RP, RG, takeV, reduceEqDiff, ↓reduceIte, reduceCtorEq, reduceAdd, reduceLeDiff, reduceLT, Nat.reduceBEq, b_and, band_eq, Option.map_some, unA, g1, g3, gh, nn, la, hc, ix, rl, rt, ae, h1, h3, h2, h4, h5, h6, f1]
        refine ⟨p.arrays.length - (i + 1), by omega, i + 1, ?_⟩
        have hall2 := all_step hr hall eb
        repeat' apply And.intro
        all_goals first | assumption | rfl | omega | (simp [eget, hget, *]; done)
  replace hall := all_end (by omega) hall
  simp -implicitDefEqProofs only [RR, RE, RP, RG, takeV, reduceEqDiff, ↓reduceIte, reduceCtorEq, reduceAdd, reduceLeDiff, reduceLT, Nat.reduceBEq, A57l0, A57l0p, ↓c_ars, ↓p_ars, ↓c_fus, ↓p_fus, g1, g3, gh, la, hc]
  clear g3 hc f1 nn
  refine go_rounds (fun q st => ∃ i : Nat, q = p.funcs.length - i ∧ i ≤ p.funcs.length ∧ (p.funcs.take i).all wfF = true ∧ eget st.env 1 = some (.op nx 0) ∧ eget st.env 5 = some (.int .i64 i) ∧ hget st.heap nx = some (.cells [arsA p.arrays, fusA p.funcs]) ∧ nx < st.nx ∧ st.dm = []) (n := p.funcs.length) mixed
    ⟨0, rfl, by omega, by simp, by simp [eget, g1], by simp [eget], gh, hnx, rfl⟩ ?_
  clear g1 gh hnx env heap nx' hi i
  rintro q ⟨env, heap, nx', dm⟩ ⟨i, rfl, hi, hal2, g1, g5, gh, hnx, hdm⟩
  simp only at g1 g5 gh hnx hdm
  subst hdm
  have f1 : IntKind.i64.wrap ((i : Int) + 1) = ((i + 1 : Nat) : Int) := by rw [w64 (by omega) (by omega)]; omega
  have nn : (nx' = nx) = False := eq_false (by omega)
  by_cases hc : (i : Int) < (p.funcs.length : Int)
  case neg =>
    replace hal2 := all_end (by omega) hal2
    have ee : decide ((0 : Int) < (p.funcs.length : Int)) = wfR p := by
      simp only [wfR, hall, hal2, Bool.true_and]
      apply decide_eq_decide.2; omega
    simp -implicitDefEqProofs only [RR, RE, RP, RG, takeV, reduceEqDiff, ↓reduceIte, reduceCtorEq, reduceAdd, reduceLeDiff, reduceLT, Nat.reduceBEq, A57l2, A57l2p, ↓c_ars, ↓p_ars, ↓c_fus, ↓p_fus, g1, g5, gh, lf, hc, ee, R57]
  have hr := List.getElem?_eq_getElem (show i < p.funcs.length by omega)
  generalize p.funcs[i] = f at hr
  have ix := fus_idx hr
  have hmem := List.mem_of_getElem? hr
  obtain ⟨hn, hp1, hpl, c61⟩ := hf f hmem
  have rl := fu_len f
  have rt := fu_take f
  have fe := fuE_eq f
  have lp := pms_len f.params
  simp -implicitDefEqProofs only [RR, RE, RP, RG, takeV, reduceEqDiff, ↓reduceIte, reduceCtorEq, reduceAdd, reduceLeDiff, reduceLT, Nat.reduceBEq, A57l2, A57l2p, ↓c_ars, ↓p_ars, ↓c_fus, ↓p_fus, ↓c_pms, ↓p_pms, ↓c_sms, ↓p_sms, g1, g5, gh, lf, hc, ix, rl, rt, fe, nn, lp]
  refine go_rounds (fun q st => ∃ k : Nat, q = f.params.length - k ∧ k ≤ f.params.length ∧ (f.params.take k).all wfP = true ∧ eget st.env 1 = some (.op nx 0) ∧ eget st.env 5 = some (.int .i64 i) ∧ eget st.env 6 = some (.op nx' 0) ∧ eget st.env 7 = some (.int .i64 k) ∧ hget st.heap nx = some (.cells [arsA p.arrays, fusA p.funcs]) ∧ hget st.heap nx' = some (.cells [.str f.name, pmsA f.params, .int .i64 f.result, smsA f.body]) ∧ nx' < st.nx ∧ st.dm = []) (n := f.params.length) mixed
    ⟨0, rfl, by omega, by simp, by simp [eget, g1], by simp [eget, g5], by simp [eget], by simp [eget], by simp [hget, nn, gh], by simp [hget], by simp, rfl⟩ ?_
  clear g1 g5 gh env heap
  rintro q ⟨env, heap, nx2, dm⟩ ⟨k, rfl, hk, hkall, g1, g5, g6, g7, gh, gh2, hnx2, hdm⟩
  simp only at g1 g5 g6 g7 gh gh2 hnx2 hdm
  subst hdm
  have k1 : IntKind.i64.wrap ((k : Int) + 1) = ((k + 1 : Nat) : Int) := by rw [w64 (by omega) (by omega)]; omega
  by_cases hck : (k : Int) < (f.params.length : Int)
  case pos =>
    have hv := List.getElem?_eq_getElem (show k < f.params.length by omega)
    generalize f.params[k] = v at hv
    have iv := pms_idx hv
    have hvm := hp1 v (List.mem_of_getElem? hv)
    have ve := pmE_eq v
    cases h1 : (isNm v.1) with
    | false =>
      have eb : wfP v = false := by simp [wfP, h1]
      have ee : wfR p = false := by simp [wfR, all_bad hr (show wfF f = false by simp [wfF, all_bad hv eb])]
      simp -implicitDefEqProofs only [RR, RE, RP, RG, takeV, reduceEqDiff, ↓reduceIte, reduceCtorEq, reduceAdd, reduceLeDiff, reduceLT, Nat.reduceBEq, A57l1, A57l1p, unA, g1, g5, g6, g7, gh, gh2, lp, hck, iv, ve, h1]
      refine (w97 _ hvm).use fun n2 _ => ?_
      simp -implicitDefEqProofs only [RR, RE, RP, RG, takeV, reduceEqDiff, ↓reduceIte, reduceCtorEq, reduceAdd, reduceLeDiff, reduceLT, Nat.reduceBEq, unA, g1, g5, g6, g7, gh, gh2, lp, hck, iv, ve, h1, ee, R57]
    | true =>
      cases h2 : (sized v.2) with
      | false =>
        have eb : wfP v = false := by simp [wfP, h1, h2]
        have ee : wfR p = false := by simp [wfR, all_bad hr (show wfF f = false by simp [wfF, all_bad hv eb])]
        simp -implicitDefEqProofs only [RR, RE, RP, RG, takeV, reduceEqDiff, ↓reduceIte, reduceCtorEq, reduceAdd, reduceLeDiff, reduceLT, Nat.reduceBEq, A57l1, A57l1p, unA, g1, g5, g6, g7, gh, gh2, lp, hck, iv, ve, h1, h2]
        refine (w97 _ hvm).use fun n2 _ => ?_
        simp -implicitDefEqProofs only [RR, RE, RP, RG, takeV, reduceEqDiff, ↓reduceIte, reduceCtorEq, reduceAdd, reduceLeDiff, reduceLT, Nat.reduceBEq, unA, g1, g5, g6, g7, gh, gh2, lp, hck, iv, ve, h1, h2]
        refine (w96 _).use fun n2 _ => ?_
        simp -implicitDefEqProofs only [RR, RE, RP, RG, takeV, reduceEqDiff, ↓reduceIte, reduceCtorEq, reduceAdd, reduceLeDiff, reduceLT, Nat.reduceBEq, unA, g1, g5, g6, g7, gh, gh2, lp, hck, iv, ve, h1, h2, ee, R57]
      | true =>
        have eb : wfP v = true := by simp [wfP, h1, h2]
        simp -implicitDefEqProofs only [RR, RE, RP, RG, takeV, reduceEqDiff, ↓reduceIte, reduceCtorEq, reduceAdd, reduceLeDiff, reduceLT, Nat.reduceBEq, A57l1, A57l1p, unA, g1, g5, g6, g7, gh, gh2, lp, hck, iv, ve, h1, h2]
        refine (w97 _ hvm).use fun n2 _ => ?_
        simp -implicitDefEqProofs only [RR, RE, RP, RG, takeV, reduceEqDiff, ↓reduceIte, reduceCtorEq, reduceAdd, reduceLeDiff, reduceLT, Nat.reduceBEq, unA, g1, g5, g6, g7, gh, gh2, lp, hck, iv, ve, h1, h2]
        refine (w96 _).use fun n2 _ => ?_
        simp -implicitDefEqProofs only [RR, RE, RP, RG, takeV, reduceEqDiff, ↓reduceIte, reduceCtorEq, reduceAdd, reduceLeDiff, reduceLT, Nat.reduceBEq, unA, g1, g5, g6, g7, gh, gh2, lp, hck, iv, ve, h1, h2, k1]
        refine ⟨f.params.length - (k + 1), by omega, k + 1, ?_⟩
        have hall2 := all_step hv hkall eb
        repeat' apply And.intro
        all_goals first | assumption | rfl | omega | (simp [eget, hget, *]; done)
  have h0 := all_end (by omega) hkall
  cases h1 : (isNm f.name) with
  | false =>
    have eb : wfF f = false := by simp [wfF, h1, h0]
    have ee : wfR p = false := by simp [wfR, all_bad hr eb]
    simp -implicitDefEqProofs only [RR, RE, RP, RG, takeV, reduceEqDiff, ↓reduceIte, reduceCtorEq, reduceAdd, reduceLeDiff, reduceLT, Nat.reduceBEq, A57l1, A57l1p, unA, g1, g5, g6, g7, gh, gh2, lp, hck, h1]
    refine (w97 _ hn).use fun n2 _ => ?_
    simp -implicitDefEqProofs only [RR, RE, RP, RG, takeV, reduceEqDiff, ↓reduceIte, reduceCtorEq, reduceAdd, reduceLeDiff, reduceLT, Nat.reduceBEq, unA, g1, g5, g6, g7, gh, gh2, lp, hck, h1, ee, R57]
  | true =>
    rcases dec_cases (f.result = 0) with ⟨h2', h2⟩ | ⟨h2', h2⟩
    case inl =>
      cases h4 : (f.body.all wfS) with
      | false =>
        have eb : wfF f = false := by simp [wfF, h1, h2, h4, h0]
        have ee : wfR p = false := by simp [wfR, all_bad hr eb]
        simp -implicitDefEqProofs only [RR, RE, RP, RG, takeV, reduceEqDiff, ↓reduceIte, reduceCtorEq, reduceAdd, reduceLeDiff, reduceLT, Nat.reduceBEq, A57l1, A57l1p, unA, g1, g5, g6, g7, gh, gh2, lp, hck, h1, h2, h4]
        refine (w97 _ hn).use fun n2 _ => ?_
        simp -implicitDefEqProofs only [RR, RE, RP, RG, takeV, reduceEqDiff, ↓reduceIte, reduceCtorEq, reduceAdd, reduceLeDiff, reduceLT, Nat.reduceBEq, unA, g1, g5, g6, g7, gh, gh2, lp, hck, h1, h2, h4]
        refine c61.use fun n2 _ => ?_
        simp -implicitDefEqProofs only [RR, RE, RP, RG, takeV, reduceEqDiff, ↓reduceIte, reduceCtorEq, reduceAdd, reduceLeDiff, reduceLT, Nat.reduceBEq, unA, g1, g5, g6, g7, gh, gh2, lp, hck, h1, h2, h4, ee, R57]
      | true =>
        have eb : wfF f = true := by simp [wfF, h1, h2, h4, h0]
        simp -implicitDefEqProofs only [RR, RE, RP, RG, takeV, reduceEqDiff, ↓reduceIte, reduceCtorEq, reduceAdd, reduceLeDiff, reduceLT, Nat.reduceBEq, A57l1, A57l1p, unA, g1, g5, g6, g7, gh, gh2, lp, hck, h1, h2, h4]
        refine (w97 _ hn).use fun n2 _ => ?_
        simp -implicitDefEqProofs only [RR, RE, RP, RG, takeV, reduceEqDiff, ↓reduceIte, reduceCtorEq, reduceAdd, reduceLeDiff, reduceLT, Nat.reduceBEq, unA, g1, g5, g6, g7, gh, gh2, lp, hck, h1, h2, h4]
        refine c61.use fun n2 _ => ?_
        simp -implicitDefEqProofs only [RR, RE, RP, RG, takeV, reduceEqDiff, ↓reduceIte, reduceCtorEq, reduceAdd, reduceLeDiff, reduceLT, Nat.reduceBEq, unA, g1, g5, g6, g7, gh, gh2, lp, hck, h1, h2, h4, f1]
        refine ⟨p.funcs.length - (i + 1), by omega, i + 1, ?_⟩
        have hall2 := all_step hr hal2 eb
        repeat' apply And.intro
        all_goals first | assumption | rfl | omega | (simp [eget, hget, *]; done)
    cases h3 : (sized f.result) with
    | false =>
      have eb : wfF f = false := by simp [wfF, h1, h2, h3, h0]
      have ee : wfR p = false := by simp [wfR, all_bad hr eb]
      simp -implicitDefEqProofs only [RR, RE, RP, RG, takeV, reduceEqDiff, ↓reduceIte, reduceCtorEq, reduceAdd, reduceLeDiff, reduceLT, Nat.reduceBEq, A57l1, A57l1p, unA, g1, g5, g6, g7, gh, gh2, lp, hck, h1, h2, h3]
      refine (w97 _ hn).use fun n2 _ => ?_
      simp -implicitDefEqProofs only [RR, RE, RP, RG, takeV, reduceEqDiff, ↓reduceIte, reduceCtorEq, reduceAdd, reduceLeDiff, reduceLT, Nat.reduceBEq, unA, g1, g5, g6, g7, gh, gh2, lp, hck, h1, h2, h3]
      refine (w96 _).use fun n2 _ => ?_
      simp -implicitDefEqProofs only [RR, RE, RP, RG, takeV, reduceEqDiff, ↓reduceIte, reduceCtorEq, reduceAdd, reduceLeDiff, reduceLT, Nat.reduceBEq, unA, g1, g5, g6, g7, gh, gh2, lp, hck, h1, h2, h3, ee, R57]
    | true =>
      cases h4 : (f.body.all wfS) with
      | false =>
        have eb : wfF f = false := by simp [wfF, h1, h2, h3, h4, h0]
        have ee : wfR p = false := by simp [wfR, all_bad hr eb]
        simp -implicitDefEqProofs only [RR, RE, RP, RG, takeV, reduceEqDiff, ↓reduceIte, reduceCtorEq, reduceAdd, reduceLeDiff, reduceLT, Nat.reduceBEq, A57l1, A57l1p, unA, g1, g5, g6, g7, gh, gh2, lp, hck, h1, h2, h3, h4]
        refine (w97 _ hn).use fun n2 _ => ?_
        simp -implicitDefEqProofs only [RR, RE, RP, RG, takeV, reduceEqDiff, ↓reduceIte, reduceCtorEq, reduceAdd, reduceLeDiff, reduceLT, Nat.reduceBEq, unA, g1, g5, g6, g7, gh, gh2, lp, hck, h1, h2, h3, h4]
        refine (w96 _).use fun n2 _ => ?_
        simp -implicitDefEqProofs only [RR, RE, RP, RG, takeV, reduceEqDiff, ↓reduceIte, reduceCtorEq, reduceAdd, reduceLeDiff, reduceLT, Nat.reduceBEq, unA, g1, g5, g6, g7, gh, gh2, lp, hck, h1, h2, h3, h4]
        refine c61.use fun n2 _ => ?_
        simp -implicitDefEqProofs only [RR, RE, RP, RG, takeV, reduceEqDiff, ↓reduceIte, reduceCtorEq, reduceAdd, reduceLeDiff, reduceLT, Nat.reduceBEq, unA, g1, g5, g6, g7, gh, gh2, lp, hck, h1, h2, h3, h4, ee, R57]
      | true =>
        have eb : wfF f = true := by simp [wfF, h1, h2, h3, h4, h0]
        simp -implicitDefEqProofs only [RR, RE, RP, RG, takeV, reduceEqDiff, ↓reduceIte, reduceCtorEq, reduceAdd, reduceLeDiff, reduceLT, Nat.reduceBEq, A57l1, A57l1p, unA, g1, g5, g6, g7, gh, gh2, lp, hck, h1, h2, h3, h4]
        refine (w97 _ hn).use fun n2 _ => ?_
        simp -implicitDefEqProofs only [RR, RE, RP, RG, takeV, reduceEqDiff, ↓reduceIte, reduceCtorEq, reduceAdd, reduceLeDiff, reduceLT, Nat.reduceBEq, unA, g1, g5, g6, g7, gh, gh2, lp, hck, h1, h2, h3, h4]
        refine (w96 _).use fun n2 _ => ?_
        simp -implicitDefEqProofs only [RR, RE, RP, RG, takeV, reduceEqDiff, ↓reduceIte, reduceCtorEq, reduceAdd, reduceLeDiff, reduceLT, Nat.reduceBEq, unA, g1, g5, g6, g7, gh, gh2, lp, hck, h1, h2, h3, h4]
        refine c61.use fun n2 _ => ?_
        simp -implicitDefEqProofs only [RR, RE, RP, RG, takeV, reduceEqDiff, ↓reduceIte, reduceCtorEq, reduceAdd, reduceLeDiff, reduceLT, Nat.reduceBEq, unA, g1, g5, g6, g7, gh, gh2, lp, hck, h1, h2, h3, h4, f1]
        refine ⟨p.funcs.length - (i + 1), by omega, i + 1, ?_⟩
        have hall2 := all_step hr hal2 eb
        repeat' apply And.intro
        all_goals first | assumption | rfl | omega | (simp [eget, hget, *]; done)
end Go.Proofs.YtgeieafamocnhaaGreatDoor
namespace Go.Proofs.YtgeieafamocnhaaGreatDoor
open Go Go.Ab Go.Proofs
open Nat (reduceEqDiff reduceAdd reduceLeDiff reduceLT)
set_option linter.unusedVariables false
set_option linter.unusedSimpArgs false
set_option maxRecDepth 20000
theorem stmts_eq (x : Sm) : stmts x = stmtsL x.body + stmtsL x.els + 1 := by cases x; simp [stmts, Sm.body, Sm.els]
theorem vars_eq (x : Sm) : vars x = varsL x.body + varsL x.els + (if x.kind = 1 then 1 else 0) := by cases x; rw [vars, Sm.body, Sm.els, Sm.kind]
theorem high_eq (x : Sm) : high x = max (highL x.body) (highL x.els) + 1 := by cases x; simp [high, Sm.body, Sm.els]
theorem large_eq (x : Sm) : large x = (x.exprs.any big || largeL x.body || largeL x.els) := by cases x; simp [large, Sm.body, Sm.els, Sm.exprs]
theorem stmtsL_app : ∀ (a b : List Sm), stmtsL (a ++ b) = stmtsL a + stmtsL b
  | [], b => by simp [stmtsL]
  | x :: a, b => by simp only [List.cons_append, stmtsL, stmtsL_app a b]; omega
theorem varsL_app : ∀ (a b : List Sm), varsL (a ++ b) = varsL a + varsL b
  | [], b => by simp [varsL]
  | x :: a, b => by simp only [List.cons_append, varsL, varsL_app a b]; omega
theorem highL_app : ∀ (a b : List Sm), highL (a ++ b) = max (highL a) (highL b)
  | [], b => by simp [highL]
  | x :: a, b => by simp only [List.cons_append, highL, highL_app a b]; omega
theorem largeL_app : ∀ (a b : List Sm), largeL (a ++ b) = (largeL a || largeL b)
  | [], b => by simp [largeL]
  | x :: a, b => by simp only [List.cons_append, largeL, largeL_app a b, Bool.or_assoc]
theorem stmtsL_take {l : List Sm} {i : Nat} {r : Sm} (h : l[i]? = some r) : stmtsL (l.take (i + 1)) = stmtsL (l.take i) + stmts r := by
  rw [take_succ h, stmtsL_app]; simp [stmtsL]
theorem varsL_take {l : List Sm} {i : Nat} {r : Sm} (h : l[i]? = some r) : varsL (l.take (i + 1)) = varsL (l.take i) + vars r := by
  rw [take_succ h, varsL_app]; simp [varsL]
theorem highL_take {l : List Sm} {i : Nat} {r : Sm} (h : l[i]? = some r) : highL (l.take (i + 1)) = max (highL (l.take i)) (high r) := by
  rw [take_succ h, highL_app]; simp [highL]
theorem largeL_take {l : List Sm} {i : Nat} {r : Sm} (h : l[i]? = some r) : largeL (l.take (i + 1)) = (largeL (l.take i) || large r) := by
  rw [take_succ h, largeL_app]; simp [largeL]
theorem stmtsL_le {l : List Sm} (i : Nat) : stmtsL (l.take i) ≤ stmtsL l := by
  have := stmtsL_app (l.take i) (l.drop i)
  rw [List.take_append_drop] at this
  omega
theorem meas_le : ∀ (n : Nat) (x : Sm), stmts x ≤ n → vars x ≤ stmts x ∧ high x ≤ stmts x := by
  intro n
  induction n with
  | zero => intro x hx; have := stmts_pos x; omega
  | succ n ih =>
    intro x hx
    rw [vars_eq, high_eq, stmts_eq] at *
    have key : ∀ l : List Sm, stmtsL l ≤ n → varsL l ≤ stmtsL l ∧ highL l ≤ stmtsL l := by
      intro l
      induction l with
      | nil => intro _; simp [varsL, highL]
      | cons y l ihl =>
        intro hl
        simp only [stmtsL, varsL, highL] at hl ⊢
        have := ih y (by omega)
        have := ihl (by omega)
        omega
    have h1 := key x.body (by omega)
    have h2 := key x.els (by omega)
    split <;> omega
theorem measL_le : ∀ (l : List Sm), varsL l ≤ stmtsL l ∧ highL l ≤ stmtsL l
  | [] => by simp [varsL, highL]
  | x :: l => by
    have := measL_le l
    have := meas_le _ x (Nat.le_refl _)
    simp only [stmtsL, varsL, highL]; omega
theorem sh_mk {x : Sm} (h : shS x) : shEL x.exprs ∧ nodesL x.exprs ≤ 1152921504606846976 ∧ shSL x.body ∧ shSL x.els := by
  cases x; simp only [shS] at h; exact ⟨h.2.2.1, h.2.2.2.1, h.2.2.2.2.1, h.2.2.2.2.2⟩
theorem mx_nat (a b : Nat) : (if (b : Int) > (a : Int) then (b : Int) else (a : Int)) = ((max a b : Nat) : Int) := by split <;> omega
set_option maxHeartbeats 4000000 in
theorem w119 : ∀ (m : Nat) (l : List Sm), stmtsL l ≤ m → shSL l → ∀ (a v hg d b : Nat) (lg : Bool) (h : Heap) (nx : Nat), a + stmtsL l ≤ 4611686018427387904 → v ≤ a → hg ≤ a → d ≤ hg → b < nx → hget h b = some (.cells [.int .i64 a, .int .i64 v, .int .i64 hg, .bool lg]) →
    AC Tryz.prog 119 [.op b 0, smsA l, .int .i64 ((d + 1 : Nat) : Int)] h nx fun y h' n' => y = .ret (.tup []) ∧ nx ≤ n' ∧ hget h' b = some (.cells [.int .i64 ((a + stmtsL l : Nat) : Int), .int .i64 ((v + varsL l : Nat) : Int), .int .i64 ((max hg (d + highL l) : Nat) : Int), .bool (lg || largeL l)]) ∧ ∀ c o, c < nx → c ≠ b → hget h c = some o → hget h' c = some o := by
  intro m
  induction m with
  | zero =>
    intro l hl0 hsh a v hg d b lg h nx hB hv hh hd hb hbc
    have : l.length ≤ 0 := by have := stmtsL_len l; omega
    have : l = [] := List.eq_nil_of_length_eq_zero (by omega)
    subst this
    refine AC.go mixed is119 (by simp) ?_
    have lv := sms_len []
    have e : (max hg (d + 0)) = hg := by omega
    simp -implicitDefEqProofs only [RR, RE, RP, RG, takeV, reduceEqDiff, ↓reduceIte, reduceCtorEq, reduceAdd, reduceLeDiff, reduceLT, Nat.reduceBEq, A119, A119p, lv]
    refine go_rounds (fun q st => st.heap = h ∧ nx ≤ st.nx ∧ eget st.env 9 = some (.int .i64 0) ∧ eget st.env 10 = some (.int .i64 0) ∧ st.dm = []) (n := 0) mixed ⟨rfl, by simp, by simp [eget], by simp [eget], rfl⟩ ?_
    rintro q ⟨env, heap, nx', dm⟩ ⟨h1, h2, g9, g10, hdm⟩
    simp only at h1 h2 g9 g10 hdm
    subst hdm; subst h1
    simp -implicitDefEqProofs only [RR, RE, RP, RG, takeV, reduceEqDiff, ↓reduceIte, reduceCtorEq, reduceAdd, reduceLeDiff, reduceLT, Nat.reduceBEq, A119l0, A119l0p, g9, g10, Int.lt_irrefl, R119]
    exact ⟨h2, by rw [show max hg (d + highL []) = hg by simp only [highL]; omega]; simpa [stmtsL, varsL, largeL] using hbc, fun c o _ _ hc => hc⟩
  | succ m ih =>
    intro l hlm hsh a v hg d b lg h nx hB hv hh hd hb hbc
    refine AC.go mixed is119 (by simp) ?_
    have lv := sms_len l
    have hlen := stmtsL_len l
    simp -implicitDefEqProofs only [RR, RE, RP, RG, takeV, reduceEqDiff, ↓reduceIte, reduceCtorEq, reduceAdd, reduceLeDiff, reduceLT, Nat.reduceBEq, A119, A119p, lv]
    refine go_rounds (fun q st => ∃ i : Nat, q = l.length - i ∧ i ≤ l.length ∧ eget st.env 0 = some (.op b 0) ∧ eget st.env 2 = some (.int .i64 ((d + 1 : Nat) : Int)) ∧ eget st.env 8 = some (smsA l) ∧ eget st.env 9 = some (.int .i64 l.length) ∧ eget st.env 10 = some (.int .i64 i) ∧ hget st.heap b = some (.cells [.int .i64 ((a + stmtsL (l.take i) : Nat) : Int), .int .i64 ((v + varsL (l.take i) : Nat) : Int), .int .i64 ((max hg (d + highL (l.take i)) : Nat) : Int), .bool (lg || largeL (l.take i))]) ∧ (∀ c o, c < nx → c ≠ b → hget h c = some o → hget st.heap c = some o) ∧ nx ≤ st.nx ∧ st.dm = []) (n := l.length) mixed
      ⟨0, rfl, by omega, by simp [eget], by simp [eget], by simp [eget], by simp [eget], by simp [eget], by rw [show max hg (d + highL (List.take 0 l)) = hg by simp only [List.take_zero, highL]; omega]; simpa [stmtsL, varsL, largeL] using hbc, fun c o _ _ hc => hc, by simp, rfl⟩ ?_
    rintro q ⟨env, heap, nx', dm⟩ ⟨i, rfl, hi, g0, g2, g8, g9, g10, gb, gk, hnx, hdm⟩
    simp only at g0 g2 g8 g9 g10 gb gk hnx hdm
    subst hdm
    have f1 : IntKind.i64.wrap ((i : Int) + 1) = ((i + 1 : Nat) : Int) := by rw [w64 (by omega) (by omega)]; omega
    by_cases hc : (i : Int) < (l.length : Int)
    case neg =>
      have ht : l.take i = l := List.take_of_length_le (by omega)
      rw [ht] at gb
      simp -implicitDefEqProofs only [RR, RE, RP, RG, takeV, reduceEqDiff, ↓reduceIte, reduceCtorEq, reduceAdd, reduceLeDiff, reduceLT, Nat.reduceBEq, A119l0, A119l0p, g9, g10, hc, R119]
      exact ⟨hnx, gb, gk⟩
    have hr := List.getElem?_eq_getElem (show i < l.length by omega)
    generalize l[i] = s at hr
    have ix := sms_idx hr
    have hmem := List.mem_of_getElem? hr
    have rl := sm_len s
    have rt := sm_take s
    have se := smE_eq s
    have t1 := stmtsL_take hr
    have t2 := varsL_take hr
    have t3 := highL_take hr
    have t4 := largeL_take hr
    have t5 := stmtsL_le (l := l) (i + 1)
    have t6 := measL_le (l.take i)
    have t7 := meas_le _ s (Nat.le_refl _)
    have e1 := stmts_eq s
    have e2 := vars_eq s
    have e3 := high_eq s
    have e4 := large_eq s
    obtain ⟨x1, x2, x3, x4⟩ := sh_mk (shSL_mem hsh s hmem)
    have m1 := measL_le s.body
    have m2 := measL_le s.els
    have nb : (b = nx') = False := eq_false (by omega)
    have nb' : (nx' = b) = False := eq_false (by omega)
    have c69 : ∀ (h : Heap) (n : Nat), AC Tryz.prog 116 [exsA s.exprs, .fn (.func 37) []] h n fun y h' n' => y = .ret (.bool (s.exprs.any big)) ∧ h' = h ∧ n ≤ n' := fun h n => w116 big s.exprs h n (by have := nodesL_len s.exprs; omega) fun x hx n' _ => w37 x (by have := nodesL_memb hx; omega) h n'
    have a1 : IntKind.i64.wrap (((a + stmtsL (l.take i) : Nat) : Int) + 1) = ((a + stmtsL (l.take i) + 1 : Nat) : Int) := by rw [w64 (by omega) (by omega)]; omega
    have a2 : IntKind.i64.wrap (((v + varsL (l.take i) : Nat) : Int) + 1) = ((v + varsL (l.take i) + 1 : Nat) : Int) := by rw [w64 (by omega) (by omega)]; omega
    have a3 := mx_nat (max hg (d + highL (l.take i))) (d + 1)
    have a4 : IntKind.i64.wrap (((d + 1 : Nat) : Int) + 1) = ((d + 1 + 1 : Nat) : Int) := by rw [w64 (by omega) (by omega)]; omega
    have fin1 : ∀ (vv : Nat) (lg2 : Bool) (hp : Heap) (n0 : Nat), vv = v + varsL (l.take i) + (if s.kind = 1 then 1 else 0) → lg2 = (lg || largeL (l.take i) || s.exprs.any big) → nx' < n0 → hget hp b = some (.cells [.int .i64 ((a + stmtsL (l.take i) + 1 : Nat) : Int), .int .i64 (vv : Int), .int .i64 ((max (max hg (d + highL (l.take i))) (d + 1) : Nat) : Int), .bool lg2]) → AC Tryz.prog 119 [.op b 0, smsA s.body, .int .i64 ((d + 1 + 1 : Nat) : Int)] hp n0 fun y h' n' => y = .ret (.tup []) ∧ n0 ≤ n' ∧ (∃ (v3 g3 : Nat) (lg3 : Bool), hget h' b = some (.cells [.int .i64 ((a + stmtsL (l.take i) + 1 + stmtsL s.body : Nat) : Int), .int .i64 (v3 : Int), .int .i64 (g3 : Int), .bool lg3]) ∧ AC Tryz.prog 119 [.op b 0, smsA s.els, .int .i64 ((d + 1 + 1 : Nat) : Int)] h' n' fun y h'' n'' => y = .ret (.tup []) ∧ n' ≤ n'' ∧ hget h'' b = some (.cells [.int .i64 ((a + stmtsL (l.take (i + 1)) : Nat) : Int), .int .i64 ((v + varsL (l.take (i + 1)) : Nat) : Int), .int .i64 ((max hg (d + highL (l.take (i + 1))) : Nat) : Int), .bool (lg || largeL (l.take (i + 1)))]) ∧ ∀ c o, c < n' → c ≠ b → hget h' c = some o → hget h'' c = some o) ∧ ∀ c o, c < n0 → c ≠ b → hget hp c = some o → hget h' c = some o := by
      intro vv lg2 hp n0 hvv hlg2 hn0 hpb
      refine (ih s.body (by omega) x3 _ _ _ (d + 1) b _ hp n0 (by omega) (by split at hvv <;> omega) (by omega) (by omega) (by omega) hpb).mono ?_
      rintro y h' n' ⟨rfl, hn', hb', hk'⟩
      refine ⟨rfl, hn', ⟨_, _, _, hb', ?_⟩, hk'⟩
      refine (ih s.els (by omega) x4 _ _ _ (d + 1) b _ h' n' (by omega) (by split at hvv <;> omega) (by omega) (by omega) (by omega) hb').mono ?_
      rintro y h'' n'' ⟨rfl, hn'', hb'', hk''⟩
      refine ⟨rfl, hn'', ?_, hk''⟩
      rw [hb'']
      have q1 : a + stmtsL (l.take i) + 1 + stmtsL s.body + stmtsL s.els = a + stmtsL (l.take (i + 1)) := by omega
      have q2 : vv + varsL s.body + varsL s.els = v + varsL (l.take (i + 1)) := by omega
      have q3 : max (max (max (max hg (d + highL (l.take i))) (d + 1)) (d + 1 + highL s.body)) (d + 1 + highL s.els) = max hg (d + highL (l.take (i + 1))) := by omega
      have q4 : (lg2 || largeL s.body || largeL s.els) = (lg || largeL (l.take (i + 1))) := by
        rw [hlg2, t4, e4]; simp only [Bool.or_assoc]
      rw [q1, q2, q3, q4]
    rcases dec_cases (s.kind = 1) with ⟨hk', hk⟩ | ⟨hk', hk⟩
    all_goals
      cases hlg : (lg || largeL (l.take i)) with
      | true =>
        simp only [hlg] at gb fin1
        simp -implicitDefEqProofs only [RR, RE, RP, RG, takeV, reduceEqDiff, ↓reduceIte, reduceCtorEq, reduceAdd, reduceLeDiff, reduceLT, Nat.reduceBEq, A119l0, A119l0p, g0, g2, g8, g9, g10, gb, hc, ix, rl, rt, se, nb, nb', hk, a1, a2, a3, a4, ↓c_exs, ↓p_exs, ↓c_sms, ↓p_sms]
        refine (fin1 (v + varsL (l.take i) + (if s.kind = 1 then 1 else 0)) true _ _ rfl (by simp) (by omega) (by simp [hget, hk'])).mono ?_
        rintro y h' n' ⟨rfl, hn', ⟨v3, g3, lg3, hb', c2⟩, hk1⟩
        have gs := hk1 nx' _ (by omega) (by omega) (by simp [hget, nb]; rfl)
        simp -implicitDefEqProofs only [RR, RE, RP, RG, takeV, reduceEqDiff, ↓reduceIte, reduceCtorEq, reduceAdd, reduceLeDiff, reduceLT, Nat.reduceBEq, g0, g2, g8, g9, g10, gs, hb', a4]
        refine c2.mono ?_
        rintro y h'' n'' ⟨rfl, hn'', hb'', hk2⟩
        simp -implicitDefEqProofs only [RR, RE, RP, RG, takeV, reduceEqDiff, ↓reduceIte, reduceCtorEq, reduceAdd, reduceLeDiff, reduceLT, Nat.reduceBEq, g10, f1]
        refine ⟨l.length - (i + 1), by omega, i + 1, rfl, by omega, ?_⟩
        have hgk : ∀ c o, c < nx → c ≠ b → hget h c = some o → hget h'' c = some o := by
          intro c o hcn hcb hho
          refine hk2 c o (by omega) hcb (hk1 c o (by omega) hcb ?_)
          have q1 : b ≠ c := fun e => hcb e.symm
          have q2 : nx' ≠ c := by omega
          simp [hget, q1, q2, gk c o hcn hcb hho]
        repeat' apply And.intro
        all_goals first | assumption | rfl | omega | (simp [eget, *]; done)
      | false =>
        simp only [hlg] at gb fin1
        simp -implicitDefEqProofs only [RR, RE, RP, RG, takeV, reduceEqDiff, ↓reduceIte, reduceCtorEq, reduceAdd, reduceLeDiff, reduceLT, Nat.reduceBEq, A119l0, A119l0p, g0, g2, g8, g9, g10, gb, hc, ix, rl, rt, se, nb, nb', hk, a1, a2, a3, a4, ↓c_exs, ↓p_exs, ↓c_sms, ↓p_sms]
        refine (c69 _ _).mono ?_
        rintro y h' n0 ⟨rfl, rfl, hn0⟩
        simp -implicitDefEqProofs only [RR, RE, RP, RG, takeV, reduceEqDiff, ↓reduceIte, reduceCtorEq, reduceAdd, reduceLeDiff, reduceLT, Nat.reduceBEq, g0, g2, g8, g9, g10, gb, hc, ix, rl, rt, se, nb, nb', hk, a1, a2, a3, a4, ↓c_exs, ↓p_exs, ↓c_sms, ↓p_sms]
        refine (fin1 (v + varsL (l.take i) + (if s.kind = 1 then 1 else 0)) (s.exprs.any big) _ _ rfl (by simp) (by omega) (by simp [hget, hk'])).mono ?_
        rintro y h' n' ⟨rfl, hn', ⟨v3, g3, lg3, hb', c2⟩, hk1⟩
        have gs := hk1 nx' _ (by omega) (by omega) (by simp [hget, nb]; rfl)
        simp -implicitDefEqProofs only [RR, RE, RP, RG, takeV, reduceEqDiff, ↓reduceIte, reduceCtorEq, reduceAdd, reduceLeDiff, reduceLT, Nat.reduceBEq, g0, g2, g8, g9, g10, gs, hb', a4]
        refine c2.mono ?_
        rintro y h'' n'' ⟨rfl, hn'', hb'', hk2⟩
        simp -implicitDefEqProofs only [RR, RE, RP, RG, takeV, reduceEqDiff, ↓reduceIte, reduceCtorEq, reduceAdd, reduceLeDiff, reduceLT, Nat.reduceBEq, g10, f1]
        refine ⟨l.length - (i + 1), by omega, i + 1, rfl, by omega, ?_⟩
        have hgk : ∀ c o, c < nx → c ≠ b → hget h c = some o → hget h'' c = some o := by
          intro c o hcn hcb hho
          refine hk2 c o (by omega) hcb (hk1 c o (by omega) hcb ?_)
          have q1 : b ≠ c := fun e => hcb e.symm
          have q2 : nx' ≠ c := by omega
          simp [hget, q1, q2, gk c o hcn hcb hho]
        repeat' apply And.intro
        all_goals first | assumption | rfl | omega | (simp [eget, *]; done)
end Go.Proofs.YtgeieafamocnhaaGreatDoor
namespace Go.Proofs.YtgeieafamocnhaaGreatDoor
open Go Go.Ab Go.Proofs
open Nat (reduceEqDiff reduceAdd reduceLeDiff reduceLT)
set_option linter.unusedVariables false
set_option linter.unusedSimpArgs false
set_option maxRecDepth 20000
def hvF (f : Fu) : Bool := decide (8 < f.params.length) || decide (40 < f.params.length + varsL f.body) || decide (100 < stmtsL f.body) || decide (8 < highL f.body) || largeL f.body
def hvP (p : Pr) : Bool := decide (8 < p.arrays.length) || decide (16 < p.funcs.length) || p.funcs.any hvF
theorem w119' (l : List Sm) (hl : stmtsL l ≤ 4611686018427387904) (hs : shSL l) (b : Nat) (h : Heap) (nx : Nat) (hb : b < nx) (hc : hget h b = some (.cells [.int .i64 0, .int .i64 0, .int .i64 0, .bool false])) :
    AC Tryz.prog 119 [.op b 0, smsA l, .int .i64 1] h nx fun y h' n' => y = .ret (.tup []) ∧ nx ≤ n' ∧ hget h' b = some (.cells [.int .i64 (stmtsL l), .int .i64 (varsL l), .int .i64 (highL l), .bool (largeL l)]) ∧ ∀ c o, c < nx → c ≠ b → hget h c = some o → hget h' c = some o := by
  have := w119 _ l (Nat.le_refl _) hs 0 0 0 0 b false h nx (by omega) (by omega) (by omega) (by omega) hb (by simpa using hc)
  refine this.mono ?_
  rintro y h' n' ⟨h1, h2, h3, h4⟩
  refine ⟨h1, h2, ?_, h4⟩
  rw [h3]
  simp
theorem any_step {α : Type} {g : α → Bool} {l : List α} {i : Nat} {r : α} (hr : l[i]? = some r) (h : (l.take i).any g = false) (hg : g r = false) : (l.take (i + 1)).any g = false := by
  rw [take_succ hr, List.any_append, h]; simp [hg]
theorem any_end {α : Type} {g : α → Bool} {l : List α} {i : Nat} (hi : l.length ≤ i) (h : (l.take i).any g = false) : l.any g = false := by
  rwa [List.take_of_length_le hi] at h
theorem any_hit {α : Type} {g : α → Bool} {l : List α} {i : Nat} {r : α} (hr : l[i]? = some r) (hg : g r = true) : l.any g = true := by
  rw [List.any_eq_true]; exact ⟨r, List.mem_of_getElem? hr, hg⟩
set_option maxHeartbeats 4000000 in
theorem w85 (p : Pr) (hal : p.arrays.length ≤ 4611686018427387904) (hfl : p.funcs.length ≤ 4611686018427387904) (hf : ∀ f ∈ p.funcs, f.params.length ≤ 1152921504606846976 ∧ stmtsL f.body ≤ 1152921504606846976 ∧ shSL f.body) : Pure Tryz.prog 85 [.agg (prE p)] (.bool (hvP p)) := by
  refine Pure.of fun nx => AC.go mixed is85 (by simp) ?_
  rw [prE_eq]
  have la := ars_len p.arrays
  have lf := fus_len p.funcs
  rcases dec_cases ((8 : Int) < (p.arrays.length : Int)) with ⟨b1, d1⟩ | ⟨b1, d1⟩
  case inl =>
    have ee : hvP p = true := by simp only [hvP, Bool.or_eq_true, decide_eq_true_iff]; omega
    simp -implicitDefEqProofs only [RR, RE, RP, RG, takeV, reduceEqDiff, ↓reduceIte, reduceCtorEq, reduceAdd, reduceLeDiff, reduceLT, Nat.reduceBEq, A85, A85p, d1, ee, R85, ↓c_ars, ↓p_ars, ↓c_fus, ↓p_fus, ↓c_pms, ↓p_pms, ↓c_sms, ↓p_sms, la, lf]
  rcases dec_cases ((16 : Int) < (p.funcs.length : Int)) with ⟨b2, d2⟩ | ⟨b2, d2⟩
  case inl =>
    have ee : hvP p = true := by simp only [hvP, Bool.or_eq_true, decide_eq_true_iff]; omega
    simp -implicitDefEqProofs only [RR, RE, RP, RG, takeV, reduceEqDiff, ↓reduceIte, reduceCtorEq, reduceAdd, reduceLeDiff, reduceLT, Nat.reduceBEq, A85, A85p, d1, d2, ee, R85, ↓c_ars, ↓p_ars, ↓c_fus, ↓p_fus, ↓c_pms, ↓p_pms, ↓c_sms, ↓p_sms, la, lf]
  have c1 : decide (8 < p.arrays.length) = false := decide_eq_false_iff_not.2 (by omega)
  have c2 : decide (16 < p.funcs.length) = false := decide_eq_false_iff_not.2 (by omega)
  simp -implicitDefEqProofs only [RR, RE, RP, RG, takeV, reduceEqDiff, ↓reduceIte, reduceCtorEq, reduceAdd, reduceLeDiff, reduceLT, Nat.reduceBEq, A85, A85p, d1, d2, ↓c_ars, ↓p_ars, ↓c_fus, ↓p_fus, ↓c_pms, ↓p_pms, ↓c_sms, ↓p_sms, la, lf]
  refine go_rounds (fun q st => ∃ i : Nat, q = p.funcs.length - i ∧ i ≤ p.funcs.length ∧ (p.funcs.take i).any hvF = false ∧ eget st.env 17 = some (fusA p.funcs) ∧ eget st.env 18 = some (.int .i64 p.funcs.length) ∧ eget st.env 19 = some (.int .i64 i) ∧ nx < st.nx ∧ st.dm = []) (n := p.funcs.length) mixed
    ⟨0, rfl, by omega, by simp, by simp [eget], by simp [eget], by simp [eget], by simp, rfl⟩ ?_
  rintro q ⟨env, heap, nx', dm⟩ ⟨i, rfl, hi, hany, g17, g18, g19, hnx, hdm⟩
  simp only at g17 g18 g19 hnx hdm
  subst hdm
  have f1 : IntKind.i64.wrap ((i : Int) + 1) = ((i + 1 : Nat) : Int) := by rw [w64 (by omega) (by omega)]; omega
  have nn : (nx' = nx) = False := eq_false (by omega)
  have nn1 : (nx' + 1 = nx) = False := eq_false (by omega)
  have nn2 : (nx' + 1 = nx') = False := eq_false (by omega)
  by_cases hc : (i : Int) < (p.funcs.length : Int)
  case neg =>
    replace hany := any_end (by omega) hany
    have ee : hvP p = false := by simp [hvP, c1, c2, hany]
    simp -implicitDefEqProofs only [RR, RE, RP, RG, takeV, reduceEqDiff, ↓reduceIte, reduceCtorEq, reduceAdd, reduceLeDiff, reduceLT, Nat.reduceBEq, A85l0, A85l0p, g17, g18, g19, hc, ee, R85, ↓c_ars, ↓p_ars, ↓c_fus, ↓p_fus, ↓c_pms, ↓p_pms, ↓c_sms, ↓p_sms, la, lf]
  have hr := List.getElem?_eq_getElem (show i < p.funcs.length by omega)
  generalize p.funcs[i] = f at hr
  have ix := fus_idx hr
  have hmem := List.mem_of_getElem? hr
  obtain ⟨x1, x2, x3⟩ := hf f hmem
  have rl := fu_len f
  have rt := fu_take f
  have fe := fuE_eq f
  have lp := pms_len f.params
  have ms := measL_le f.body
  have a1 : IntKind.i64.wrap ((f.params.length : Int) + (varsL f.body : Int)) = (f.params.length : Int) + (varsL f.body : Int) := by rw [w64 (by omega) (by omega)]
  rcases dec_cases ((8 : Int) < (f.params.length : Int)) with ⟨h1', h1⟩ | ⟨h1', h1⟩
  case inl =>
    have eb : hvF f = true := by simp only [hvF, Bool.or_eq_true, decide_eq_true_iff]; omega
    have ee : hvP p = true := by simp [hvP, any_hit hr eb]
    simp -implicitDefEqProofs only [RR, RE, RP, RG, takeV, reduceEqDiff, ↓reduceIte, reduceCtorEq, reduceAdd, reduceLeDiff, reduceLT, Nat.reduceBEq, A85l0, A85l0p, nn, nn1, nn2, hc, ix, rl, rt, fe, lp, a1, g17, g18, g19, ↓c_ars, ↓p_ars, ↓c_fus, ↓p_fus, ↓c_pms, ↓p_pms, ↓c_sms, ↓p_sms, la, lf, h1]
    refine (w119' f.body (by omega) x3 (nx' + 1) _ _ (by omega) (by simp [hget])).mono ?_
    rintro y h' n' ⟨rfl, hn', hb', hk1⟩
    have gs := hk1 nx' _ (by omega) (by omega) (by simp [hget, nn2]; rfl)
    simp -implicitDefEqProofs only [RR, RE, RP, RG, takeV, reduceEqDiff, ↓reduceIte, reduceCtorEq, reduceAdd, reduceLeDiff, reduceLT, Nat.reduceBEq, nn, nn1, nn2, hc, ix, rl, rt, fe, lp, a1, g17, g18, g19, ↓c_ars, ↓p_ars, ↓c_fus, ↓p_fus, ↓c_pms, ↓p_pms, ↓c_sms, ↓p_sms, la, lf, h1, gs, hb', ee, R85]
  rcases dec_cases ((40 : Int) < (f.params.length : Int) + (varsL f.body : Int)) with ⟨h2', h2⟩ | ⟨h2', h2⟩
  case inl =>
    have eb : hvF f = true := by simp only [hvF, Bool.or_eq_true, decide_eq_true_iff]; omega
    have ee : hvP p = true := by simp [hvP, any_hit hr eb]
    simp -implicitDefEqProofs only [RR, RE, RP, RG, takeV, reduceEqDiff, ↓reduceIte, reduceCtorEq, reduceAdd, reduceLeDiff, reduceLT, Nat.reduceBEq, A85l0, A85l0p, nn, nn1, nn2, hc, ix, rl, rt, fe, lp, a1, g17, g18, g19, ↓c_ars, ↓p_ars, ↓c_fus, ↓p_fus, ↓c_pms, ↓p_pms, ↓c_sms, ↓p_sms, la, lf, h1, h2]
    refine (w119' f.body (by omega) x3 (nx' + 1) _ _ (by omega) (by simp [hget])).mono ?_
    rintro y h' n' ⟨rfl, hn', hb', hk1⟩
    have gs := hk1 nx' _ (by omega) (by omega) (by simp [hget, nn2]; rfl)
    simp -implicitDefEqProofs only [RR, RE, RP, RG, takeV, reduceEqDiff, ↓reduceIte, reduceCtorEq, reduceAdd, reduceLeDiff, reduceLT, Nat.reduceBEq, nn, nn1, nn2, hc, ix, rl, rt, fe, lp, a1, g17, g18, g19, ↓c_ars, ↓p_ars, ↓c_fus, ↓p_fus, ↓c_pms, ↓p_pms, ↓c_sms, ↓p_sms, la, lf, h1, h2, gs, hb', ee, R85]
  rcases dec_cases ((100 : Int) < (stmtsL f.body : Int)) with ⟨h3', h3⟩ | ⟨h3', h3⟩
  case inl =>
    have eb : hvF f = true := by simp only [hvF, Bool.or_eq_true, decide_eq_true_iff]; omega
    have ee : hvP p = true := by simp [hvP, any_hit hr eb]
    simp -implicitDefEqProofs only [RR, RE, RP, RG, takeV, reduceEqDiff, ↓reduceIte, reduceCtorEq, reduceAdd, reduceLeDiff, reduceLT, Nat.reduceBEq, A85l0, A85l0p, nn, nn1, nn2, hc, ix, rl, rt, fe, lp, a1, g17, g18, g19, ↓c_ars, ↓p_ars, ↓c_fus, ↓p_fus, ↓c_pms, ↓p_pms, ↓c_sms, ↓p_sms, la, lf, h1, h2, h3]
    refine (w119' f.body (by omega) x3 (nx' + 1) _ _ (by omega) (by simp [hget])).mono ?_
    rintro y h' n' ⟨rfl, hn', hb', hk1⟩
    have gs := hk1 nx' _ (by omega) (by omega) (by simp [hget, nn2]; rfl)
    simp -implicitDefEqProofs only [RR, RE, RP, RG, takeV, reduceEqDiff, ↓reduceIte, reduceCtorEq, reduceAdd, reduceLeDiff, reduceLT, Nat.reduceBEq, nn, nn1, nn2, hc, ix, rl, rt, fe, lp, a1, g17, g18, g19, ↓c_ars, ↓p_ars, ↓c_fus, ↓p_fus, ↓c_pms, ↓p_pms, ↓c_sms, ↓p_sms, la, lf, h1, h2, h3, gs, hb', ee, R85]
  rcases dec_cases ((8 : Int) < (highL f.body : Int)) with ⟨h4', h4⟩ | ⟨h4', h4⟩
  case inl =>
    have eb : hvF f = true := by simp only [hvF, Bool.or_eq_true, decide_eq_true_iff]; omega
    have ee : hvP p = true := by simp [hvP, any_hit hr eb]
    simp -implicitDefEqProofs only [RR, RE, RP, RG, takeV, reduceEqDiff, ↓reduceIte, reduceCtorEq, reduceAdd, reduceLeDiff, reduceLT, Nat.reduceBEq, A85l0, A85l0p, nn, nn1, nn2, hc, ix, rl, rt, fe, lp, a1, g17, g18, g19, ↓c_ars, ↓p_ars, ↓c_fus, ↓p_fus, ↓c_pms, ↓p_pms, ↓c_sms, ↓p_sms, la, lf, h1, h2, h3, h4]
    refine (w119' f.body (by omega) x3 (nx' + 1) _ _ (by omega) (by simp [hget])).mono ?_
    rintro y h' n' ⟨rfl, hn', hb', hk1⟩
    have gs := hk1 nx' _ (by omega) (by omega) (by simp [hget, nn2]; rfl)
    simp -implicitDefEqProofs only [RR, RE, RP, RG, takeV, reduceEqDiff, ↓reduceIte, reduceCtorEq, reduceAdd, reduceLeDiff, reduceLT, Nat.reduceBEq, nn, nn1, nn2, hc, ix, rl, rt, fe, lp, a1, g17, g18, g19, ↓c_ars, ↓p_ars, ↓c_fus, ↓p_fus, ↓c_pms, ↓p_pms, ↓c_sms, ↓p_sms, la, lf, h1, h2, h3, h4, gs, hb', ee, R85]
  cases h5 : (largeL f.body) with
  | true =>
    have eb : hvF f = true := by simp only [hvF, Bool.or_eq_true, decide_eq_true_iff]; simp [h5]
    have ee : hvP p = true := by simp [hvP, any_hit hr eb]
    simp -implicitDefEqProofs only [RR, RE, RP, RG, takeV, reduceEqDiff, ↓reduceIte, reduceCtorEq, reduceAdd, reduceLeDiff, reduceLT, Nat.reduceBEq, A85l0, A85l0p, nn, nn1, nn2, hc, ix, rl, rt, fe, lp, a1, g17, g18, g19, ↓c_ars, ↓p_ars, ↓c_fus, ↓p_fus, ↓c_pms, ↓p_pms, ↓c_sms, ↓p_sms, la, lf, h1, h2, h3, h4, h5]
    refine (w119' f.body (by omega) x3 (nx' + 1) _ _ (by omega) (by simp [hget])).mono ?_
    rintro y h' n' ⟨rfl, hn', hb', hk1⟩
    have gs := hk1 nx' _ (by omega) (by omega) (by simp [hget, nn2]; rfl)
    simp -implicitDefEqProofs only [RR, RE, RP, RG, takeV, reduceEqDiff, ↓reduceIte, reduceCtorEq, reduceAdd, reduceLeDiff, reduceLT, Nat.reduceBEq, nn, nn1, nn2, hc, ix, rl, rt, fe, lp, a1, g17, g18, g19, ↓c_ars, ↓p_ars, ↓c_fus, ↓p_fus, ↓c_pms, ↓p_pms, ↓c_sms, ↓p_sms, la, lf, h1, h2, h3, h4, h5, gs, hb', ee, R85]
  | false =>
    have eb : hvF f = false := by simp only [hvF, h5, Bool.or_false, Bool.or_eq_false_iff, decide_eq_false_iff_not]; omega
    simp -implicitDefEqProofs only [RR, RE, RP, RG, takeV, reduceEqDiff, ↓reduceIte, reduceCtorEq, reduceAdd, reduceLeDiff, reduceLT, Nat.reduceBEq, A85l0, A85l0p, nn, nn1, nn2, hc, ix, rl, rt, fe, lp, a1, g17, g18, g19, ↓c_ars, ↓p_ars, ↓c_fus, ↓p_fus, ↓c_pms, ↓p_pms, ↓c_sms, ↓p_sms, la, lf, h1, h2, h3, h4, h5]
    refine (w119' f.body (by omega) x3 (nx' + 1) _ _ (by omega) (by simp [hget])).mono ?_
    rintro y h' n' ⟨rfl, hn', hb', hk1⟩
    have gs := hk1 nx' _ (by omega) (by omega) (by simp [hget, nn2]; rfl)
    simp -implicitDefEqProofs only [RR, RE, RP, RG, takeV, reduceEqDiff, ↓reduceIte, reduceCtorEq, reduceAdd, reduceLeDiff, reduceLT, Nat.reduceBEq, nn, nn1, nn2, hc, ix, rl, rt, fe, lp, a1, g17, g18, g19, ↓c_ars, ↓p_ars, ↓c_fus, ↓p_fus, ↓c_pms, ↓p_pms, ↓c_sms, ↓p_sms, la, lf, h1, h2, h3, h4, h5, gs, hb', f1]
    refine ⟨p.funcs.length - (i + 1), by omega, i + 1, ?_⟩
    have hall2 := any_step hr hany eb
    repeat' apply And.intro
    all_goals first | assumption | rfl | omega | (simp [eget, hget, *]; done)
theorem bigL_step {l : List Ex} {i : Nat} {r : Ex} (hr : l[i]? = some r) : (l.take (i + 1)).any big = ((l.take i).any big || big r) := by
  rw [take_succ hr, List.any_append]; simp
set_option maxHeartbeats 4000000 in
theorem w103 : ∀ (m : Nat) (l : List Sm), stmtsL l ≤ m → stmtsL l ≤ 1152921504606846976 → shSL l → Pure Tryz.prog 103 [smsA l] (.tup [.int .i64 (stmtsL l), .int .i64 (varsL l), .int .i64 (highL l), .bool (largeL l)]) := by
  intro m
  induction m with
  | zero =>
    intro l hl0 hB hsh
    have : l.length ≤ 0 := by have := stmtsL_len l; omega
    have : l = [] := List.eq_nil_of_length_eq_zero (by omega)
    subst this
    refine Pure.of fun nx => AC.go mixed is103 (by simp) ?_
    have lv := sms_len []
    simp -implicitDefEqProofs only [RR, RE, RP, RG, takeV, reduceEqDiff, ↓reduceIte, reduceCtorEq, reduceAdd, reduceLeDiff, reduceLT, Nat.reduceBEq, A103, A103p, lv]
    refine go_rounds (fun q st => eget st.env 0 = some (smsA []) ∧ eget st.env 2 = some (.int .i64 0) ∧ eget st.env 3 = some (.int .i64 0) ∧ eget st.env 4 = some (.int .i64 0) ∧ eget st.env 5 = some (.bool false) ∧ eget st.env 6 = some (.int .i64 0) ∧ st.dm = []) (n := 0) mixed ⟨by simp [eget], by simp [eget], by simp [eget], by simp [eget], by simp [eget], by simp [eget], rfl⟩ ?_
    rintro q ⟨env, heap, nx', dm⟩ ⟨g0, g2, g3, g4, g5, g6, hdm⟩
    simp only at g0 g2 g3 g4 g5 g6 hdm
    subst hdm
    simp -implicitDefEqProofs only [RR, RE, RP, RG, takeV, reduceEqDiff, ↓reduceIte, reduceCtorEq, reduceAdd, reduceLeDiff, reduceLT, Nat.reduceBEq, A103l1, A103l1p, g0, g2, g3, g4, g5, g6, lv, Int.lt_irrefl, R103, Int.ofNat_zero, stmtsL, varsL, highL, largeL]
  | succ m ih =>
    intro l hlm hB hsh
    refine Pure.of fun nx => AC.go mixed is103 (by simp) ?_
    have lv := sms_len l
    have hlen := stmtsL_len l
    simp -implicitDefEqProofs only [RR, RE, RP, RG, takeV, reduceEqDiff, ↓reduceIte, reduceCtorEq, reduceAdd, reduceLeDiff, reduceLT, Nat.reduceBEq, A103, A103p, lv]
    refine go_rounds (fun q st => ∃ i : Nat, q = l.length - i ∧ i ≤ l.length ∧ eget st.env 0 = some (smsA l) ∧ eget st.env 2 = some (.int .i64 (stmtsL (l.take i))) ∧ eget st.env 3 = some (.int .i64 (varsL (l.take i))) ∧ eget st.env 4 = some (.int .i64 (highL (l.take i))) ∧ eget st.env 5 = some (.bool (largeL (l.take i))) ∧ eget st.env 6 = some (.int .i64 i) ∧ st.dm = []) (n := l.length) mixed
      ⟨0, rfl, by omega, by simp [eget], by simp [eget, stmtsL], by simp [eget, varsL], by simp [eget, highL], by simp [eget, largeL], by simp [eget], rfl⟩ ?_
    rintro q ⟨env, heap, nx', dm⟩ ⟨i, rfl, hi, g0, g2, g3, g4, g5, g6, hdm⟩
    simp only at g0 g2 g3 g4 g5 g6 hdm
    subst hdm
    have f1 : IntKind.i64.wrap ((i : Int) + 1) = ((i + 1 : Nat) : Int) := by rw [w64 (by omega) (by omega)]; omega
    by_cases hc : (i : Int) < (l.length : Int)
    case neg =>
      have ht : l.take i = l := List.take_of_length_le (by omega)
      rw [ht] at g2 g3 g4 g5
      simp -implicitDefEqProofs only [RR, RE, RP, RG, takeV, reduceEqDiff, ↓reduceIte, reduceCtorEq, reduceAdd, reduceLeDiff, reduceLT, Nat.reduceBEq, A103l1, A103l1p, g0, g2, g3, g4, g5, g6, lv, hc, R103]
    have hr := List.getElem?_eq_getElem (show i < l.length by omega)
    generalize l[i] = s at hr
    have ix := sms_idx hr
    have hmem := List.mem_of_getElem? hr
    have se := smE_eq s
    have t1 := stmtsL_take hr
    have t2 := varsL_take hr
    have t3 := highL_take hr
    have t4 := largeL_take hr
    have t5 := stmtsL_le (l := l) (i + 1)
    have t6 := measL_le (l.take i)
    have t7 := meas_le _ s (Nat.le_refl _)
    have e1 := stmts_eq s
    have e2 := vars_eq s
    have e3 := high_eq s
    have e4 := large_eq s
    obtain ⟨x1, x2, x3, x4⟩ := sh_mk (shSL_mem hsh s hmem)
    have m1 := measL_le s.body
    have m2 := measL_le s.els
    have le := exs_len s.exprs
    have hle := nodesL_len s.exprs
    have a1 : IntKind.i64.wrap ((stmtsL (l.take i) : Int) + 1) = ((stmtsL (l.take i) + 1 : Nat) : Int) := by rw [w64 (by omega) (by omega)]; omega
    obtain ⟨vv, hvv⟩ : ∃ vv : Nat, vv = varsL (l.take i) + (if s.kind = 1 then 1 else 0) := ⟨_, rfl⟩
    have hvb : vv ≤ varsL (l.take i) + 1 := by split at hvv <;> omega
    have hvs : vv + (varsL s.body + varsL s.els) = varsL (l.take (i + 1)) := by split at hvv <;> simp_all <;> omega
    have p1 : IntKind.i64.wrap ((stmtsL s.body : Int) + (stmtsL s.els : Int)) = ((stmtsL s.body + stmtsL s.els : Nat) : Int) := by rw [w64 (by omega) (by omega)]; omega
    have p2 : IntKind.i64.wrap (((stmtsL (l.take i) + 1 : Nat) : Int) + ((stmtsL s.body + stmtsL s.els : Nat) : Int)) = ((stmtsL (l.take (i + 1)) : Nat) : Int) := by rw [w64 (by omega) (by omega)]; omega
    have p3 : IntKind.i64.wrap ((varsL s.body : Int) + (varsL s.els : Int)) = ((varsL s.body + varsL s.els : Nat) : Int) := by rw [w64 (by omega) (by omega)]; omega
    have p4 : IntKind.i64.wrap ((vv : Int) + ((varsL s.body + varsL s.els : Nat) : Int)) = ((varsL (l.take (i + 1)) : Nat) : Int) := by rw [w64 (by omega) (by omega)]; omega
    have p5 : IntKind.i64.wrap (1 + (highL s.body : Int)) = ((highL s.body + 1 : Nat) : Int) := by rw [w64 (by omega) (by omega)]; omega
    have p6 : IntKind.i64.wrap (1 + (highL s.els : Int)) = ((highL s.els + 1 : Nat) : Int) := by rw [w64 (by omega) (by omega)]; omega
    have p7 : max (max (highL (l.take i)) (highL s.body + 1)) (highL s.els + 1) = highL (l.take (i + 1)) := by omega
    have hy1 := ih s.body (by omega) (by omega) x3
    have hy2 := ih s.els (by omega) (by omega) x4
    have loop : ∀ (env : Env) (heap : Heap) (nx1 : Nat) (Q : AX → ASt → Prop), True := fun _ _ _ _ => trivial
    clear loop
    rcases dec_cases (s.kind = 1) with ⟨hk', hk⟩ | ⟨hk', hk⟩
    all_goals
      first | rw [if_pos hk'] at hvv | rw [if_neg hk'] at hvv
      have a2 : IntKind.i64.wrap ((varsL (l.take i) : Int) + 1) = (varsL (l.take i) + 1 : Nat) := by rw [w64 (by omega) (by omega)]; omega
      try rw [← hvv] at a2
      first | rw [Nat.add_zero] at hvv; rw [← hvv] at g3 | skip
      simp -implicitDefEqProofs only [RR, RE, RP, RG, takeV, reduceEqDiff, ↓reduceIte, reduceCtorEq, reduceAdd, reduceLeDiff, reduceLT, Nat.reduceBEq, A103l1, A103l1p, g0, g2, g3, g4, g5, g6, lv, hc, ix, se, hk, a1, a2, le, ↓c_exs, ↓p_exs, ↓c_sms, ↓p_sms]
      refine go_rounds (fun q st => ∃ k : Nat, q = s.exprs.length - k ∧ k ≤ s.exprs.length ∧ eget st.env 0 = some (smsA l) ∧ eget st.env 2 = some (.int .i64 ((stmtsL (l.take i) + 1 : Nat) : Int)) ∧ eget st.env 3 = some (.int .i64 vv) ∧ eget st.env 4 = some (.int .i64 (highL (l.take i))) ∧ eget st.env 5 = some (.bool (largeL (l.take i) || (s.exprs.take k).any big)) ∧ eget st.env 6 = some (.int .i64 i) ∧ eget st.env 7 = some (.int .i64 k) ∧ st.dm = []) (n := s.exprs.length) mixed
        ⟨0, rfl, by omega, by simp [eget, *], by simp [eget], by simp [eget, *], by simp [eget, *], by simp [eget, *], by simp [eget, *], by simp [eget], rfl⟩ ?_
      clear g0 g2 g3 g4 g5 g6 env heap
      rintro q ⟨env, heap, nx2, dm⟩ ⟨k, rfl, hk2, g0, g2, g3, g4, g5, g6, g7, hdm⟩
      simp only at g0 g2 g3 g4 g5 g6 g7 hdm
      subst hdm
      have k1 : IntKind.i64.wrap ((k : Int) + 1) = ((k + 1 : Nat) : Int) := by rw [w64 (by omega) (by omega)]; omega
      by_cases hck : (k : Int) < (s.exprs.length : Int)
      case pos =>
        have hx := List.getElem?_eq_getElem (show k < s.exprs.length by omega)
        generalize s.exprs[k] = x at hx
        have ixx := exs_idx hx
        have rl := ex_len x
        have rt := ex_take x
        have bs := bigL_step hx
        have hnx := nodesL_memb (List.mem_of_getElem? hx)
        cases hlg : (largeL (l.take i) || (s.exprs.take k).any big) with
        | true =>
          have bs2 : (largeL (l.take i) || (s.exprs.take (k + 1)).any big) = true := by rw [bs, ← Bool.or_assoc, hlg]; rfl
          clear bs
          simp -implicitDefEqProofs only [RR, RE, RP, RG, takeV, reduceEqDiff, ↓reduceIte, reduceCtorEq, reduceAdd, reduceLeDiff, reduceLT, Nat.reduceBEq, A103l0, A103l0p, g0, g2, g3, g4, g5, g6, g7, lv, ix, se, le, hck, hlg, k1, ↓c_exs, ↓p_exs, ↓c_sms, ↓p_sms]
          refine ⟨s.exprs.length - (k + 1), by omega, k + 1, ?_⟩
          repeat' apply And.intro
          all_goals first | assumption | rfl | omega | (simp [eget, *]; done)
        | false =>
          have bs2 : (largeL (l.take i) || (s.exprs.take (k + 1)).any big) = big x := by rw [bs, ← Bool.or_assoc, hlg]; rfl
          clear bs
          simp -implicitDefEqProofs only [RR, RE, RP, RG, takeV, reduceEqDiff, ↓reduceIte, reduceCtorEq, reduceAdd, reduceLeDiff, reduceLT, Nat.reduceBEq, A103l0, A103l0p, g0, g2, g3, g4, g5, g6, g7, lv, ix, se, le, hck, hlg, k1, ixx, rl, rt, ↓c_exs, ↓p_exs, ↓c_sms, ↓p_sms]
          refine (w46 x (by omega)).use fun n1 hn1 => ?_
          simp -implicitDefEqProofs only [RR, RE, RP, RG, takeV, reduceEqDiff, ↓reduceIte, reduceCtorEq, reduceAdd, reduceLeDiff, reduceLT, Nat.reduceBEq, A103l0, A103l0p, g0, g2, g3, g4, g5, g6, g7, lv, ix, se, le, hck, hlg, k1, ixx, rl, rt, ↓c_exs, ↓p_exs, ↓c_sms, ↓p_sms]
          refine ⟨s.exprs.length - (k + 1), by omega, k + 1, ?_⟩
          repeat' apply And.intro
          all_goals first | assumption | rfl | omega | (simp [eget, *]; done)
      have hte : s.exprs.take k = s.exprs := List.take_of_length_le (by omega)
      rw [hte] at g5
      cases hlg : (largeL (l.take i) || s.exprs.any big) with
      | true =>
        have fin : largeL (l.take (i + 1)) = true := by rw [t4, e4, ← Bool.or_assoc, ← Bool.or_assoc, hlg]; rfl
        clear t4 e4
        simp -implicitDefEqProofs only [RR, RE, RP, RG, takeV, reduceEqDiff, ↓reduceIte, reduceCtorEq, reduceAdd, reduceLeDiff, reduceLT, Nat.reduceBEq, A103l0, A103l0p, g0, g2, g3, g4, g5, g6, g7, lv, ix, se, le, hck, hlg, ↓c_exs, ↓p_exs, ↓c_sms, ↓p_sms]
        refine hy1.use fun n1 hn1 => ?_
        simp -implicitDefEqProofs only [RR, RE, RP, RG, takeV, reduceEqDiff, ↓reduceIte, reduceCtorEq, reduceAdd, reduceLeDiff, reduceLT, Nat.reduceBEq, g0, g2, g3, g4, g5, g6, g7, lv, ix, se, le, hck, hlg, ↓c_exs, ↓p_exs, ↓c_sms, ↓p_sms]
        refine hy2.use fun n1 hn1 => ?_
        simp -implicitDefEqProofs only [RR, RE, RP, RG, takeV, reduceEqDiff, ↓reduceIte, reduceCtorEq, reduceAdd, reduceLeDiff, reduceLT, Nat.reduceBEq, g0, g2, g3, g4, g5, g6, g7, lv, ix, se, le, hck, hlg, p1, p2, p3, p4, p5, p6, p7, f1, mx_nat, fin]
        refine ⟨l.length - (i + 1), by omega, i + 1, ?_⟩
        repeat' apply And.intro
        all_goals first | assumption | rfl | omega | (simp [eget, *]; done)
      | false =>
        have fe : largeL (l.take (i + 1)) = (largeL s.body || largeL s.els) := by rw [t4, e4, ← Bool.or_assoc, ← Bool.or_assoc, hlg]; rfl
        clear t4 e4
        simp -implicitDefEqProofs only [RR, RE, RP, RG, takeV, reduceEqDiff, ↓reduceIte, reduceCtorEq, reduceAdd, reduceLeDiff, reduceLT, Nat.reduceBEq, A103l0, A103l0p, g0, g2, g3, g4, g5, g6, g7, lv, ix, se, le, hck, hlg, ↓c_exs, ↓p_exs, ↓c_sms, ↓p_sms]
        refine hy1.use fun n1 hn1 => ?_
        simp -implicitDefEqProofs only [RR, RE, RP, RG, takeV, reduceEqDiff, ↓reduceIte, reduceCtorEq, reduceAdd, reduceLeDiff, reduceLT, Nat.reduceBEq, g0, g2, g3, g4, g5, g6, g7, lv, ix, se, le, hck, hlg, ↓c_exs, ↓p_exs, ↓c_sms, ↓p_sms]
        refine hy2.use fun n1 hn1 => ?_
        cases hb1 : largeL s.body with
        | true =>
          rw [hb1, Bool.true_or] at fe
          simp -implicitDefEqProofs only [RR, RE, RP, RG, takeV, reduceEqDiff, ↓reduceIte, reduceCtorEq, reduceAdd, reduceLeDiff, reduceLT, Nat.reduceBEq, g0, g2, g3, g4, g5, g6, g7, lv, ix, se, le, hck, hlg, p1, p2, p3, p4, p5, p6, p7, f1, mx_nat, hb1, fe]
          refine ⟨l.length - (i + 1), by omega, i + 1, ?_⟩
          repeat' apply And.intro
          all_goals first | assumption | rfl | omega | (simp [eget, *]; done)
        | false =>
          rw [hb1, Bool.false_or] at fe
          simp -implicitDefEqProofs only [RR, RE, RP, RG, takeV, reduceEqDiff, ↓reduceIte, reduceCtorEq, reduceAdd, reduceLeDiff, reduceLT, Nat.reduceBEq, g0, g2, g3, g4, g5, g6, g7, lv, ix, se, le, hck, hlg, p1, p2, p3, p4, p5, p6, p7, f1, mx_nat, hb1, fe]
          refine ⟨l.length - (i + 1), by omega, i + 1, ?_⟩
          repeat' apply And.intro
          all_goals first | assumption | rfl | omega | (simp [eget, *]; done)
set_option maxHeartbeats 4000000 in
theorem w56 (p : Pr) (hal : p.arrays.length ≤ 4611686018427387904) (hfl : p.funcs.length ≤ 4611686018427387904) (hf : ∀ f ∈ p.funcs, f.params.length ≤ 1152921504606846976 ∧ stmtsL f.body ≤ 1152921504606846976 ∧ shSL f.body) : Pure Tryz.prog 56 [.agg (prE p)] (.bool (hvP p)) := by
  refine Pure.of fun nx => AC.go mixed is56 (by simp) ?_
  rw [prE_eq]
  have la := ars_len p.arrays
  have lf := fus_len p.funcs
  rcases dec_cases ((8 : Int) < (p.arrays.length : Int)) with ⟨b1, d1⟩ | ⟨b1, d1⟩
  case inl =>
    have ee : hvP p = true := by simp only [hvP, Bool.or_eq_true, decide_eq_true_iff]; omega
    simp -implicitDefEqProofs only [RR, RE, RP, RG, takeV, reduceEqDiff, ↓reduceIte, reduceCtorEq, reduceAdd, reduceLeDiff, reduceLT, Nat.reduceBEq, A56, A56p, d1, ee, R56, ↓c_ars, ↓p_ars, ↓c_fus, ↓p_fus, ↓c_pms, ↓p_pms, ↓c_sms, ↓p_sms, la, lf]
  rcases dec_cases ((16 : Int) < (p.funcs.length : Int)) with ⟨b2, d2⟩ | ⟨b2, d2⟩
  case inl =>
    have ee : hvP p = true := by simp only [hvP, Bool.or_eq_true, decide_eq_true_iff]; omega
    simp -implicitDefEqProofs only [RR, RE, RP, RG, takeV, reduceEqDiff, ↓reduceIte, reduceCtorEq, reduceAdd, reduceLeDiff, reduceLT, Nat.reduceBEq, A56, A56p, d1, d2, ee, R56, ↓c_ars, ↓p_ars, ↓c_fus, ↓p_fus, ↓c_pms, ↓p_pms, ↓c_sms, ↓p_sms, la, lf]
  have c1 : decide (8 < p.arrays.length) = false := decide_eq_false_iff_not.2 (by omega)
  have c2 : decide (16 < p.funcs.length) = false := decide_eq_false_iff_not.2 (by omega)
  simp -implicitDefEqProofs only [RR, RE, RP, RG, takeV, reduceEqDiff, ↓reduceIte, reduceCtorEq, reduceAdd, reduceLeDiff, reduceLT, Nat.reduceBEq, A56, A56p, d1, d2, ↓c_ars, ↓p_ars, ↓c_fus, ↓p_fus, ↓c_pms, ↓p_pms, ↓c_sms, ↓p_sms, la, lf]
  refine go_rounds (fun q st => ∃ i : Nat, q = p.funcs.length - i ∧ i ≤ p.funcs.length ∧ (p.funcs.take i).any hvF = false ∧ eget st.env 1 = some (.op nx 0) ∧ eget st.env 3 = some (.int .i64 i) ∧ hget st.heap nx = some (.cells [arsA p.arrays, fusA p.funcs]) ∧ nx < st.nx ∧ st.dm = []) (n := p.funcs.length) mixed
    ⟨0, rfl, by omega, by simp, by simp [eget], by simp [eget], by simp [hget], by simp, rfl⟩ ?_
  rintro q ⟨env, heap, nx', dm⟩ ⟨i, rfl, hi, hany, g1, g3, gh, hnx, hdm⟩
  simp only at g1 g3 gh hnx hdm
  subst hdm
  have f1 : IntKind.i64.wrap ((i : Int) + 1) = ((i + 1 : Nat) : Int) := by rw [w64 (by omega) (by omega)]; omega
  have nn : (nx' = nx) = False := eq_false (by omega)
  have nn1 : (nx' + 1 = nx) = False := eq_false (by omega)
  have nn2 : (nx' + 1 = nx') = False := eq_false (by omega)
  by_cases hc : (i : Int) < (p.funcs.length : Int)
  case neg =>
    replace hany := any_end (by omega) hany
    have ee : hvP p = false := by simp [hvP, c1, c2, hany]
    simp -implicitDefEqProofs only [RR, RE, RP, RG, takeV, reduceEqDiff, ↓reduceIte, reduceCtorEq, reduceAdd, reduceLeDiff, reduceLT, Nat.reduceBEq, A56l0, A56l0p, g1, g3, gh, hc, ee, R56, ↓c_ars, ↓p_ars, ↓c_fus, ↓p_fus, ↓c_pms, ↓p_pms, ↓c_sms, ↓p_sms, la, lf]
  have hr := List.getElem?_eq_getElem (show i < p.funcs.length by omega)
  generalize p.funcs[i] = f at hr
  have ix := fus_idx hr
  have hmem := List.mem_of_getElem? hr
  obtain ⟨x1, x2, x3⟩ := hf f hmem
  have rl := fu_len f
  have rt := fu_take f
  have fe := fuE_eq f
  have lp := pms_len f.params
  have ms := measL_le f.body
  have a1 : IntKind.i64.wrap ((f.params.length : Int) + (varsL f.body : Int)) = (f.params.length : Int) + (varsL f.body : Int) := by rw [w64 (by omega) (by omega)]
  rcases dec_cases ((8 : Int) < (f.params.length : Int)) with ⟨h1', h1⟩ | ⟨h1', h1⟩
  case inl =>
    have eb : hvF f = true := by simp only [hvF, Bool.or_eq_true, decide_eq_true_iff]; omega
    have ee : hvP p = true := by simp [hvP, any_hit hr eb]
    simp -implicitDefEqProofs only [RR, RE, RP, RG, takeV, reduceEqDiff, ↓reduceIte, reduceCtorEq, reduceAdd, reduceLeDiff, reduceLT, Nat.reduceBEq, A56l0, A56l0p, nn, nn1, nn2, hc, ix, rl, rt, fe, lp, a1, g1, g3, gh, ↓c_ars, ↓p_ars, ↓c_fus, ↓p_fus, ↓c_pms, ↓p_pms, ↓c_sms, ↓p_sms, la, lf, h1]
    refine (w103 _ f.body (Nat.le_refl _) (by omega) x3).use fun n2 hn2 => ?_
    simp -implicitDefEqProofs only [RR, RE, RP, RG, takeV, reduceEqDiff, ↓reduceIte, reduceCtorEq, reduceAdd, reduceLeDiff, reduceLT, Nat.reduceBEq, nn, nn1, nn2, hc, ix, rl, rt, fe, lp, a1, g1, g3, gh, ↓c_ars, ↓p_ars, ↓c_fus, ↓p_fus, ↓c_pms, ↓p_pms, ↓c_sms, ↓p_sms, la, lf, h1, ee, R56]
  rcases dec_cases ((40 : Int) < (f.params.length : Int) + (varsL f.body : Int)) with ⟨h2', h2⟩ | ⟨h2', h2⟩
  case inl =>
    have eb : hvF f = true := by simp only [hvF, Bool.or_eq_true, decide_eq_true_iff]; omega
    have ee : hvP p = true := by simp [hvP, any_hit hr eb]
    simp -implicitDefEqProofs only [RR, RE, RP, RG, takeV, reduceEqDiff, ↓reduceIte, reduceCtorEq, reduceAdd, reduceLeDiff, reduceLT, Nat.reduceBEq, A56l0, A56l0p, nn, nn1, nn2, hc, ix, rl, rt, fe, lp, a1, g1, g3, gh, ↓c_ars, ↓p_ars, ↓c_fus, ↓p_fus, ↓c_pms, ↓p_pms, ↓c_sms, ↓p_sms, la, lf, h1, h2]
    refine (w103 _ f.body (Nat.le_refl _) (by omega) x3).use fun n2 hn2 => ?_
    simp -implicitDefEqProofs only [RR, RE, RP, RG, takeV, reduceEqDiff, ↓reduceIte, reduceCtorEq, reduceAdd, reduceLeDiff, reduceLT, Nat.reduceBEq, nn, nn1, nn2, hc, ix, rl, rt, fe, lp, a1, g1, g3, gh, ↓c_ars, ↓p_ars, ↓c_fus, ↓p_fus, ↓c_pms, ↓p_pms, ↓c_sms, ↓p_sms, la, lf, h1, h2, ee, R56]
  rcases dec_cases ((100 : Int) < (stmtsL f.body : Int)) with ⟨h3', h3⟩ | ⟨h3', h3⟩
  case inl =>
    have eb : hvF f = true := by simp only [hvF, Bool.or_eq_true, decide_eq_true_iff]; omega
    have ee : hvP p = true := by simp [hvP, any_hit hr eb]
    simp -implicitDefEqProofs only [RR, RE, RP, RG, takeV, reduceEqDiff, ↓reduceIte, reduceCtorEq, reduceAdd, reduceLeDiff, reduceLT, Nat.reduceBEq, A56l0, A56l0p, nn, nn1, nn2, hc, ix, rl, rt, fe, lp, a1, g1, g3, gh, ↓c_ars, ↓p_ars, ↓c_fus, ↓p_fus, ↓c_pms, ↓p_pms, ↓c_sms, ↓p_sms, la, lf, h1, h2, h3]
    refine (w103 _ f.body (Nat.le_refl _) (by omega) x3).use fun n2 hn2 => ?_
    simp -implicitDefEqProofs only [RR, RE, RP, RG, takeV, reduceEqDiff, ↓reduceIte, reduceCtorEq, reduceAdd, reduceLeDiff, reduceLT, Nat.reduceBEq, nn, nn1, nn2, hc, ix, rl, rt, fe, lp, a1, g1, g3, gh, ↓c_ars, ↓p_ars, ↓c_fus, ↓p_fus, ↓c_pms, ↓p_pms, ↓c_sms, ↓p_sms, la, lf, h1, h2, h3, ee, R56]
  rcases dec_cases ((8 : Int) < (highL f.body : Int)) with ⟨h4', h4⟩ | ⟨h4', h4⟩
  case inl =>
    have eb : hvF f = true := by simp only [hvF, Bool.or_eq_true, decide_eq_true_iff]; omega
    have ee : hvP p = true := by simp [hvP, any_hit hr eb]
    simp -implicitDefEqProofs only [RR, RE, RP, RG, takeV, reduceEqDiff, ↓reduceIte, reduceCtorEq, reduceAdd, reduceLeDiff, reduceLT, Nat.reduceBEq, A56l0, A56l0p, nn, nn1, nn2, hc, ix, rl, rt, fe, lp, a1, g1, g3, gh, ↓c_ars, ↓p_ars, ↓c_fus, ↓p_fus, ↓c_pms, ↓p_pms, ↓c_sms, ↓p_sms, la, lf, h1, h2, h3, h4]
    refine (w103 _ f.body (Nat.le_refl _) (by omega) x3).use fun n2 hn2 => ?_
    simp -implicitDefEqProofs only [RR, RE, RP, RG, takeV, reduceEqDiff, ↓reduceIte, reduceCtorEq, reduceAdd, reduceLeDiff, reduceLT, Nat.reduceBEq, nn, nn1, nn2, hc, ix, rl, rt, fe, lp, a1, g1, g3, gh, ↓c_ars, ↓p_ars, ↓c_fus, ↓p_fus, ↓c_pms, ↓p_pms, ↓c_sms, ↓p_sms, la, lf, h1, h2, h3, h4, ee, R56]
  cases h5 : (largeL f.body) with
  | true =>
    have eb : hvF f = true := by simp only [hvF, Bool.or_eq_true, decide_eq_true_iff]; simp [h5]
    have ee : hvP p = true := by simp [hvP, any_hit hr eb]
    simp -implicitDefEqProofs only [RR, RE, RP, RG, takeV, reduceEqDiff, ↓reduceIte, reduceCtorEq, reduceAdd, reduceLeDiff, reduceLT, Nat.reduceBEq, A56l0, A56l0p, nn, nn1, nn2, hc, ix, rl, rt, fe, lp, a1, g1, g3, gh, ↓c_ars, ↓p_ars, ↓c_fus, ↓p_fus, ↓c_pms, ↓p_pms, ↓c_sms, ↓p_sms, la, lf, h1, h2, h3, h4, h5]
    refine (w103 _ f.body (Nat.le_refl _) (by omega) x3).use fun n2 hn2 => ?_
    simp -implicitDefEqProofs only [RR, RE, RP, RG, takeV, reduceEqDiff, ↓reduceIte, reduceCtorEq, reduceAdd, reduceLeDiff, reduceLT, Nat.reduceBEq, nn, nn1, nn2, hc, ix, rl, rt, fe, lp, a1, g1, g3, gh, ↓c_ars, ↓p_ars, ↓c_fus, ↓p_fus, ↓c_pms, ↓p_pms, ↓c_sms, ↓p_sms, la, lf, h1, h2, h3, h4, h5, ee, R56]
  | false =>
    have eb : hvF f = false := by simp only [hvF, h5, Bool.or_false, Bool.or_eq_false_iff, decide_eq_false_iff_not]; omega
    simp -implicitDefEqProofs only [RR, RE, RP, RG, takeV, reduceEqDiff, ↓reduceIte, reduceCtorEq, reduceAdd, reduceLeDiff, reduceLT, Nat.reduceBEq, A56l0, A56l0p, nn, nn1, nn2, hc, ix, rl, rt, fe, lp, a1, g1, g3, gh, ↓c_ars, ↓p_ars, ↓c_fus, ↓p_fus, ↓c_pms, ↓p_pms, ↓c_sms, ↓p_sms, la, lf, h1, h2, h3, h4, h5]
    refine (w103 _ f.body (Nat.le_refl _) (by omega) x3).use fun n2 hn2 => ?_
    simp -implicitDefEqProofs only [RR, RE, RP, RG, takeV, reduceEqDiff, ↓reduceIte, reduceCtorEq, reduceAdd, reduceLeDiff, reduceLT, Nat.reduceBEq, nn, nn1, nn2, hc, ix, rl, rt, fe, lp, a1, g1, g3, gh, ↓c_ars, ↓p_ars, ↓c_fus, ↓p_fus, ↓c_pms, ↓p_pms, ↓c_sms, ↓p_sms, la, lf, h1, h2, h3, h4, h5, f1]
    refine ⟨p.funcs.length - (i + 1), by omega, i + 1, ?_⟩
    have hall2 := any_step hr hany eb
    repeat' apply And.intro
    all_goals first | assumption | rfl | omega | (simp [eget, hget, *]; done)
end Go.Proofs.YtgeieafamocnhaaGreatDoor
