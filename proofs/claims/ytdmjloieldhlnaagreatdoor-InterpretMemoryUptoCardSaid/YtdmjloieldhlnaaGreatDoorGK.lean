/- InterpretMemory answers true: the walk. -/
import Derived.Test.YtdmjloieldhlnaaGreatDoorGJ
import Derived.Test.YtdmjloieldhlnaaGreatDoorCards
import Derived.Test.YtdmjloieldhlnaaGreatDoorTie
import Derived.WalkKit
import Derived.OpenShut
import Derived.ShutString
import Derived.ChangeOld
import Derived.Below
import Derived.FnData
import Derived.LaidLaws
import Derived.Deep.DeepHandedRow
import Derived.Deep.DeepWitnessRowRef
namespace Go.Proofs.YtdmjloieldhlnaaGreatDoor
open Go Go.Ab Go.Proofs
open Nat (reduceEqDiff reduceAdd reduceLeDiff reduceLT)
set_option linter.unusedVariables false
set_option linter.unusedSimpArgs false
set_option maxRecDepth 20000
theorem b_quo8 (w : Int) (n : Nat) (h : w = 8 * (n : Int)) (hn : n ≤ 8) : binA .quo (.int .i64 w) (.int .i64 8) = some (.int .i64 (n : Int)) := by
  have : n = 0 ∨ n = 1 ∨ n = 2 ∨ n = 3 ∨ n = 4 ∨ n = 5 ∨ n = 6 ∨ n = 7 ∨ n = 8 := by omega
  subst h
  rcases this with rfl | rfl | rfl | rfl | rfl | rfl | rfl | rfl | rfl <;> rfl
theorem b_shr8 {x i : Nat} (hi : i < 8) : binA .shr (.int .u64 (x : Int)) (.int .i64 ((8 * i : Nat) : Int)) = some (.int .u64 ((x / 256 ^ i : Nat) : Int)) := by
  show shA .shr .u64 (Int.ofNat x) (Int.ofNat (8 * i)) = _
  rw [← fshr_eq]
  unfold fshr
  rw [min_ble]
  have h1 : min (8 * i) IntKind.u64.bits = 8 * i := by show min (8 * i) 64 = _; omega
  have h2 : (256 : Nat) ^ i = Nat.pow 2 (8 * i) := by
    show _ = 2 ^ (8 * i)
    rw [Nat.pow_mul]
  rw [h1, h2]
  rfl
theorem b_rem32 {d i : Nat} (hd : (d : Int) ≤ 4294967295) (hi : i < 8) : binA .rem (.int .u64 ((d + i : Nat) : Int)) (.int .u64 4294967296) = some (.int .u64 ((adr d i : Nat) : Int)) := by
  have h0 : ((d + i : Nat) : Int).tmod 4294967296 = ((adr d i : Nat) : Int) := by
    rw [Int.tmod_eq_emod_of_nonneg (by omega)]
    unfold adr
    omega
  simp [binA, numA, h0, adr]
  rw [Int.tmod_eq_emod_of_nonneg (by omega)]
theorem w205 (l : List (Int × Int)) (d x y : Nat) (w : Int) (hw : wfC l) (hd : d < 18446744073709551616) (hx : x < 18446744073709551616) (hy : y < 18446744073709551616) : Pure Tryz.prog 5 [cellsA l, .int .u64 d, .int .i64 w, .int .u64 x, .int .u64 y] (.bool true) := by
  refine Pure.of fun nx => AC.go mixed is205 (by simp) ?_
  have hlx := cells_len l
  simp -implicitDefEqProofs only [RA, takeV, reduceEqDiff, ↓reduceIte, reduceCtorEq, reduceAdd, reduceLeDiff, reduceLT, Nat.reduceBEq, A205]
  refine alive_pure.use fun n1 hn1 => ?_
  by_cases hl : (4200 : Int) < (l.length : Int)
  case pos =>
    simp -implicitDefEqProofs only [RA, takeV, reduceEqDiff, ↓reduceIte, reduceCtorEq, reduceAdd, reduceLeDiff, reduceLT, Nat.reduceBEq, hlx, hl, R205]
  simp -implicitDefEqProofs only [RA, takeV, reduceEqDiff, ↓reduceIte, reduceCtorEq, reduceAdd, reduceLeDiff, reduceLT, Nat.reduceBEq, hlx, hl, unA]
  obtain ⟨out, e, hs⟩ := sto_some l d w x
  refine (w11f l d x w out e (by omega) hw hd hx hs).use fun n2 hn2 => ?_
  have hox := cells_len out
  rcases hs with ⟨h1, rfl, rfl⟩ | ⟨h1, h2, rfl, rfl⟩ | ⟨h1, h2, hout, rfl⟩
  · simp -implicitDefEqProofs only [RA, takeV, reduceEqDiff, ↓reduceIte, reduceCtorEq, reduceAdd, reduceLeDiff, reduceLT, Nat.reduceBEq, hox, Int.reduceEq, R205]
    rfl
  · simp -implicitDefEqProofs only [RA, takeV, reduceEqDiff, ↓reduceIte, reduceCtorEq, reduceAdd, reduceLeDiff, reduceLT, Nat.reduceBEq, hox, Int.reduceEq, R205]
    rfl
  obtain ⟨_, hwo, hf, hfo, _⟩ := okS_out (y := y) hw h1 h2
  have hoff := off_sto (x := x) (d := d) (n := (w / 8).toNat) (by have := h1.2.1; omega) (by have := h1.2.2.1; omega) hf
  have hat := fun i (hi : i < (w / 8).toNat) => lk_at (x := x) (d := d) (n := (w / 8).toNat) (i := i) (by have := h1.2.1; omega) (by have := h1.2.2.1; omega) hf hi
  have htw := fun o3 e3 (hs : Sto l d w y o3 e3) => Sto.twice hw h1 h2 hs
  rw [← hout] at h2 hwo hfo hoff hat htw
  obtain ⟨hM, hd2, hww, hxx⟩ := h1
  obtain ⟨n, hn⟩ : ∃ n, n = (w / 8).toNat := ⟨_, rfl⟩
  rw [← hn] at hat hoff
  have hn8 : n ≤ 8 := by omega
  have hwn : w = 8 * (n : Int) := by omega
  have hdd : ((d : Int) ≤ 4294967295) := hd2
  have hl4 : l.length ≤ 4200 := by omega
  have ho4 : out.length ≤ 4200 := by omega
  have c9 : ((4294967296 : Int) ≤ (d : Int)) = False := eq_false (by omega)
  have c10 : ((4096 : Int) < (out.length : Int)) = False := eq_false (by omega)
  have e8 : w = 8 ∨ (w = 8) = False ∧ (w = 16 ∨ (w = 16) = False ∧ (w = 32 ∨ (w = 32) = False ∧ w = 64)) := by
    rcases hww with h | h | h | h
    · exact .inl h
    · exact .inr ⟨eq_false (by omega), .inl h⟩
    · exact .inr ⟨eq_false (by omega), .inr ⟨eq_false (by omega), .inl h⟩⟩
    · exact .inr ⟨eq_false (by omega), .inr ⟨eq_false (by omega), .inr ⟨eq_false (by omega), h⟩⟩⟩
  clear hww hM hxx
  have q8 : binA .quo (.int .i64 w) (.int .i64 8) = some (.int .i64 (n : Int)) := by
    rw [b_quo8 w n hwn hn8]
  rcases e8 with h | ⟨u8, h | ⟨u16, h | ⟨u32, h⟩⟩⟩
  all_goals have h := eq_true h
  all_goals first
    | simp -implicitDefEqProofs only [RA, takeV, reduceEqDiff, ↓reduceIte, reduceCtorEq, reduceAdd, reduceLeDiff, reduceLT, Nat.reduceBEq, Int.reduceEq, u8, u16, u32, h, c9, hox, c10]
    | simp -implicitDefEqProofs only [RA, takeV, reduceEqDiff, ↓reduceIte, reduceCtorEq, reduceAdd, reduceLeDiff, reduceLT, Nat.reduceBEq, Int.reduceEq, u8, u16, h, c9, hox, c10]
    | simp -implicitDefEqProofs only [RA, takeV, reduceEqDiff, ↓reduceIte, reduceCtorEq, reduceAdd, reduceLeDiff, reduceLT, Nat.reduceBEq, Int.reduceEq, u8, h, c9, hox, c10]
    | simp -implicitDefEqProofs only [RA, takeV, reduceEqDiff, ↓reduceIte, reduceCtorEq, reduceAdd, reduceLeDiff, reduceLT, Nat.reduceBEq, Int.reduceEq, h, c9, hox, c10]
  all_goals
    refine (w217 l (by omega) hf _).mono ?_
    rintro y1 h1 n3 ⟨b1, rfl, hb1, hm1⟩
    simp -implicitDefEqProofs only [RA, takeV, reduceEqDiff, ↓reduceIte, reduceCtorEq, reduceAdd, reduceLeDiff, reduceLT, Nat.reduceBEq, hox]
    refine ((w217 out (by omega) hfo _).frame h1).mono ?_
    rintro y2 h2 n4 ⟨h3, rfl, hle3, hap, b2, rfl, hb2, hm2⟩
    obtain ⟨hp, hpe⟩ : ∃ hp, hp = h3 ++ h1 := ⟨_, rfl⟩
    have M2 : MapIs hp b2 out := hm2.ne (by
      obtain ⟨st, ck, k1, _⟩ := hm2
      rw [hpe, hget_append, k1]; rfl)
    have M1 : MapIs hp b1 l := hm1.ne (by
      obtain ⟨st, ck, k1, _⟩ := hm1
      rw [hpe, hget_append, hap b1 _ k1]; rfl)
    have hne : b1 ≠ b2 := by
      rintro rfl
      obtain ⟨st, ck, k1, _⟩ := hm1
      obtain ⟨st2, ck2, k2, _⟩ := hm2
      rw [hap b1 _ k1] at k2; cases k2
    have hb1' : b1 < n4 := by omega
    rw [← hpe]
    clear hpe hm1 hm2 hap
    have nl : ∀ b, nilA .mp (.mp b) = some false := fun _ => rfl
    simp -implicitDefEqProofs only [RA, takeV, reduceEqDiff, ↓reduceIte, reduceCtorEq, reduceAdd, reduceLeDiff, reduceLT, Nat.reduceBEq, hox, nl]
    refine go_rounds (fun q st => ∃ i : Nat, q = n - i ∧ i ≤ n ∧ eget st.env 0 = some (cellsA l) ∧ eget st.env 1 = some (.int .u64 d) ∧ eget st.env 2 = some (.int .i64 w) ∧ eget st.env 3 = some (.int .u64 x) ∧ eget st.env 4 = some (.int .u64 y) ∧ eget st.env 11 = some (.bool true) ∧ eget st.env 12 = some (cellsA out) ∧ eget st.env 14 = some (.mp b1) ∧ eget st.env 15 = some (.mp b2) ∧ eget st.env 16 = some (.int .i64 i) ∧ MapIs st.heap b1 (off d i l) ∧ MapIs st.heap b2 (off d i out) ∧ st.dm = [] ∧ n4 ≤ st.nx) (n := n) mixed
      ⟨0, rfl, by omega, by simp [eget], by simp [eget], by simp [eget], by simp [eget], by simp [eget], by simp [eget], by simp [eget], by simp [eget], by simp [eget], by simp [eget], by rw [off_zero]; exact M1, by rw [off_zero]; exact M2, rfl, Nat.le_refl _⟩ ?_
    rintro q ⟨env, heap, nx', dm⟩ ⟨i, rfl, hi, g0, g1, g2, g3, g4, g11, g12, g14, g15, g16, N1, N2, hdm, hnx⟩
    simp only at g0 g1 g2 g3 g4 g11 g12 g14 g15 g16 N1 N2 hdm hnx
    subst hdm
    by_cases hc : (i : Int) < (n : Int)
    case neg =>
      obtain rfl : i = n := by omega
      rw [hoff] at N2
      obtain ⟨st, ck, m1, m2, m3, m4⟩ := N1
      have er : rngA heap nx' (.mp b1) = some ((nx', .mit b1 ck [] ck) :: heap) := by simp only [rngA, m1]
      have hL : Pw (off d i l) := (hf.filter _).pw
      simp -implicitDefEqProofs only [RA, takeV, reduceEqDiff, ↓reduceIte, reduceCtorEq, reduceAdd, reduceLeDiff, reduceLT, Nat.reduceBEq, A205l0, g16, g2, q8, hc, g14, er]
      refine go_rounds (fun q st' => ∃ seen, q = (st.filter fun t => decide (t ∉ seen)).length ∧ eget st'.env 0 = some (cellsA l) ∧ eget st'.env 1 = some (.int .u64 d) ∧ eget st'.env 2 = some (.int .i64 w) ∧ eget st'.env 4 = some (.int .u64 y) ∧ eget st'.env 11 = some (.bool true) ∧ eget st'.env 12 = some (cellsA out) ∧ eget st'.env 14 = some (.mp b1) ∧ eget st'.env 15 = some (.mp b2) ∧ eget st'.env 107 = some (.op nx' 0) ∧ hget st'.heap nx' = some (.mit b1 ck seen ck) ∧ hget st'.heap b1 = some (.map (entM (off d i l)) st ck) ∧ MapIs st'.heap b2 (off d i l) ∧ st'.dm = [] ∧ nx' < st'.nx) (n := (st.filter fun t => decide (t ∉ [])).length) mixed
        ⟨[], rfl, by simp [eget, g0], by simp [eget, g1], by simp [eget, g2], by simp [eget, g4], by simp [eget, g11], by simp [eget, g12], by simp [eget, g14], by simp [eget, g15], by simp [eget], by simp [hget], by rw [hget_cons, if_neg (by omega)]; exact m1, N2.ne (by rw [hget_cons, if_neg (by omega)]), rfl, by simp⟩ ?_
      rintro q ⟨env2, heap2, nx2, dm2⟩ ⟨seen, rfl, q0, q1, q2, q4, q11, q12, q14, q15, q107, u1, u2, u3, hdm2, hnx2⟩
      simp only at q0 q1 q2 q4 q11 q12 q14 q15 q107 u1 u2 u3 hdm2 hnx2
      subst hdm2
      simp -implicitDefEqProofs only [RA, takeV, reduceEqDiff, ↓reduceIte, reduceCtorEq, reduceAdd, reduceLeDiff, reduceLT, Nat.reduceBEq, A205l1, q107, ofV_mark]
      refine ⟨rfl, b1, ck, ck, ck, seen, st, entM (off d i l), u1, u2, m4, Nat.le_refl _, fun hall => ?_, fun j kk xx s k1 k2 k3 => ?_⟩
      · obtain ⟨o3, e3, hs3⟩ := sto_some l d w y
        have hs4 := htw o3 e3 hs3
        have z1 : mapOf heap2 (.mp b1) = some (entM (off d i l)) := by simp only [mapOf, u2]
        obtain ⟨st2, ck2, v1, v2⟩ := u3
        have z2 : mapOf heap2 (.mp b2) = some (entM (off d i l)) := by simp only [mapOf, v1]
        simp -implicitDefEqProofs only [RA, takeV, reduceEqDiff, ↓reduceIte, reduceCtorEq, reduceAdd, reduceLeDiff, reduceLT, Nat.reduceBEq, q0, q1, q2, q4, q11, q12, q14, q15]
        refine (w11f out d y w o3 e3 ho4 hwo hd hy hs4).use fun n5 hn5 => ?_
        simp -implicitDefEqProofs only [RA, takeV, reduceEqDiff, ↓reduceIte, reduceCtorEq, reduceAdd, reduceLeDiff, reduceLT, Nat.reduceBEq, q0, q1, q2, q4, q11, q12, q14, q15]
        refine (w11f l d y w o3 e3 hl4 hw hd hy hs3).use fun n6 hn6 => ?_
        rcases hs3 with ⟨_, rfl, rfl⟩ | ⟨_, _, rfl, rfl⟩ | ⟨_, k6, k7, rfl⟩
        · simp -implicitDefEqProofs only [RA, takeV, reduceEqDiff, ↓reduceIte, reduceCtorEq, reduceAdd, reduceLeDiff, reduceLT, Nat.reduceBEq, q11, q14, q15, z1, z2, Int.reduceEq, R205]
        · simp -implicitDefEqProofs only [RA, takeV, reduceEqDiff, ↓reduceIte, reduceCtorEq, reduceAdd, reduceLeDiff, reduceLT, Nat.reduceBEq, q11, q14, q15, z1, z2, Int.reduceEq, R205]
        · simp -implicitDefEqProofs only [RA, takeV, reduceEqDiff, ↓reduceIte, reduceCtorEq, reduceAdd, reduceLeDiff, reduceLT, Nat.reduceBEq, q11, q14, q15, z1, z2, Int.reduceEq]
          rw [← k7] at k6
          refine (w7 (cellsA o3) (cellsA o3) o3 o3 _ _ (.inl rfl) (.inl rfl) (by omega) (by omega)).mono ?_
          rintro _ _ n7 ⟨rfl, rfl, hn7⟩
          simp -implicitDefEqProofs only [RA, takeV, reduceEqDiff, ↓reduceIte, reduceCtorEq, reduceAdd, reduceLeDiff, reduceLT, Nat.reduceBEq, q11, q14, q15, z1, z2, Int.reduceEq, R205]
      · obtain ⟨r, hr, rfl, rfl⟩ : ∃ r, (off d i l)[j]? = some r ∧ kk = .int .u64 r.1 ∧ xx = .int .u8 r.2 := by
          unfold entM at k1
          rw [List.getElem?_map] at k1
          obtain ⟨r, h1, h2⟩ := Option.map_eq_some_iff.1 k1
          simp only [Prod.mk.injEq] at h2
          exact ⟨r, h1, h2.1.symm, h2.2.symm⟩
        have ee := ent_at (n := nx') (seen := seen) u2 (by omega) m3 k1 k2
        have u3' : MapIs (hset heap2 nx' (.mit b1 ck (seen ++ [s]) ck)) b2 (off d i l) := u3.ne (by rw [hget_hset, if_neg (by omega)])
        have el := u3'.look r.1
        rw [lk_mem hL (List.mem_of_getElem? hr)] at el
        simp -implicitDefEqProofs only [RR, RE, takeV, reduceEqDiff, ↓reduceIte, reduceCtorEq, reduceAdd, reduceLeDiff, reduceLT, Nat.reduceBEq, A205l1, q11, q15, q107, ee, el, Int.reduceEq]
        exact ⟨_, left_less (List.mem_of_getElem? k2) k3, seen ++ [s], rfl, q0, q1, q2, q4, q12, q14, by rw [hget_hset, if_pos rfl], by rw [hget_hset, if_neg (by omega)]; exact u2, u3', hnx2⟩
    have f1 : IntKind.i64.wrap ((i : Int) + 1) = ((i + 1 : Nat) : Int) := by rw [w64 (by omega) (by omega)]; omega
    have f2 : IntKind.u64.wrap (i : Int) = (i : Int) := by simp [IntKind.wrap, IntKind.bits, IntKind.signed]; omega
    have f3 : IntKind.u64.wrap ((d : Int) + (i : Int)) = ((d + i : Nat) : Int) := by simp [IntKind.wrap, IntKind.bits, IntKind.signed]; omega
    have f4 := b_rem32 (d := d) (i := i) hdd (by omega)
    have f5 : IntKind.i64.wrap (8 * (i : Int)) = ((8 * i : Nat) : Int) := by rw [w64 (by omega) (by omega)]; omega
    have f6 := b_shr8 (x := x) (i := i) (by omega)
    have f7 : IntKind.u8.wrap ((x / 256 ^ i : Nat) : Int) = ((x / 256 ^ i % 256 : Nat) : Int) := by simp [IntKind.wrap, IntKind.bits, IntKind.signed]
    have f8 : lookA heap .int (.int .u8 0) false (.mp b2) (.int .u64 ((adr d i : Nat) : Int)) = some (.int .u8 ((x / 256 ^ i % 256 : Nat) : Int)) := by
      rw [N2.look, lk_off (by omega) (Nat.le_refl _) (by omega), hat i (by omega)]
    obtain ⟨k1, d1, p1, p1'⟩ := N2.del (hfo.filter _).pw ((adr d i : Nat) : Int)
    obtain ⟨k2, d2, p2, p2'⟩ := (N1.ne (p1' b1 hne)).del (hf.filter _).pw ((adr d i : Nat) : Int)
    simp -implicitDefEqProofs only [RA, takeV, reduceEqDiff, ↓reduceIte, reduceCtorEq, reduceAdd, reduceLeDiff, reduceLT, Nat.reduceBEq, A205l0, g0, g1, g2, g3, g14, g15, g16, q8, hc, f1, f2, f3, f4, f5, f6, f7, f8, d1, d2, Int.reduceEq]
    exact ⟨n - (i + 1), by omega, i + 1, rfl, by omega, g4, g11, g12, rfl, by rw [← off_succ]; exact p2, by rw [← off_succ]; exact p1.ne (p2' b2 (Ne.symm hne)), hnx⟩
end Go.Proofs.YtdmjloieldhlnaaGreatDoor
namespace Go.Proofs.YtdmjloieldhlnaaGreatDoor
open Go Go.Ab Go.Proofs
open Nat (reduceEqDiff reduceAdd reduceLeDiff reduceLT)
open Go.ChangeShapes Go.WideShapes Go.ChangeAt Go.RowKit
set_option linter.unusedVariables false
set_option maxRecDepth 100000
theorem ownK : ownKnob Tryz.prog.godebug = none := by kernel_rfl
theorem laidOut : laidOutB Tryz.prog = true := by kernel_rfl
abbrev Nm := List UInt8
theorem wf_u {a : Int} (h : (Lit.int .u64 a).wf = true) : ∃ n : Nat, a = n ∧ n < 18446744073709551616 := by
  simp only [Lit.wf, IntKind.min, IntKind.max, IntKind.signed, IntKind.bits, Bool.and_eq_true, decide_eq_true_eq, Bool.false_eq_true, if_false] at h
  exact ⟨a.toNat, by omega, by omega⟩
theorem open_u64 {n : Nat} {x : AV} (h : AT Tryz.prog n 23 [x]) : ∃ a : Nat, x = .int .u64 a ∧ a < 18446744073709551616 := by
  cases n with
  | zero => exact h.elim
  | succ n =>
    simp only [AT, Tryz.underlying23] at h
    obtain ⟨a, h1, h2⟩ := h
    obtain ⟨m, rfl, hm⟩ := wf_u h2
    exact ⟨m, by simpa using h1, hm⟩
theorem open_int {n : Nat} {x : AV} (h : AT Tryz.prog n 3 [x]) : ∃ a : Int, x = .int .i64 a := by
  cases n with
  | zero => exact h.elim
  | succ n =>
    simp only [AT, Tryz.underlying3] at h
    obtain ⟨a, h1, h2⟩ := h
    exact ⟨a, by simpa using h1⟩
theorem open_cells {n : Nat} {x : AV} (h : AT Tryz.prog n 24 [x]) : ∃ l : List (Int × Int), x = cellsA l ∧ wfC l := by
  cases n with
  | zero => exact h.elim
  | succ n =>
    simp only [AT, Tryz.underlying24] at h
    obtain ⟨es, he, hm, hes⟩ := h
    have hc : Tryz.prog.cellsOf 35 = 2 := by kernel_rfl
    simp only [List.cons.injEq, and_true] at he
    subst he
    rw [hc]
    have key : ∀ x ∈ es, ∃ r : Int × Int, x = cellE r ∧ (0 ≤ r.1 ∧ r.1 < 18446744073709551616) ∧ 0 ≤ r.2 ∧ r.2 < 256 := by
      intro x hx
      obtain ⟨_, ha⟩ := hes x hx
      cases n with
      | zero => exact ha.elim
      | succ n =>
        simp only [AT, Tryz.underlying35] at ha
        obtain ⟨y, z, rfl, h1, y2, z2, rfl, h2, h3⟩ := ha
        subst h3
        cases n with
        | zero => exact h1.elim
        | succ n =>
          simp only [AT, Tryz.underlying23, Tryz.underlying5] at h1 h2
          obtain ⟨a, rfl, ha⟩ := h1
          obtain ⟨b, rfl, hb⟩ := h2
          refine ⟨(a, b), rfl, ?_⟩
          simp only [Lit.wf, IntKind.min, IntKind.max, IntKind.signed, IntKind.bits, Bool.and_eq_true, decide_eq_true_eq, Bool.false_eq_true, if_false] at ha hb
          omega
    clear hes
    have : ∃ l : List (Int × Int), es = l.map cellE ∧ wfC l := by
      clear hm
      induction es with
      | nil => exact ⟨[], rfl, fun r h => by simp at h⟩
      | cons e es ih =>
        obtain ⟨l, hl, hw⟩ := ih fun x hx => key x (List.mem_cons_of_mem _ hx)
        obtain ⟨r, hr, hr2⟩ := key e List.mem_cons_self
        exact ⟨r :: l, by rw [hl, hr]; rfl, fun q hq => by rcases List.mem_cons.1 hq with rfl | hq; exact hr2; exact hw q hq⟩
    obtain ⟨l, rfl, hw⟩ := this
    exact ⟨l, rfl, hw⟩
def rowsT : List (Nm × Int × Int) := [([], 0, 0), ([], 0, 0), ([], 0, 0), ([110, 111, 116], 1, 1), ([110, 101, 103], 1, 1), ([97, 100, 100], 2, 1), ([115, 117, 98], 2, 1), ([109, 117, 108], 2, 1), ([97, 110, 100], 2, 1), ([111, 114], 2, 1), ([120, 111, 114], 2, 1), ([115, 104, 108], 2, 1), ([115, 104, 114], 2, 1), ([115, 97, 114], 2, 1), ([117, 100, 105, 118], 2, 1), ([117, 114, 101, 109], 2, 1), ([101, 113], 2, 2), ([117, 108, 116], 2, 2), ([115, 108, 116], 2, 2), ([105, 116, 101], 3, 3), ([99, 111, 110, 99, 97, 116], 2, 4), ([101, 120, 116, 114, 97, 99, 116], 1, 5), ([122, 101, 120, 116], 1, 6), ([115, 101, 120, 116], 1, 6), ([108, 111, 97, 100], 1, 7)]
theorem gl_rows : GL 1 = some (rowsT.map fun r => [AV.str r.1, .int .i64 r.2.1, .int .i64 r.2.2]).flatten := rfl
theorem laid_rows : (Rows.laid_retarget_term_shapes : DataW Unit) = .agg (rowsT.map fun r => .agg [.lit (.string r.1), .lit (.int .i64 r.2.1), .lit (.int .i64 r.2.2)]) := rfl
theorem gShapes : Tryz.prog.globalNamed "retarget/term.shapes" = some 1 := by kernel_rfl
theorem gShapesType : (Tryz.prog.globals[1]?).map (·.type) = some 203 := by kernel_rfl
theorem cells9 : Tryz.prog.cellsOf 9 = 1 := by kernel_rfl
theorem cells3 : Tryz.prog.cellsOf 3 = 1 := by kernel_rfl
theorem cells189 : Tryz.prog.cellsOf 189 = 3 := by kernel_rfl
section
variable {w : World} {base : Nat} {spare : Nat → Bool} {held : Bool}
theorem shape_row {fuel : Nat} {cs : List Value} {a : Nm} {b c : Int} {p : List MemPlace} (h : DataW.trod (fun _ => ()) Tryz.prog w base spare held fuel 189 cs = some (.agg [.lit (.string a), .lit (.int .i64 b), .lit (.int .i64 c)], p)) :
    ∃ s : ByteArray, cs = [.string s, .int .i64 b, .int .i64 c] ∧ s.data.toList = a := by
  obtain ⟨xs, m, rfl, hx, hl, hn, hf⟩ := DataW.trod_struct Tryz.underlying189 h
  rw [cells189] at hl
  obtain ⟨v0, v1, v2, rfl⟩ : ∃ v0 v1 v2, cs = [v0, v1, v2] := by
    match cs, hl with
    | [v0, v1, v2], _ => exact ⟨_, _, _, rfl⟩
  simp only [Prod.mk.injEq, DataW.agg.injEq] at hx
  obtain ⟨hx, _⟩ := hx
  have hg : ∀ i : Nat, (xs.map (·.1))[i]? = ([.lit (.string a), .lit (.int .i64 b), .lit (.int .i64 c)] : List (DataW Unit))[i]? := fun i => by rw [← hx]
  have h0 := hf 0 { name := "word", type := 9, offset := 0, embedded := false, tag := "", pkgPath := "retarget/term", byteOffset := 0 } rfl
  have h1 := hf 1 { name := "parts", type := 3, offset := 1, embedded := false, tag := "", pkgPath := "retarget/term", byteOffset := 16 } rfl
  have h2 := hf 2 { name := "how", type := 3, offset := 2, embedded := false, tag := "", pkgPath := "retarget/term", byteOffset := 24 } rfl
  dsimp only at h0 h1 h2
  rw [cells9] at h0
  rw [cells3] at h1 h2
  simp only [List.drop_zero, List.take_succ_cons, List.take_zero, List.drop_succ_cons] at h0 h1 h2
  have g0 := hg 0
  have g1 := hg 1
  have g2 := hg 2
  rw [List.getElem?_map] at g0 g1 g2
  cases e0 : xs[0]? with
  | none => rw [e0] at g0; cases g0
  | some x0 =>
  cases e1 : xs[1]? with
  | none => rw [e1] at g1; cases g1
  | some x1 =>
  cases e2 : xs[2]? with
  | none => rw [e2] at g2; cases g2
  | some x2 =>
  rw [e0] at h0 g0
  rw [e1] at h1 g1
  rw [e2] at h2 g2
  obtain ⟨s, q0, r0, _⟩ := DataW.trod_string Tryz.underlying9 h0
  obtain ⟨n1, q1, r1, _⟩ := DataW.trod_int Tryz.underlying3 h1
  obtain ⟨n2, q2, r2, _⟩ := DataW.trod_int Tryz.underlying3 h2
  subst r0; subst r1; subst r2
  simp at g0 g1 g2 q0 q1 q2
  subst g1; subst g2; subst q0; subst q1; subst q2
  exact ⟨s, rfl, g0⟩
theorem shape_at {fuel : Nat} {cs : List Value} {p : List MemPlace} (h : DataW.trod (fun _ => ()) Tryz.prog w base spare held fuel 203 cs = some (Rows.laid_retarget_term_shapes, p)) {i : Nat} {r : Nm × Int × Int} (hr : rowsT[i]? = some r) :
    ∃ s : ByteArray, (cs.drop (i * 3)).take 3 = [.string s, .int .i64 r.2.1, .int .i64 r.2.2] ∧ s.data.toList = r.1 := by
  obtain ⟨xs, m, rfl, hx, hl, hn, hf⟩ := DataW.trod_array Tryz.underlying203 h
  rw [laid_rows] at hx
  simp only [Prod.mk.injEq, DataW.agg.injEq] at hx
  obtain ⟨hx, _⟩ := hx
  have hi : i < 25 := by
    have := (List.getElem?_eq_some_iff.1 hr).1
    exact this
  have hg : (xs.map (·.1))[i]? = some (.agg [.lit (.string r.1), .lit (.int .i64 r.2.1), .lit (.int .i64 r.2.2)]) := by rw [← hx, List.getElem?_map, hr]; rfl
  rw [List.getElem?_map] at hg
  have h1 := hf i hi
  rw [cells189] at h1
  cases e : xs[i]? with
  | none => rw [e] at hg; cases hg
  | some x =>
    rw [e] at hg h1
    obtain ⟨d, ps⟩ := x
    simp only [Option.map_some, Option.some.injEq] at hg
    subst hg
    exact shape_row h1
end
theorem laid_gl {W : World} {laid : List (String × DataW Unit)} (hlaid : laid = [("retarget/term.shapes", Rows.laid_retarget_term_shapes)]) (h : laidMet Tryz.prog laid W) : GlR (wd0 W) 0 := by
  subst hlaid
  obtain ⟨ps, ⟨g', t', cs, fuel, p, q, hg', ht', hvar, hd, _, _⟩, _⟩ := h
  obtain rfl := Option.some.inj (gShapes.symm.trans hg')
  obtain rfl := Option.some.inj (gShapesType.symm.trans ht')
  intro g gcs hgl
  have hg0 : g = 1 := by
    unfold GL at hgl
    split at hgl
    · assumption
    · cases hgl
  subst hg0
  rw [gl_rows] at hgl
  simp only [Option.some.injEq] at hgl
  subst hgl
  have hall : ∀ z ∈ rowsT.map fun r => [AV.str r.1, .int .i64 r.2.1, .int .i64 r.2.2], z.length = 3 := fun z hz => by
    obtain ⟨r, _, rfl⟩ := List.mem_map.1 hz; rfl
  have hlen : (rowsT.map fun r => [AV.str r.1, .int .i64 r.2.1, .int .i64 r.2.2]).flatten.length = 75 := rfl
  have key : ∀ j, j < 75 → ∃ (r : Nm × Int × Int) (s : ByteArray) (v : Value) (x : AV), rowsT[j / 3]? = some r ∧ s.data.toList = r.1 ∧ cs[j]? = some v ∧ ([.string s, .int .i64 r.2.1, .int .i64 r.2.2] : List Value)[j % 3]? = some v ∧ ([AV.str r.1, .int .i64 r.2.1, .int .i64 r.2.2])[j % 3]? = some x ∧ (rowsT.map fun r => [AV.str r.1, .int .i64 r.2.1, .int .i64 r.2.2]).flatten[j]? = some x := by
    intro j hj
    have hjl : j / 3 < rowsT.length := by show j / 3 < 25; omega
    obtain ⟨r, hr⟩ : ∃ r, rowsT[j / 3]? = some r := ⟨_, List.getElem?_eq_getElem hjl⟩
    obtain ⟨s, h1, h2⟩ := shape_at hd hr
    have hm : j % 3 < 3 := Nat.mod_lt _ (by omega)
    have hj3 : j / 3 * 3 + j % 3 = j := by omega
    have hv : (cs.toList)[j]? = ([.string s, .int .i64 r.2.1, .int .i64 r.2.2] : List Value)[j % 3]? := by
      rw [← h1, List.getElem?_take, if_pos hm, List.getElem?_drop, hj3]
    have e1 := List.getElem?_eq_getElem (l := ([.string s, .int .i64 r.2.1, .int .i64 r.2.2] : List Value)) (show j % 3 < 3 from hm)
    have e2 := List.getElem?_eq_getElem (l := [AV.str r.1, .int .i64 r.2.1, .int .i64 r.2.2]) (show j % 3 < 3 from hm)
    refine ⟨r, s, _, _, hr, h2, ?_, e1, e2, ?_⟩
    · rw [← e1, ← hv]; simp
    · have := flat_at hall (j / 3) _ (by rw [List.getElem?_map, hr]; rfl) (j % 3) _ e2
      rwa [hj3] at this
  refine .fp _ _ (fun j => cs[j]?.getD undef) (fun j x hx => ?_) (fun k hk => ?_) (fun j x hx => ?_)
  · have hj : j < 75 := by rw [← hlen]; exact (List.getElem?_eq_some_iff.1 hx).1
    obtain ⟨r, s, v, y, h1, h2, h3, h4, h5, h6⟩ := key j hj
    rw [h6] at hx
    cases hx
    match hq : j % 3, h5 with
    | 0, h5 => simp at h5; subst h5; rfl
    | 1, h5 => simp at h5; subst h5; rfl
    | 2, h5 => simp at h5; subst h5; rfl
    | k + 3, h5 => omega
  · rw [hlen] at hk
    obtain ⟨r, s, v, y, h1, h2, h3, h4, h5, h6⟩ := key k hk
    have hc := World.var?_cell gShapes hvar k
    rw [h3] at hc
    have hc2 : (wd0 W).w.cell? ((⟨1, 0, none⟩ : Addr).add k) = some v := by rw [add_eq, Nat.zero_add]; exact hc
    exact ⟨by rw [h3]; exact hc2, Old.wd0 W _ _ (cell_lt hc2)⟩
  · have hj : j < 75 := by rw [← hlen]; exact (List.getElem?_eq_some_iff.1 hx).1
    obtain ⟨r, s, v, y, h1, h2, h3, h4, h5, h6⟩ := key j hj
    rw [h6] at hx
    cases hx
    rw [h3]
    match hq : j % 3, h4, h5 with
    | 0, h4, h5 => simp at h4 h5; subst h4; subst h5; exact .str _ _ h2
    | 1, h4, h5 => simp at h4 h5; subst h4; subst h5; exact .int _ _
    | 2, h4, h5 => simp at h4 h5; subst h4; subst h5; exact .int _ _
    | k + 3, h4, h5 => omega
end Go.Proofs.YtdmjloieldhlnaaGreatDoor
