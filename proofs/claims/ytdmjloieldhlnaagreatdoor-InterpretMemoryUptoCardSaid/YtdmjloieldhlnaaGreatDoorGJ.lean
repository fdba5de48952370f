/- Store: its loop. -/
import Derived.Test.YtdmjloieldhlnaaGreatDoorGI
namespace Go.Proofs.YtdmjloieldhlnaaGreatDoor
open Go Go.Ab Go.Proofs
open Nat (reduceEqDiff reduceAdd reduceLeDiff reduceLT)
set_option linter.unusedVariables false
set_option linter.unusedSimpArgs false
set_option maxRecDepth 20000
def A5r : ACode :=
  (.seq (.seq (.region [⟨(some 87), none, .op (.move (.tmp 10))⟩,
      ⟨(some 88), none, .op (.len (.tmp 87))⟩,
      ⟨(some 89), none, .op (.bin .gtr (.tmp 88) (.const (.int .i64 4096)))⟩])
    (.cond (.tmp 89) (.seq (.region [⟨(some 8), none, .op (.move (.const (.slice none 0 0)))⟩,
      ⟨(some 9), none, .op (.move (.const (.int .i64 20)))⟩])
    .ret) .skip))
    (.seq (.region [⟨(some 90), none, .op (.move (.tmp 10))⟩,
      ⟨(some 8), none, .op (.move (.tmp 90))⟩,
      ⟨(some 9), none, .op (.move (.const (.int .i64 0)))⟩])
    .ret))
theorem loop5 (l : List (Int × Int)) (d x nb : Nat) (out : List (Int × Int)) (e w : Int) (hl : l.length ≤ 4100) (d1 : d < 4294967296) (hx : x < 18446744073709551616) (hw : w = 8 * (nb : Int)) (hnb : nb ≤ 8) (hsr : Srt l) (hs : (4096 < (stoL nb l d x).length ∧ out = [] ∧ e = 20) ∨ (¬ 4096 < (stoL nb l d x).length ∧ out = stoL nb l d x ∧ e = 0))
    (Qv : AE → Heap → Nat → Prop) (hQ : ∀ y h' n', (∃ v, y = .ret (.tup [v, .int .i64 e]) ∧ OwnSl 35 2 h' n' v (out.map cellE)) → Qv y h' n') (env : Env) (heap : Heap) (nx' : Nat) (v : AV) (g1 : eget env 1 = some (.int .u64 d)) (g2 : eget env 2 = some (.int .i64 w)) (g3 : eget env 3 = some (.int .u64 x)) (g10 : eget env 10 = some v) (g11 : eget env 11 = some (.int .i64 0)) (ho : OwnSl 35 2 heap nx' v (l.map cellE)) :
    AW Tryz.prog (fun r i => (r, i) == (15, 5)) none 91 (.loop A5l0) (post Tryz.prog (fun r i => (r, i) == (15, 5)) none 91 (Fin R5 Qv) [.blk 0, .seq A5r]) { env := env, heap := heap, nx := nx', dm := [] } := by
  refine go_rounds (fun q st => ∃ (m : Nat) (v : AV) (l' : List (Int × Int)), q = nb - m ∧ m ≤ nb ∧ stoL (nb - m) l' (adr d m) (x / 256 ^ m) = stoL nb l d x ∧ l'.length ≤ l.length + m ∧ Srt l' ∧ eget st.env 1 = some (.int .u64 d) ∧ eget st.env 2 = some (.int .i64 w) ∧ eget st.env 3 = some (.int .u64 x) ∧ eget st.env 10 = some v ∧ eget st.env 11 = some (.int .i64 (8 * m : Nat)) ∧ OwnSl 35 2 st.heap st.nx v (l'.map cellE) ∧ st.dm = []) (n := nb) mixed
    ⟨0, v, l, rfl, by omega, by simp [adr, Nat.mod_eq_of_lt d1], by omega, hsr, g1, g2, g3, g10, g11, ho, rfl⟩ ?_
  rintro q ⟨env, heap, nx', dm⟩ ⟨m, v, l', rfl, hm, hst, hll, hsl, g1, g2, g3, g10, g11, ho, hdm⟩
  simp only at g1 g2 g3 g10 g11 ho hdm
  subst hdm
  have hlv : lenA v = some l'.length := by rw [ho.len, List.length_map]
  by_cases hc : ((8 * m : Nat) : Int) < w
  case neg =>
    obtain rfl : m = nb := by omega
    rw [Nat.sub_self] at hst
    have hst' : l' = stoL m l d x := hst
    rw [← hst'] at hs
    rcases hs with ⟨h1, rfl, rfl⟩ | ⟨h1, rfl, rfl⟩
    · have c1 : (4096 : Int) < (l'.length : Int) := by omega
      simp -implicitDefEqProofs only [RA, takeV, reduceEqDiff, ↓reduceIte, reduceCtorEq, reduceAdd, reduceLeDiff, reduceLT, Nat.reduceBEq, A5l0, A5r, g1, g2, g3, g10, g11, hc, hlv, c1, R5]
      exact hQ _ _ _ ⟨_, rfl, .inl ⟨rfl, rfl⟩⟩
    · have c1 : ¬ (4096 : Int) < (out.length : Int) := by omega
      simp -implicitDefEqProofs only [RA, takeV, reduceEqDiff, ↓reduceIte, reduceCtorEq, reduceAdd, reduceLeDiff, reduceLT, Nat.reduceBEq, A5l0, A5r, g1, g2, g3, g10, g11, hc, hlv, c1, R5]
      exact hQ _ _ _ ⟨_, rfl, ho⟩
  have hmn : m < nb := by omega
  have s1 : IntKind.i64.wrap (((8 * m : Nat) : Int).tdiv 8) = (m : Int) := by rw [show ((8 * m : Nat) : Int) = 8 * (m : Int) by omega, Int.mul_tdiv_cancel_left _ (by decide), w64 (by omega) (by omega)]
  have s2 : IntKind.u64.wrap (m : Int) = (m : Int) := wu64 (by omega) (by omega)
  have s3 : IntKind.u64.wrap ((d : Int) + (m : Int)) = ((d + m : Nat) : Int) := by rw [wu64 (by omega) (by omega)]; omega
  have s4 := band_lit (a := d + m) (by omega)
  have s5 : (x : Int).fdiv (2 ^ (min (((8 * m : Nat) : Int).toNat) 64)) = ((x / 256 ^ m : Nat) : Int) := by
    rw [Int.toNat_natCast, Nat.min_eq_left (by omega)]
    have e0 : (256 : Nat) ^ m = 2 ^ (8 * m) := by rw [Nat.pow_mul]
    have e1 : (2 : Int) ^ (8 * m) = ((256 ^ m : Nat) : Int) := by rw [e0]; simp
    rw [e1, Int.fdiv_eq_ediv_of_nonneg _ (Int.natCast_nonneg _)]; rfl
  have s6 : IntKind.u8.wrap ((x / 256 ^ m : Nat) : Int) = ((x / 256 ^ m % 256 : Nat) : Int) := by rw [IntKind.wrap_u8]; omega
  have hrd : RdC heap v l' := .inr ⟨35, nx', ho⟩
  generalize hB : x / 256 ^ m = B at s5 s6 hst
  simp -implicitDefEqProofs only [RA, takeV, reduceEqDiff, ↓reduceIte, reduceCtorEq, reduceAdd, reduceLeDiff, reduceLT, Nat.reduceBEq, A5l0, g1, g2, g3, g10, g11, hc, b_quo _ _ 8 (by decide), s1, s2, s3, b_and, s4, Option.map_some, b_shr _ _ _ _ (Int.natCast_nonneg (8 * m)), IntKind.bits, s5, s6]
  refine (w14 v l' ((d + m) % 4294967296 : Nat) (by omega) hsl _ _ hrd).mono ?_
  rintro y hh n1 ⟨k, hat, rfl, rfl, hn1⟩
  have hkl := hat.le
  have f1 : IntKind.i64.wrap ((k : Int) + 1) = ((k + 1 : Nat) : Int) := by rw [w64 (by omega) (by omega)]; omega
  have f8 : IntKind.i64.wrap (((8 * m : Nat) : Int) + 8) = ((8 * (m + 1) : Nat) : Int) := by rw [w64 (by omega) (by omega)]; omega
  have hnext : ∀ b : Int, b = ((B % 256 : Nat) : Int) → stoL (nb - (m + 1)) (putL l' ((d + m) % 4294967296 : Nat) b) (adr d (m + 1)) (x / 256 ^ (m + 1)) = stoL nb l d x := by
    intro b hb
    rw [← hst, hb, ← hB]; exact (sto_step d1 hmn).symm
  have hplen := putL_len l' ((d + m) % 4294967296 : Nat) ((B % 256 : Nat) : Int)
  have hpsrt := srt_put (d := ((d + m) % 4294967296 : Nat)) (b := ((B % 256 : Nat) : Int)) hsl
  rcases dec_cases (((B % 256 : Nat) : Int) = 0) with ⟨c1, e1⟩ | ⟨c1, e1⟩
  · cases hh1 : hitB l' ((d + m) % 4294967296 : Nat) k with
    | false =>
      rw [c1, put_miss0 hat hsl hh1] at hplen hpsrt
      have hn := hnext 0 c1.symm
      rw [put_miss0 hat hsl hh1] at hn
      simp -implicitDefEqProofs only [RA, takeV, reduceEqDiff, ↓reduceIte, reduceCtorEq, reduceAdd, reduceLeDiff, reduceLT, Nat.reduceBEq, e1, f8, g1, g2, g3, g10, g11]
      refine ⟨nb - (m + 1), by omega, m + 1, v, l', rfl, by omega, hn, by omega, hsl, ?_⟩
      repeat' apply And.intro
      all_goals first | assumption | rfl | omega | exact ho.mono hn1 | (simp [eget, *]; done)
    | true =>
      obtain ⟨r, hr, _⟩ := hitB_iff.1 hh1
      have hkl2 := (List.getElem?_eq_some_iff.1 hr).1
      rcases ho with ⟨_, hnil⟩ | ⟨b, rfl, hb, hbn⟩
      · rw [List.map_eq_nil_iff] at hnil; subst hnil; simp at hkl2
      obtain ⟨q, hq⟩ : ∃ q, l'.length = q + 1 := ⟨l'.length - 1, by omega⟩
      have hml : (l'.map cellE).length = q + 1 := by rw [List.length_map, hq]
      rw [hml] at g10 ⊢
      rw [c1, put_hit0 hat hsl hh1] at hplen hpsrt
      have hn := hnext 0 c1.symm
      rw [put_hit0 hat hsl hh1] at hn
      simp -implicitDefEqProofs only [RA, takeV, reduceEqDiff, ↓reduceIte, reduceCtorEq, reduceAdd, reduceLeDiff, reduceLT, Nat.reduceBEq, e1, f1, g1, g2, g3, g10, g11]
      refine (w16 b k q (l'.map cellE) (cellE_len l') hml (by omega) (by omega) _ _ hb).mono ?_
      rintro y h2 n2 ⟨rfl, rfl, _, hg⟩
      have hel : (l'.eraseIdx k).length = q := by rw [List.length_eraseIdx, if_pos (by omega), hq]; rfl
      have how : OwnSl 35 2 h2 n2 (.os b 0 35 2 q) ((l'.eraseIdx k).map cellE) := .inr ⟨b, by rw [List.length_map, hel], by rw [hg]; simp [List.eraseIdx_eq_take_drop_succ, List.map_take, List.map_drop], by omega⟩
      simp -implicitDefEqProofs only [RA, takeV, reduceEqDiff, ↓reduceIte, reduceCtorEq, reduceAdd, reduceLeDiff, reduceLT, Nat.reduceBEq, f8, g1, g2, g3, g10, g11]
      refine ⟨nb - (m + 1), by omega, m + 1, .os b 0 35 2 q, l'.eraseIdx k, rfl, by omega, hn, by omega, hpsrt, ?_⟩
      repeat' apply And.intro
      all_goals first | assumption | rfl | omega | (simp [eget, *]; done)
  · cases hh1 : hitB l' ((d + m) % 4294967296 : Nat) k with
    | false =>
      have hn := hnext _ rfl
      rw [put_miss hat hsl hh1 c1] at hn hplen hpsrt
      simp -implicitDefEqProofs only [RA, takeV, reduceEqDiff, ↓reduceIte, reduceCtorEq, reduceAdd, reduceLeDiff, reduceLT, Nat.reduceBEq, e1, g1, g2, g3, g10, g11]
      have hlt : ∀ b, blkOf v = some b → b < n1 := fun b hb => by have := (ho.blk hb).2.2; omega
      have ho1 : OwnSl 35 2 ((n1, AO.cells [[AV.int .u64 ((d + m) % 4294967296 : Nat), AV.int .u8 (B % 256 : Nat)]].flatten) :: hh) (n1 + 1) v (l'.map cellE) := ho.keep (by omega) fun b o hb hg => by
        have := hlt b hb
        rw [hget_cons, if_neg (by omega)]; exact hg
      refine (w17 v k l'.length n1 (l'.map cellE) [.int .u64 ((d + m) % 4294967296 : Nat), .int .u8 (B % 256 : Nat)] (cellE_len l') (by rw [List.length_map]) (by omega) (by omega) rfl _ _ ho1 (by rw [hget_cons, if_pos rfl]; rfl) (fun hb => by have := hlt _ hb; omega) (by omega)).mono ?_
      rintro y h2 n2 ⟨v', rfl, gr⟩
      have how : OwnSl 35 2 h2 n2 v' ((l'.take k ++ ((((d + m) % 4294967296 : Nat) : Int), ((B % 256 : Nat) : Int)) :: l'.drop k).map cellE) := by rw [put_ins]; exact gr.1
      simp -implicitDefEqProofs only [RA, takeV, reduceEqDiff, ↓reduceIte, reduceCtorEq, reduceAdd, reduceLeDiff, reduceLT, Nat.reduceBEq, f8, g1, g2, g3, g10, g11]
      refine ⟨nb - (m + 1), by omega, m + 1, v', l'.take k ++ ((((d + m) % 4294967296 : Nat) : Int), ((B % 256 : Nat) : Int)) :: l'.drop k, rfl, by omega, hn, by omega, hpsrt, ?_⟩
      repeat' apply And.intro
      all_goals first | assumption | rfl | omega | (simp [eget, *]; done)
    | true =>
      obtain ⟨r, hr, hrd2⟩ := hitB_iff.1 hh1
      have hn := hnext _ rfl
      rw [put_hit hat hsl hh1 c1] at hn hplen hpsrt
      have hrm : (l'.map cellE)[k]? = some (cellE r) := by rw [List.getElem?_map, hr]; rfl
      obtain ⟨bb, ww, H, p1, p2, p3, _⟩ := ho.put (cellE_len l') hrm (off := 1) (by omega) (.int .u8 ((B % 256 : Nat) : Int))
      have hset : (l'.map cellE).set k ((cellE r).set 1 (.int .u8 ((B % 256 : Nat) : Int))) = (l'.set k ((((d + m) % 4294967296 : Nat) : Int), ((B % 256 : Nat) : Int))).map cellE := by
        rw [List.map_set, ← hrd2]; rfl
      rw [hset] at p3
      have how := p3.mono hn1
      simp -implicitDefEqProofs only [RR, RE, takeV, reduceEqDiff, ↓reduceIte, reduceCtorEq, reduceAdd, reduceLeDiff, reduceLT, Nat.reduceBEq, e1, f8, g1, g2, g3, g10, g11, p1, p2]
      refine ⟨nb - (m + 1), by omega, m + 1, v, l'.set k ((((d + m) % 4294967296 : Nat) : Int), ((B % 256 : Nat) : Int)), rfl, by omega, hn, by omega, hpsrt, ?_⟩
      repeat' apply And.intro
      all_goals first | assumption | rfl | omega | (simp [eget, *]; done)
end Go.Proofs.YtdmjloieldhlnaaGreatDoor
namespace Go.Proofs.YtdmjloieldhlnaaGreatDoor
open Go Go.Ab Go.Proofs
open Nat (reduceEqDiff reduceAdd reduceLeDiff reduceLT)
set_option linter.unusedVariables false
set_option linter.unusedSimpArgs false
set_option maxRecDepth 20000
theorem w5 (l : List (Int × Int)) (d x : Nat) (w : Int) (out : List (Int × Int)) (e : Int) (hl : l.length ≤ 4200) (hw : wfC l) (hd : d < 18446744073709551616) (hx : x < 18446744073709551616) (hs : Sto l d w x out e) (nx : Nat) : AC Tryz.prog 11 [cellsA l, .int .u64 d, .int .i64 w, .int .u64 x] [] nx fun y h' n' => ∃ v, y = .ret (.tup [v, .int .i64 e]) ∧ OwnSl 35 2 h' n' v (out.map cellE) := by
  refine AC.go mixed is5 (by simp) ?_
  have bad : ∀ (h : Heap) (n : Nat), ¬ okS l d w x → (fun (y : AE) (h' : Heap) (n' : Nat) => ∃ v, y = .ret (.tup [v, .int .i64 e]) ∧ OwnSl 35 2 h' n' v (out.map cellE)) (.ret (.tup [.nilS, .int .i64 2])) h n := by
    intro h n hn
    obtain ⟨rfl, rfl⟩ : out = [] ∧ e = 2 := by
      rcases hs with ⟨_, h1, h2⟩ | ⟨h1, _⟩ | ⟨h1, _⟩
      · exact ⟨h1, h2⟩
      · exact absurd h1 hn
      · exact absurd h1 hn
    exact ⟨_, rfl, .inl ⟨rfl, rfl⟩⟩
  obtain ⟨Qv, hQ⟩ : ∃ Qv, Qv = (fun (y : AE) (h' : Heap) (n' : Nat) => ∃ v, y = .ret (.tup [v, .int .i64 e]) ∧ OwnSl 35 2 h' n' v (out.map cellE)) := ⟨_, rfl⟩
  rw [← hQ] at bad ⊢
  simp -implicitDefEqProofs only [RA, takeV, reduceEqDiff, ↓reduceIte, reduceCtorEq, reduceAdd, reduceLeDiff, reduceLT, Nat.reduceBEq, A5]
  refine (w10 l (by omega) hw).use fun n1 hn1 => ?_
  by_cases c1 : isM l
  case neg =>
    simp -implicitDefEqProofs only [RA, takeV, reduceEqDiff, ↓reduceIte, reduceCtorEq, reduceAdd, reduceLeDiff, reduceLT, Nat.reduceBEq, memB_f c1, unA, R5]
    exact bad _ _ fun h => c1 h.1
  simp -implicitDefEqProofs only [RA, takeV, reduceEqDiff, ↓reduceIte, reduceCtorEq, reduceAdd, reduceLeDiff, reduceLT, Nat.reduceBEq, memB_t c1, unA]
  refine (w11 d 32 (by omega) (by omega)).use fun n2 hn2 => ?_
  have p32 : (2 : Nat) ^ 32 = 4294967296 := by decide
  rcases dec_cases (d < 2 ^ 32) with ⟨c2, e2⟩ | ⟨c2, e2⟩
  case inr =>
    simp -implicitDefEqProofs only [RA, takeV, reduceEqDiff, ↓reduceIte, reduceCtorEq, reduceAdd, reduceLeDiff, reduceLT, Nat.reduceBEq, e2, unA, R5]
    exact bad _ _ fun h => by have := h.2.1; omega
  simp -implicitDefEqProofs only [RA, takeV, reduceEqDiff, ↓reduceIte, reduceCtorEq, reduceAdd, reduceLeDiff, reduceLT, Nat.reduceBEq, e2, unA]
  refine (w12 [8, 16, 32, 64] w (by decide)).use fun n3 hn3 => ?_
  have hmem : (w ∈ [8, 16, 32, 64]) = (w = 8 ∨ w = 16 ∨ w = 32 ∨ w = 64) := by simp
  rcases dec_cases (w ∈ [8, 16, 32, 64]) with ⟨c3, e3⟩ | ⟨c3, e3⟩
  case inr =>
    simp -implicitDefEqProofs only [RA, takeV, reduceEqDiff, ↓reduceIte, reduceCtorEq, reduceAdd, reduceLeDiff, reduceLT, Nat.reduceBEq, e3, unA, R5]
    exact bad _ _ fun h => c3 (by rw [hmem]; exact h.2.2.1)
  rw [hmem] at c3
  obtain ⟨wn, rfl⟩ : ∃ wn : Nat, w = (wn : Int) := ⟨w.toNat, by omega⟩
  simp -implicitDefEqProofs only [RA, takeV, reduceEqDiff, ↓reduceIte, reduceCtorEq, reduceAdd, reduceLeDiff, reduceLT, Nat.reduceBEq, e3, unA]
  refine (w11 x wn (by omega) (by omega)).use fun n4 hn4 => ?_
  have hok : okS l d wn x ↔ x < 2 ^ wn := by
    constructor
    · rintro ⟨_, _, _, h | h⟩
      · have : wn = 64 := by omega
        subst this; simpa using hx
      · simpa using h
    · intro h; exact ⟨c1, by omega, c3, .inr (by simpa using h)⟩
  rcases dec_cases (x < 2 ^ wn) with ⟨c4, e4⟩ | ⟨c4, e4⟩
  case inr =>
    simp -implicitDefEqProofs only [RA, takeV, reduceEqDiff, ↓reduceIte, reduceCtorEq, reduceAdd, reduceLeDiff, reduceLT, Nat.reduceBEq, e4, unA, R5]
    exact bad _ _ fun h => c4 (hok.1 h)
  have hl4 := (chkM_ok c1.1).1
  have hgd := (chkM_ok c1.1).2
  simp -implicitDefEqProofs only [RA, takeV, reduceEqDiff, ↓reduceIte, reduceCtorEq, reduceAdd, reduceLeDiff, reduceLT, Nat.reduceBEq, e4, unA]
  refine (w13 l (by omega) _).mono ?_
  rintro y h2 n5 ⟨v, rfl, ho⟩
  simp -implicitDefEqProofs only [RA, takeV, reduceEqDiff, ↓reduceIte, reduceCtorEq, reduceAdd, reduceLeDiff, reduceLT, Nat.reduceBEq]
  have e8 : ((wn : Int) / 8).toNat = wn / 8 := by omega
  have hs' : (4096 < (stoL (wn / 8) l d x).length ∧ out = [] ∧ e = 20) ∨ (¬ 4096 < (stoL (wn / 8) l d x).length ∧ out = stoL (wn / 8) l d x ∧ e = 0) := by
    rcases hs with ⟨h, _⟩ | ⟨_, h⟩ | ⟨_, h⟩
    · exact absurd (hok.2 c4) h
    · rw [e8] at h; exact .inl h
    · rw [e8] at h; exact .inr h
  have H := fun env g1 g2 g3 g10 g11 => loop5 l d x (wn / 8) out e wn (by omega) (by omega) hx (by omega) (by omega) (good_srt hgd) hs' Qv (fun y h' n' h => by rw [hQ]; exact h) env h2 n5 v g1 g2 g3 g10 g11 ho
  refine H _ ?_ ?_ ?_ ?_ ?_ <;> rfl
end Go.Proofs.YtdmjloieldhlnaaGreatDoor
namespace Go.Proofs.YtdmjloieldhlnaaGreatDoor
open Go Go.Ab Go.Proofs
open Nat (reduceEqDiff reduceAdd reduceLeDiff reduceLT)
set_option maxRecDepth 100000
def A217l0 : ACode :=
  (.seq (.seq (.region [⟨(some 6), none, .op (.move (.tmp 4))⟩,
      ⟨(some 7), none, .op (.move (.tmp 0))⟩,
      ⟨(some 8), none, .op (.len (.tmp 7))⟩,
      ⟨(some 9), none, .op (.bin .lss (.tmp 6) (.tmp 8))⟩])
    (.cond (.tmp 9) .skip (.exit 0)))
    (.seq (.block 1 (.seq (.seq (.dregion [⟨0, ⟨(some 12), none, .op (.move (.tmp 0))⟩, []⟩,
      ⟨1, ⟨(some 13), none, .op (.move (.tmp 4))⟩, []⟩,
      ⟨2, ⟨(some 14), none, .op (.idxA 2 (.tmp 12) (.tmp 13))⟩, []⟩,
      ⟨3, ⟨(some 15), none, .op (.fieldA 1 (.tmp 14))⟩, []⟩,
      ⟨4, ⟨(some 16), none, .op (.load 1 false (.tmp 15))⟩, []⟩,
      ⟨5, ⟨(some 17), none, .op (.bin .eql (.tmp 16) (.const (.int .u8 0)))⟩, []⟩,
      ⟨6, ⟨(some 18), none, .op (.move (.tmp 17))⟩, []⟩,
      ⟨7, ⟨(some 19), (some (18, false)), .op (.move (.tmp 4))⟩, []⟩,
      ⟨8, ⟨(some 20), (some (18, false)), .op (.bin .gtr (.tmp 19) (.const (.int .i64 0)))⟩, []⟩,
      ⟨9, ⟨(some 21), (some (18, false)), .op (.move (.tmp 20))⟩, []⟩,
      ⟨10, ⟨(some 22), (some (21, true)), .op (.move (.tmp 0))⟩, []⟩,
      ⟨11, ⟨(some 23), (some (21, true)), .op (.move (.tmp 4))⟩, []⟩,
      ⟨12, ⟨(some 24), (some (21, true)), .op (.idxA 2 (.tmp 22) (.tmp 23))⟩, []⟩,
      ⟨13, ⟨(some 25), (some (21, true)), .op (.fieldA 0 (.tmp 24))⟩, []⟩,
      ⟨14, ⟨(some 26), (some (21, true)), .op (.load 1 false (.tmp 25))⟩, []⟩,
      ⟨15, ⟨(some 27), (some (21, true)), .op (.move (.tmp 0))⟩, []⟩,
      ⟨16, ⟨(some 28), (some (21, true)), .op (.move (.tmp 4))⟩, []⟩,
      ⟨17, ⟨(some 29), (some (21, true)), .op (.bin .sub (.tmp 28) (.const (.int .i64 1)))⟩, []⟩,
      ⟨18, ⟨(some 30), (some (21, true)), .op (.idxA 2 (.tmp 27) (.tmp 29))⟩, []⟩,
      ⟨19, ⟨(some 31), (some (21, true)), .op (.fieldA 0 (.tmp 30))⟩, []⟩,
      ⟨20, ⟨(some 32), (some (21, true)), .op (.load 1 false (.tmp 31))⟩, []⟩,
      ⟨21, ⟨(some 33), (some (21, true)), .op (.bin .leq (.tmp 26) (.tmp 32))⟩, []⟩,
      ⟨22, ⟨(some 34), (some (18, false)), .op (.pick (.tmp 21) (.tmp 33) (.const (.bool false)))⟩, []⟩,
      ⟨23, ⟨(some 35), none, .op (.pick (.tmp 18) (.const (.bool true)) (.tmp 34))⟩, []⟩])
    (.cond (.tmp 35) (.seq (.region [⟨(some 2), none, .op (.move (.const (.map none)))⟩])
    .ret) .skip))
    (.dregion [⟨0, ⟨(some 36), none, .op (.move (.tmp 3))⟩, []⟩,
      ⟨1, ⟨(some 37), none, .op (.move (.tmp 0))⟩, []⟩,
      ⟨2, ⟨(some 38), none, .op (.move (.tmp 4))⟩, []⟩,
      ⟨3, ⟨(some 39), none, .op (.idxA 2 (.tmp 37) (.tmp 38))⟩, []⟩,
      ⟨4, ⟨(some 40), none, .op (.fieldA 0 (.tmp 39))⟩, []⟩,
      ⟨5, ⟨(some 41), none, .op (.load 1 false (.tmp 40))⟩, []⟩,
      ⟨6, ⟨(some 42), none, .op (.move (.tmp 0))⟩, []⟩,
      ⟨7, ⟨(some 43), none, .op (.move (.tmp 4))⟩, []⟩,
      ⟨8, ⟨(some 44), none, .op (.idxA 2 (.tmp 42) (.tmp 43))⟩, []⟩,
      ⟨9, ⟨(some 45), none, .op (.fieldA 1 (.tmp 44))⟩, []⟩,
      ⟨10, ⟨(some 46), none, .op (.load 1 false (.tmp 45))⟩, []⟩,
      ⟨11, ⟨none, none, .op (.m (.set .int (.tmp 36) (.tmp 41) (.tmp 46)))⟩, []⟩])))
    (.region [⟨(some 10), none, .op (.move (.tmp 4))⟩,
      ⟨(some 11), none, .op (.bin .add (.tmp 10) (.const (.int .i64 1)))⟩,
      ⟨(some 4), none, .op (.move (.tmp 11))⟩])))
def A217 : ACode :=
  (.seq (.region [⟨(some 2), none, .op (.move (.const (.map none)))⟩])
    (.seq (.region [⟨(some 5), none, .op (.m .mk)⟩,
      ⟨(some 3), none, .op (.move (.tmp 5))⟩])
    (.seq (.seq (.region [⟨(some 4), none, .op (.move (.const (.int .i64 0)))⟩])
    (.block 0 (.loop A217l0)))
    (.seq (.region [⟨(some 47), none, .op (.move (.tmp 3))⟩,
      ⟨(some 2), none, .op (.move (.tmp 47))⟩])
    .ret))))
def R217 : List RV := [.tmp 2]
theorem is217 : Is Tryz.prog (fun _ _ => false) 17 48 A217 R217 := ⟨Tryz.f17, Tryz.func17, rfl, by kernel_rfl, by kernel_rfl, Tryz.call17⟩
def A205l0 : ACode :=
  (.seq (.seq (.region [⟨(some 82), none, .op (.move (.tmp 16))⟩,
      ⟨(some 83), none, .op (.move (.tmp 2))⟩,
      ⟨(some 84), none, .op (.bin .quo (.tmp 83) (.const (.int .i64 8)))⟩,
      ⟨(some 85), none, .op (.bin .lss (.tmp 82) (.tmp 84))⟩])
    (.cond (.tmp 85) .skip (.exit 0)))
    (.seq (.block 1 (.seq (.region [⟨(some 88), none, .op (.move (.tmp 1))⟩,
      ⟨(some 89), none, .op (.move (.tmp 16))⟩,
      ⟨(some 90), none, .op (.conv .u64 (.tmp 89))⟩,
      ⟨(some 91), none, .op (.bin .add (.tmp 88) (.tmp 90))⟩,
      ⟨(some 92), none, .op (.bin .rem (.tmp 91) (.const (.int .u64 4294967296)))⟩,
      ⟨(some 17), none, .op (.move (.tmp 92))⟩])
    (.seq (.seq (.dregion [⟨0, ⟨(some 93), none, .op (.move (.tmp 15))⟩, []⟩,
      ⟨1, ⟨(some 94), none, .op (.move (.tmp 17))⟩, []⟩,
      ⟨3, ⟨(some 96), none, .op (.move (.tmp 3))⟩, []⟩,
      ⟨4, ⟨(some 97), none, .op (.move (.tmp 16))⟩, []⟩,
      ⟨5, ⟨(some 98), none, .op (.bin .mul (.const (.int .i64 8)) (.tmp 97))⟩, []⟩,
      ⟨6, ⟨(some 99), none, .op (.bin .shr (.tmp 96) (.tmp 98))⟩, []⟩,
      ⟨7, ⟨(some 100), none, .op (.conv .u8 (.tmp 99))⟩, []⟩,
      ⟨2, ⟨(some 95), none, .op (.m (.look .int (.int .u8 0) false (.tmp 93) (.tmp 94)))⟩, [3, 4, 5, 6, 7]⟩,
      ⟨8, ⟨(some 101), none, .op (.bin .neq (.tmp 95) (.tmp 100))⟩, []⟩])
    (.cond (.tmp 101) (.seq (.region [⟨(some 10), none, .op (.move (.const (.bool false)))⟩])
    .ret) .skip))
    (.seq (.region [⟨(some 102), none, .op (.move (.tmp 15))⟩,
      ⟨(some 103), none, .op (.move (.tmp 17))⟩,
      ⟨none, none, .op (.m (.del .int (.tmp 102) (.tmp 103)))⟩])
    (.region [⟨(some 104), none, .op (.move (.tmp 14))⟩,
      ⟨(some 105), none, .op (.move (.tmp 17))⟩,
      ⟨none, none, .op (.m (.del .int (.tmp 104) (.tmp 105)))⟩])))))
    (.region [⟨(some 86), none, .op (.move (.tmp 16))⟩,
      ⟨(some 87), none, .op (.bin .add (.tmp 86) (.const (.int .i64 1)))⟩,
      ⟨(some 16), none, .op (.move (.tmp 87))⟩])))
def A205l1 : ACode :=
  (.seq (.region [⟨(some 108), none, .call (.tmp 107) [(.const (.tuple #[]))]⟩,
      ⟨(some 109), none, .op (.ext (.tmp 108) 0)⟩])
    (.seq (.cond (.tmp 109) .skip (.exit 2))
    (.block 3 (.seq (.region [⟨(some 110), none, .op (.m (.ent (.tmp 107)))⟩,
      ⟨(some 111), none, .op (.ext (.tmp 110) 0)⟩,
      ⟨(some 112), none, .op (.ext (.tmp 110) 1)⟩,
      ⟨(some 18), none, .op (.move (.tmp 111))⟩,
      ⟨(some 19), none, .op (.move (.tmp 112))⟩])
    (.seq (.region [⟨(some 113), none, .op (.move (.tmp 15))⟩,
      ⟨(some 114), none, .op (.move (.tmp 18))⟩,
      ⟨(some 115), none, .op (.m (.look .int (.int .u8 0) false (.tmp 113) (.tmp 114)))⟩,
      ⟨(some 116), none, .op (.move (.tmp 19))⟩,
      ⟨(some 117), none, .op (.bin .neq (.tmp 115) (.tmp 116))⟩])
    (.cond (.tmp 117) (.seq (.region [⟨(some 10), none, .op (.move (.const (.bool false)))⟩])
    .ret) .skip))))))
def A205 : ACode :=
  (.seq (.region [⟨(some 10), none, .op (.move (.const (.bool false)))⟩])
    (.seq (.region [⟨(some 24), none, .call (.func 13) []⟩,
      ⟨(some 11), none, .op (.move (.tmp 24))⟩])
    (.seq (.seq (.region [⟨(some 25), none, .op (.move (.tmp 0))⟩,
      ⟨(some 26), none, .op (.len (.tmp 25))⟩,
      ⟨(some 27), none, .op (.bin .gtr (.tmp 26) (.const (.int .i64 4200)))⟩,
      ⟨(some 28), none, .op (.move (.tmp 27))⟩,
      ⟨(some 29), (some (28, false)), .op (.move (.tmp 11))⟩,
      ⟨(some 30), (some (28, false)), .op (.un .not (.tmp 29))⟩,
      ⟨(some 31), none, .op (.pick (.tmp 28) (.const (.bool true)) (.tmp 30))⟩])
    (.cond (.tmp 31) (.seq (.region [⟨(some 32), none, .op (.move (.tmp 11))⟩,
      ⟨(some 10), none, .op (.move (.tmp 32))⟩])
    .ret) .skip))
    (.seq (.region [⟨(some 34), none, .op (.move (.tmp 0))⟩,
      ⟨(some 35), none, .op (.move (.tmp 1))⟩,
      ⟨(some 36), none, .op (.move (.tmp 2))⟩,
      ⟨(some 37), none, .op (.move (.tmp 3))⟩,
      ⟨(some 38), none, .call (.func 11) [(.tmp 34), (.tmp 35), (.tmp 36), (.tmp 37)]⟩,
      ⟨(some 33), none, .op (.move (.tmp 38))⟩,
      ⟨(some 39), none, .op (.ext (.tmp 33) 0)⟩,
      ⟨(some 40), none, .op (.ext (.tmp 33) 1)⟩,
      ⟨(some 12), none, .op (.move (.tmp 39))⟩,
      ⟨(some 13), none, .op (.move (.tmp 40))⟩])
    (.seq (.seq (.region [⟨(some 41), none, .op (.move (.tmp 13))⟩,
      ⟨(some 42), none, .op (.bin .neq (.tmp 41) (.const (.int .i64 0)))⟩])
    (.cond (.tmp 42) (.seq (.region [⟨(some 43), none, .op (.move (.tmp 11))⟩,
      ⟨(some 44), none, .op (.move (.tmp 43))⟩,
      ⟨(some 45), (some (44, true)), .op (.move (.tmp 12))⟩,
      ⟨(some 46), (some (44, true)), .op (.len (.tmp 45))⟩,
      ⟨(some 47), (some (44, true)), .op (.bin .eql (.tmp 46) (.const (.int .i64 0)))⟩,
      ⟨(some 48), none, .op (.pick (.tmp 44) (.tmp 47) (.const (.bool false)))⟩,
      ⟨(some 10), none, .op (.move (.tmp 48))⟩])
    .ret) .skip))
    (.seq (.seq (.region [⟨(some 49), none, .op (.move (.tmp 2))⟩,
      ⟨(some 50), none, .op (.bin .neq (.tmp 49) (.const (.int .i64 8)))⟩,
      ⟨(some 51), none, .op (.move (.tmp 50))⟩,
      ⟨(some 52), (some (51, true)), .op (.move (.tmp 2))⟩,
      ⟨(some 53), (some (51, true)), .op (.bin .neq (.tmp 52) (.const (.int .i64 16)))⟩,
      ⟨(some 54), none, .op (.pick (.tmp 51) (.tmp 53) (.const (.bool false)))⟩,
      ⟨(some 55), none, .op (.move (.tmp 54))⟩,
      ⟨(some 56), (some (55, true)), .op (.move (.tmp 2))⟩,
      ⟨(some 57), (some (55, true)), .op (.bin .neq (.tmp 56) (.const (.int .i64 32)))⟩,
      ⟨(some 58), none, .op (.pick (.tmp 55) (.tmp 57) (.const (.bool false)))⟩,
      ⟨(some 59), none, .op (.move (.tmp 58))⟩,
      ⟨(some 60), (some (59, true)), .op (.move (.tmp 2))⟩,
      ⟨(some 61), (some (59, true)), .op (.bin .neq (.tmp 60) (.const (.int .i64 64)))⟩,
      ⟨(some 62), none, .op (.pick (.tmp 59) (.tmp 61) (.const (.bool false)))⟩,
      ⟨(some 63), none, .op (.move (.tmp 62))⟩,
      ⟨(some 64), (some (63, false)), .op (.move (.tmp 1))⟩,
      ⟨(some 65), (some (63, false)), .op (.bin .geq (.tmp 64) (.const (.int .u64 4294967296)))⟩,
      ⟨(some 66), none, .op (.pick (.tmp 63) (.const (.bool true)) (.tmp 65))⟩,
      ⟨(some 67), none, .op (.move (.tmp 66))⟩,
      ⟨(some 68), (some (67, false)), .op (.move (.tmp 12))⟩,
      ⟨(some 69), (some (67, false)), .op (.len (.tmp 68))⟩,
      ⟨(some 70), (some (67, false)), .op (.bin .gtr (.tmp 69) (.const (.int .i64 4096)))⟩,
      ⟨(some 71), none, .op (.pick (.tmp 67) (.const (.bool true)) (.tmp 70))⟩])
    (.cond (.tmp 71) (.seq (.region [⟨(some 10), none, .op (.move (.const (.bool false)))⟩])
    .ret) .skip))
    (.seq (.region [⟨(some 72), none, .op (.move (.tmp 0))⟩,
      ⟨(some 73), none, .call (.func 17) [(.tmp 72)]⟩,
      ⟨(some 14), none, .op (.move (.tmp 73))⟩])
    (.seq (.region [⟨(some 74), none, .op (.move (.tmp 12))⟩,
      ⟨(some 75), none, .call (.func 17) [(.tmp 74)]⟩,
      ⟨(some 15), none, .op (.move (.tmp 75))⟩])
    (.seq (.seq (.region [⟨(some 76), none, .op (.move (.tmp 15))⟩,
      ⟨(some 77), none, .op (.eqN false .mp (.tmp 76))⟩,
      ⟨(some 78), none, .op (.move (.tmp 77))⟩,
      ⟨(some 79), (some (78, false)), .op (.move (.tmp 14))⟩,
      ⟨(some 80), (some (78, false)), .op (.eqN false .mp (.tmp 79))⟩,
      ⟨(some 81), none, .op (.pick (.tmp 78) (.const (.bool true)) (.tmp 80))⟩])
    (.cond (.tmp 81) (.seq (.region [⟨(some 10), none, .op (.move (.const (.bool false)))⟩])
    .ret) .skip))
    (.seq (.seq (.region [⟨(some 16), none, .op (.move (.const (.int .i64 0)))⟩])
    (.block 0 (.loop A205l0)))
    (.seq (.seq (.region [⟨(some 106), none, .op (.move (.tmp 14))⟩,
      ⟨(some 107), none, .op (.m (.rng (.tmp 106)))⟩])
    (.block 2 (.loop A205l1)))
    (.seq (.region [⟨(some 119), none, .op (.move (.tmp 12))⟩,
      ⟨(some 120), none, .op (.move (.tmp 1))⟩,
      ⟨(some 121), none, .op (.move (.tmp 2))⟩,
      ⟨(some 122), none, .op (.move (.tmp 4))⟩,
      ⟨(some 123), none, .call (.func 11) [(.tmp 119), (.tmp 120), (.tmp 121), (.tmp 122)]⟩,
      ⟨(some 118), none, .op (.move (.tmp 123))⟩,
      ⟨(some 124), none, .op (.ext (.tmp 118) 0)⟩,
      ⟨(some 125), none, .op (.ext (.tmp 118) 1)⟩,
      ⟨(some 20), none, .op (.move (.tmp 124))⟩,
      ⟨(some 21), none, .op (.move (.tmp 125))⟩])
    (.seq (.region [⟨(some 127), none, .op (.move (.tmp 0))⟩,
      ⟨(some 128), none, .op (.move (.tmp 1))⟩,
      ⟨(some 129), none, .op (.move (.tmp 2))⟩,
      ⟨(some 130), none, .op (.move (.tmp 4))⟩,
      ⟨(some 131), none, .call (.func 11) [(.tmp 127), (.tmp 128), (.tmp 129), (.tmp 130)]⟩,
      ⟨(some 126), none, .op (.move (.tmp 131))⟩,
      ⟨(some 132), none, .op (.ext (.tmp 126) 0)⟩,
      ⟨(some 133), none, .op (.ext (.tmp 126) 1)⟩,
      ⟨(some 22), none, .op (.move (.tmp 132))⟩,
      ⟨(some 23), none, .op (.move (.tmp 133))⟩])
    (.seq (.region [⟨(some 134), none, .op (.move (.tmp 11))⟩,
      ⟨(some 135), none, .op (.move (.tmp 134))⟩,
      ⟨(some 136), (some (135, true)), .op (.move (.tmp 14))⟩,
      ⟨(some 137), (some (135, true)), .op (.m (.len (.tmp 136)))⟩,
      ⟨(some 138), (some (135, true)), .op (.move (.tmp 15))⟩,
      ⟨(some 139), (some (135, true)), .op (.m (.len (.tmp 138)))⟩,
      ⟨(some 140), (some (135, true)), .op (.bin .eql (.tmp 137) (.tmp 139))⟩,
      ⟨(some 141), none, .op (.pick (.tmp 135) (.tmp 140) (.const (.bool false)))⟩,
      ⟨(some 142), none, .op (.move (.tmp 141))⟩,
      ⟨(some 143), (some (142, true)), .op (.move (.tmp 21))⟩,
      ⟨(some 144), (some (142, true)), .op (.bin .neq (.tmp 143) (.const (.int .i64 0)))⟩,
      ⟨(some 145), (some (142, true)), .op (.move (.tmp 144))⟩,
      ⟨(some 146), (some (145, false)), .op (.move (.tmp 23))⟩,
      ⟨(some 147), (some (145, false)), .op (.bin .neq (.tmp 146) (.const (.int .i64 0)))⟩,
      ⟨(some 148), (some (142, true)), .op (.pick (.tmp 145) (.const (.bool true)) (.tmp 147))⟩,
      ⟨(some 149), (some (142, true)), .op (.move (.tmp 148))⟩,
      ⟨(some 150), (some (149, false)), .op (.move (.tmp 20))⟩,
      ⟨(some 151), (some (149, false)), .op (.move (.tmp 22))⟩,
      ⟨(some 152), (some (149, false)), .call (.func 18) [(.tmp 150), (.tmp 151)]⟩,
      ⟨(some 153), (some (142, true)), .op (.pick (.tmp 149) (.const (.bool true)) (.tmp 152))⟩,
      ⟨(some 154), none, .op (.pick (.tmp 142) (.tmp 153) (.const (.bool false)))⟩,
      ⟨(some 155), none, .op (.move (.tmp 154))⟩,
      ⟨(some 156), (some (155, true)), .op (.move (.tmp 23))⟩,
      ⟨(some 157), (some (155, true)), .op (.bin .neq (.tmp 156) (.const (.int .i64 0)))⟩,
      ⟨(some 158), (some (155, true)), .op (.move (.tmp 157))⟩,
      ⟨(some 159), (some (158, false)), .op (.move (.tmp 21))⟩,
      ⟨(some 160), (some (158, false)), .op (.bin .eql (.tmp 159) (.const (.int .i64 0)))⟩,
      ⟨(some 161), (some (155, true)), .op (.pick (.tmp 158) (.const (.bool true)) (.tmp 160))⟩,
      ⟨(some 162), none, .op (.pick (.tmp 155) (.tmp 161) (.const (.bool false)))⟩,
      ⟨(some 163), none, .op (.move (.tmp 162))⟩,
      ⟨(some 164), (some (163, true)), .op (.move (.tmp 21))⟩,
      ⟨(some 165), (some (163, true)), .op (.bin .neq (.tmp 164) (.const (.int .i64 0)))⟩,
      ⟨(some 166), (some (163, true)), .op (.move (.tmp 165))⟩,
      ⟨(some 167), (some (166, false)), .op (.move (.tmp 23))⟩,
      ⟨(some 168), (some (166, false)), .op (.bin .eql (.tmp 167) (.const (.int .i64 0)))⟩,
      ⟨(some 169), (some (163, true)), .op (.pick (.tmp 166) (.const (.bool true)) (.tmp 168))⟩,
      ⟨(some 170), none, .op (.pick (.tmp 163) (.tmp 169) (.const (.bool false)))⟩,
      ⟨(some 10), none, .op (.move (.tmp 170))⟩])
    .ret))))))))))))))
def R205 : List RV := [.tmp 10]
theorem is205 : Is Tryz.prog (fun _ _ => false) 5 171 A205 R205 := ⟨Tryz.f5, Tryz.func5, rfl, by kernel_rfl, by kernel_rfl, Tryz.call5⟩
end Go.Proofs.YtdmjloieldhlnaaGreatDoor
namespace Go.Proofs.YtdmjloieldhlnaaGreatDoor
open Go Go.Ab Go.Proofs
open Nat (reduceEqDiff reduceAdd reduceLeDiff reduceLT)
set_option linter.unusedVariables false
set_option linter.unusedSimpArgs false
def lk : List (Int × Int) → Int → Int
  | [], _ => 0
  | r :: l, k => if r.1 = k then r.2 else lk l k
theorem lk_none {k : Int} : ∀ {l : List (Int × Int)}, (∀ r ∈ l, r.1 ≠ k) → lk l k = 0
  | [], _ => rfl
  | r :: l, h => by rw [lk, if_neg (h r (by simp)), lk_none fun x hx => h x (by simp [hx])]
theorem lk_app {k : Int} : ∀ {a b : List (Int × Int)}, (∀ r ∈ a, r.1 ≠ k) → lk (a ++ b) k = lk b k
  | [], b, _ => rfl
  | r :: a, b, h => by rw [List.cons_append, lk, if_neg (h r (by simp)), lk_app fun x hx => h x (by simp [hx])]
theorem lk_app2 {k : Int} : ∀ {a b : List (Int × Int)}, (∀ r ∈ b, r.1 ≠ k) → lk (a ++ b) k = lk a k
  | [], b, h => lk_none h
  | r :: a, b, h => by
    rw [List.cons_append, lk, lk]
    split
    · rfl
    · exact lk_app2 h
abbrev Pw (l : List (Int × Int)) : Prop := l.Pairwise fun p r => p.1 < r.1
theorem lk_mem {l : List (Int × Int)} (hs : Pw l) : ∀ {r : Int × Int}, r ∈ l → lk l r.1 = r.2 := by
  induction l with
  | nil => intro r h; simp at h
  | cons x l ih =>
    intro r h
    have hs := List.pairwise_cons.1 hs
    rw [lk]
    rcases List.mem_cons.1 h with rfl | h
    · rw [if_pos rfl]
    · have := hs.1 r h
      rw [if_neg (by omega)]
      exact ih hs.2 h
theorem lk_filter {l : List (Int × Int)} (p : Int → Bool) (k : Int) : lk (l.filter fun r => p r.1) k = if p k = true then lk l k else 0 := by
  induction l with
  | nil => simp [lk]
  | cons x l ih =>
    rw [List.filter_cons]
    by_cases h : p x.1 = true
    · rw [if_pos h, lk, lk, ih]
      by_cases e : x.1 = k
      · rw [if_pos e, if_pos e, ← e, if_pos h]
      · rw [if_neg e, if_neg e]
    · rw [if_neg h, ih]
      by_cases hk : p k = true
      · rw [if_pos hk, if_pos hk, lk, if_neg (fun e => h (by rw [e]; exact hk))]
      · rw [if_neg hk, if_neg hk]
theorem lk_put {l : List (Int × Int)} {d b : Int} (hs : Pw l) (k : Int) : lk (putL l d b) k = if k = d then b else lk l k := by
  have h1 : ∀ x ∈ l.takeWhile (fun r => decide (r.1 < d)), x.1 < d := fun x hx => by have := mem_tw hx; simpa using this
  have h2 : ∀ x ∈ l.filter (fun r => decide (d < r.1)), d < x.1 := fun x hx => by have := (List.mem_filter.1 hx).2; simpa using this
  unfold putL
  by_cases e : k = d
  · subst e
    rw [if_pos rfl, List.append_assoc, lk_app fun r hr => by have := h1 r hr; omega]
    by_cases hb : b = 0
    · rw [if_pos hb, List.nil_append, lk_none fun r hr => by have := h2 r hr; omega, hb]
    · rw [if_neg hb, List.singleton_append, lk, if_pos rfl]
  · rw [if_neg e]
    have h3 : ∀ r ∈ (if b = 0 then [] else [(d, b)] : List (Int × Int)), r.1 ≠ k := by
      intro r hr
      split at hr
      · simp at hr
      · simp at hr; rw [hr]; exact fun h => e h.symm
    have key : ∀ l : List (Int × Int), Pw l → lk (l.takeWhile (fun r => decide (r.1 < d)) ++ l.filter (fun r => decide (d < r.1))) k = lk l k := by
      intro l hs
      induction l with
      | nil => rfl
      | cons x l ih =>
        have hs := List.pairwise_cons.1 hs
        by_cases c : x.1 < d
        · rw [List.takeWhile_cons, if_pos (decide_eq_true c), List.filter_cons, if_neg (by simp; omega), List.cons_append, lk, lk, ih hs.2]
        · rw [List.takeWhile_cons, if_neg (by simpa using c), List.nil_append]
          have hl : l.filter (fun r => decide (d < r.1)) = l := List.filter_eq_self.2 fun r hr => by have := hs.1 r hr; simp; omega
          rw [List.filter_cons, hl]
          by_cases c2 : d < x.1
          · rw [if_pos (decide_eq_true c2)]
          · rw [if_neg (by simpa using c2), lk, if_neg (by omega)]
    rw [← key l hs]
    by_cases hk : k < d
    · rw [lk_app2 fun r hr => by have := h2 r hr; omega, lk_app2 h3, lk_app2 fun r hr => by have := h2 r hr; omega]
    · rw [List.append_assoc, lk_app fun r hr => by have := h1 r hr; omega, lk_app h3, lk_app fun r hr => by have := h1 r hr; omega]
structure Fine (l : List (Int × Int)) : Prop where
  pw : Pw l
  nz : ∀ r ∈ l, r.2 ≠ 0
theorem Fine.ext : ∀ {a b : List (Int × Int)}, Fine a → Fine b → (∀ k, lk a k = lk b k) → a = b
  | [], [], _, _, _ => rfl
  | [], y :: b, _, hb, h => by
    have := h y.1
    rw [lk, lk, if_pos rfl] at this
    exact absurd this.symm (hb.nz y (by simp))
  | x :: a, [], ha, _, h => by
    have := h x.1
    rw [lk, lk, if_pos rfl] at this
    exact absurd this (ha.nz x (by simp))
  | x :: a, y :: b, ha, hb, h => by
    have pa := List.pairwise_cons.1 ha.pw
    have pb := List.pairwise_cons.1 hb.pw
    have hxy : x.1 = y.1 := by
      rcases Int.lt_trichotomy x.1 y.1 with hlt | he | hlt
      · have := h x.1
        rw [lk, if_pos rfl, lk, if_neg (by omega), lk_none fun r hr => by have := pb.1 r hr; omega] at this
        exact absurd this (ha.nz x (by simp))
      · exact he
      · have := h y.1
        rw [lk, if_neg (by omega), lk_none (fun r hr => by have := pa.1 r hr; omega), lk, if_pos rfl] at this
        exact absurd this.symm (hb.nz y (by simp))
    have h2 : x.2 = y.2 := by
      have := h x.1
      rw [lk, if_pos rfl, lk, if_pos hxy.symm] at this
      exact this
    have he : x = y := Prod.ext hxy h2
    subst he
    rw [Fine.ext (a := a) (b := b) ⟨pa.2, fun r hr => ha.nz r (by simp [hr])⟩ ⟨pb.2, fun r hr => hb.nz r (by simp [hr])⟩ fun k => ?_]
    by_cases e : x.1 = k
    · subst e
      rw [lk_none fun r hr => by have := pa.1 r hr; omega, lk_none fun r hr => by have := pb.1 r hr; omega]
    · have := h k
      rw [lk, lk, if_neg e, if_neg e] at this
      exact this
theorem Fine.filter {l : List (Int × Int)} (h : Fine l) (p : Int × Int → Bool) : Fine (l.filter p) := ⟨h.pw.sublist List.filter_sublist, fun r hr => h.nz r (List.mem_filter.1 hr).1⟩
theorem Fine.put {l : List (Int × Int)} (h : Fine l) (d b : Int) : Fine (putL l d b) := by
  refine ⟨srt_pw.1 (srt_put (srt_pw.2 h.pw)), fun r hr => ?_⟩
  unfold putL at hr
  rcases List.mem_append.1 hr with hr | hr
  · rcases List.mem_append.1 hr with hr | hr
    · exact h.nz r ((List.takeWhile_sublist _).subset hr)
    · split at hr
      · simp at hr
      · simp at hr; rw [hr]; assumption
  · exact h.nz r (List.mem_filter.1 hr).1
theorem Fine.sto : ∀ (n : Nat) {l : List (Int × Int)}, Fine l → ∀ (d : Int) (x : Nat), Fine (stoL n l d x)
  | 0, _, h, _, _ => h
  | n + 1, _, h, d, x => Fine.sto n (h.put d _) (nxt d) (x / 256)
theorem good_fine {l : List (Int × Int)} : goodM l l.length ↔ Fine l := by
  constructor
  · intro h
    refine ⟨srt_pw.1 (good_srt h), fun r hr => ?_⟩
    obtain ⟨i, hi, rfl⟩ := List.getElem_of_mem hr
    exact (h i hi _ (List.getElem?_eq_getElem hi)).1
  · intro h i hi r hr
    refine ⟨h.nz r (List.mem_of_getElem? hr), fun h0 p hp => ?_⟩
    exact srt_pw.2 h.pw (i - 1) i p r (by omega) hp hr
theorem adr_ne {d i j : Nat} (h : i < 8) (h2 : j < 8) (hne : i ≠ j) : adr d i ≠ adr d j := by unfold adr; omega
theorem lk_sto {d x n : Nat} (hd : d < 4294967296) (hn : n ≤ 8) (k : Int) : ∀ (q m : Nat) (l : List (Int × Int)), m + q = n → Fine l →
    ((∃ j, m ≤ j ∧ j < n ∧ k = (adr d j : Nat) ∧ lk (stoL q l (adr d m : Nat) (x / 256 ^ m)) k = ((x / 256 ^ j % 256 : Nat) : Int)) ∨ ((∀ j, m ≤ j → j < n → k ≠ (adr d j : Nat)) ∧ lk (stoL q l (adr d m : Nat) (x / 256 ^ m)) k = lk l k))
  | 0, m, l, hq, hl => .inr ⟨fun j h1 h2 => by omega, rfl⟩
  | q + 1, m, l, hq, hl => by
    have e : stoL (q + 1) l (adr d m : Nat) (x / 256 ^ m) = stoL q (putL l (adr d m : Nat) ((x / 256 ^ m % 256 : Nat) : Int)) (adr d (m + 1) : Nat) (x / 256 ^ (m + 1)) := by
      show stoL q (putL l (adr d m : Nat) ((x / 256 ^ m % 256 : Nat) : Int)) (nxt (adr d m : Nat)) (x / 256 ^ m / 256) = _
      rw [adr_succ hd, byte_step]
    rw [e]
    rcases lk_sto (x := x) hd hn k q (m + 1) _ (by omega) (hl.put (adr d m : Nat) ((x / 256 ^ m % 256 : Nat) : Int)) with ⟨j, h1, h2, h3, h4⟩ | ⟨h1, h2⟩
    · exact .inl ⟨j, by omega, h2, h3, h4⟩
    · rw [lk_put hl.pw] at h2
      by_cases e2 : k = (adr d m : Nat)
      · rw [if_pos e2] at h2
        exact .inl ⟨m, Nat.le_refl _, by omega, e2, h2⟩
      · rw [if_neg e2] at h2
        refine .inr ⟨fun j k1 k2 => ?_, h2⟩
        rcases Nat.eq_or_lt_of_le k1 with rfl | k1
        · exact e2
        · exact h1 j k1 k2
theorem lk_sto0 {d x n : Nat} (hd : d < 4294967296) (hn : n ≤ 8) {l : List (Int × Int)} (hl : Fine l) (k : Int) : (∃ j, j < n ∧ k = (adr d j : Nat) ∧ lk (stoL n l d x) k = ((x / 256 ^ j % 256 : Nat) : Int)) ∨ ((∀ j, j < n → k ≠ (adr d j : Nat)) ∧ lk (stoL n l d x) k = lk l k) := by
  have h0 : adr d 0 = d := by unfold adr; omega
  have := lk_sto (x := x) hd hn k n 0 l (by omega) hl
  rw [h0, Nat.pow_zero, Nat.div_one] at this
  rcases this with ⟨j, _, h2, h3, h4⟩ | ⟨h1, h2⟩
  · exact .inl ⟨j, h2, h3, h4⟩
  · exact .inr ⟨fun j hj => h1 j (Nat.zero_le _) hj, h2⟩
theorem lk_at {d x n : Nat} (hd : d < 4294967296) (hn : n ≤ 8) {l : List (Int × Int)} (hl : Fine l) {i : Nat} (hi : i < n) : lk (stoL n l d x) (adr d i : Nat) = ((x / 256 ^ i % 256 : Nat) : Int) := by
  rcases lk_sto0 (x := x) hd hn hl (adr d i : Nat) with ⟨j, h1, h2, h3⟩ | ⟨h1, _⟩
  · have : i = j := Classical.byContradiction fun hne => adr_ne (d := d) (by omega) (by omega) hne (by omega)
    rw [this] at h3 ⊢; exact h3
  · exact absurd rfl (h1 i hi)
def offB (d n : Nat) (k : Int) : Bool := decide (∀ j, j < n → k ≠ (adr d j : Nat))
def off (d n : Nat) (l : List (Int × Int)) : List (Int × Int) := l.filter fun r => offB d n r.1
theorem off_zero (d : Nat) (l : List (Int × Int)) : off d 0 l = l := List.filter_eq_self.2 fun r hr => by simp [offB]
theorem off_succ (d n : Nat) (l : List (Int × Int)) : (off d n l).filter (fun r => decide (r.1 ≠ ((adr d n : Nat) : Int))) = off d (n + 1) l := by
  unfold off
  rw [List.filter_filter]
  apply List.filter_congr
  intro r hr
  unfold offB
  rw [Bool.eq_iff_iff]
  simp only [Bool.and_eq_true, decide_eq_true_eq]
  constructor
  · rintro ⟨h1, h2⟩ j hj
    rcases Nat.lt_succ_iff_lt_or_eq.1 hj with h | rfl
    · exact h2 j h
    · exact h1
  · intro h
    exact ⟨h n (by omega), fun j hj => h j (by omega)⟩
theorem lk_off {d n : Nat} {l : List (Int × Int)} {i : Nat} (hn : n ≤ 8) (hi : n ≤ i) (hi8 : i < 8) : lk (off d n l) (adr d i : Nat) = lk l (adr d i : Nat) := by
  unfold off
  rw [lk_filter (fun k => offB d n k), if_pos]
  unfold offB
  rw [decide_eq_true_eq]
  intro j hj e
  exact adr_ne (d := d) (i := i) (j := j) hi8 (by omega) (by omega) (by omega)
theorem off_sto {d x n : Nat} (hd : d < 4294967296) (hn : n ≤ 8) {l : List (Int × Int)} (hl : Fine l) : off d n (stoL n l d x) = off d n l := by
  refine Fine.ext ((hl.sto n d x).filter _) (hl.filter _) fun k => ?_
  unfold off
  rw [lk_filter (fun k => offB d n k), lk_filter (fun k => offB d n k)]
  split
  · rename_i h
    rcases lk_sto0 (x := x) hd hn hl k with ⟨j, h1, h2, h3⟩ | ⟨_, h2⟩
    · exact absurd h2 (of_decide_eq_true h j h1)
    · exact h2
  · rfl
theorem sto_twice {d x y n : Nat} (hd : d < 4294967296) (hn : n ≤ 8) {l : List (Int × Int)} (hl : Fine l) : stoL n (stoL n l d x) d y = stoL n l d y := by
  have h1 := hl.sto n d x
  refine Fine.ext (h1.sto n d y) (hl.sto n d y) fun k => ?_
  rcases lk_sto0 (x := y) hd hn h1 k with ⟨j, k1, k2, k3⟩ | ⟨k1, k2⟩
  · rw [k3, k2, lk_at hd hn hl k1]
  · rcases lk_sto0 (x := y) hd hn hl k with ⟨j, q1, q2, q3⟩ | ⟨_, q2⟩
    · exact absurd q2 (k1 j q1)
    · rw [k2, q2]
      rcases lk_sto0 (x := x) hd hn hl k with ⟨j, r1, r2, r3⟩ | ⟨_, r2⟩
      · exact absurd r2 (k1 j r1)
      · exact r2
def inA (l : List (Int × Int)) : Prop := ∀ r ∈ l, 0 ≤ r.1 ∧ r.1 ≤ 4294967295 ∧ 0 ≤ r.2 ∧ r.2 < 256
theorem in_put {l : List (Int × Int)} (h : inA l) {d b : Int} (hd : 0 ≤ d ∧ d ≤ 4294967295) (hb : 0 ≤ b ∧ b < 256) : inA (putL l d b) := by
  intro r hr
  unfold putL at hr
  rcases List.mem_append.1 hr with hr | hr
  · rcases List.mem_append.1 hr with hr | hr
    · exact h r ((List.takeWhile_sublist _).subset hr)
    · split at hr
      · simp at hr
      · simp at hr; rw [hr]; exact ⟨hd.1, hd.2, hb⟩
  · exact h r (List.mem_filter.1 hr).1
theorem in_sto : ∀ (n : Nat) {l : List (Int × Int)}, inA l → ∀ (d : Int) (x : Nat), 0 ≤ d ∧ d ≤ 4294967295 → inA (stoL n l d x)
  | 0, _, h, _, _, _ => h
  | n + 1, _, h, d, x, hd => by
    refine in_sto n (in_put h hd ⟨by omega, by omega⟩) (nxt d) (x / 256) ?_
    unfold nxt
    split <;> omega
theorem isM_in {l : List (Int × Int)} (h : isM l) (hw : wfC l) : Fine l ∧ inA l ∧ l.length ≤ 4096 := by
  obtain ⟨h1, h2⟩ := chkM_ok h.1
  have hf := good_fine.1 h2
  refine ⟨hf, fun r hr => ?_, h1⟩
  obtain ⟨i, hi, rfl⟩ := List.getElem_of_mem hr
  have hlast := h.2 _ (List.getElem?_eq_getElem (show l.length - 1 < l.length by omega))
  have hle : (l[i]).1 ≤ (l[l.length - 1]'(by omega)).1 := by
    by_cases e : i = l.length - 1
    · subst e; exact Int.le_refl _
    · exact Int.le_of_lt (srt_pw.2 hf.pw i (l.length - 1) _ _ (by omega) (List.getElem?_eq_getElem hi) (List.getElem?_eq_getElem (by omega)))
  have := hw _ hr
  omega
theorem in_isM {l : List (Int × Int)} (hf : Fine l) (hi : inA l) (hl : l.length ≤ 4096) : isM l ∧ wfC l := by
  refine ⟨⟨?_, fun r hr => (hi r (List.mem_of_getElem? hr)).2.1⟩, fun r hr => by have := hi r hr; omega⟩
  unfold chkM
  rw [if_pos ⟨hl, good_fine.2 hf⟩]
end Go.Proofs.YtdmjloieldhlnaaGreatDoor
namespace Go.Proofs.YtdmjloieldhlnaaGreatDoor
open Go Go.Ab Go.Proofs
open Nat (reduceEqDiff reduceAdd reduceLeDiff reduceLT)
set_option linter.unusedVariables false
set_option linter.unusedSimpArgs false
set_option maxRecDepth 20000
theorem erase_map {α β : Type} (f : α → β) : ∀ (l : List α) (j : Nat), (l.map f).eraseIdx j = (l.eraseIdx j).map f
  | [], _ => rfl
  | x :: l, 0 => rfl
  | x :: l, j + 1 => by simp [erase_map f l j]
def entM (l : List (Int × Int)) : List (AV × AV) := l.map fun r => (.int .u64 r.1, .int .u8 r.2)
theorem entM_len (l : List (Int × Int)) : (entM l).length = l.length := by simp [entM]
theorem find_none {d : Int} : ∀ {l : List (Int × Int)} (i : Nat), (∀ r ∈ l, r.1 ≠ d) → findA .int (.int .u64 d) (entM l) i = some none
  | [], i, _ => rfl
  | r :: l, i, h => by
    have h1 := h r (by simp)
    have : entM (r :: l) = (.int .u64 r.1, .int .u8 r.2) :: entM l := rfl
    rw [this, findA]
    simp only [eqC, if_true, decide_eq_false (show ¬ d = r.1 from fun e => h1 e.symm)]
    exact find_none (i + 1) fun x hx => h x (by simp [hx])
theorem find_some {d : Int} : ∀ {l : List (Int × Int)} (i : Nat), (∃ r ∈ l, r.1 = d) → ∃ j, findA .int (.int .u64 d) (entM l) i = some (some (i + j, .int .u8 (lk l d))) ∧ j < l.length ∧ (Pw l → l.eraseIdx j = l.filter fun r => decide (r.1 ≠ d))
  | [], i, h => by obtain ⟨r, h, _⟩ := h; simp at h
  | r :: l, i, h => by
    have e0 : entM (r :: l) = (.int .u64 r.1, .int .u8 r.2) :: entM l := rfl
    by_cases e : r.1 = d
    · refine ⟨0, ?_, by simp, fun hp => ?_⟩
      · rw [e0, findA]
        simp only [eqC, if_true, decide_eq_true e.symm, lk, if_pos e, Nat.add_zero]
      · have hp := List.pairwise_cons.1 hp
        rw [List.eraseIdx_cons_zero, List.filter_cons, if_neg (by simp [e])]
        exact (List.filter_eq_self.2 fun x hx => by have := hp.1 x hx; simp; omega).symm
    · have h' : ∃ r ∈ l, r.1 = d := by
        obtain ⟨x, hx, hd⟩ := h
        rcases List.mem_cons.1 hx with rfl | hx
        · exact absurd hd e
        · exact ⟨x, hx, hd⟩
      obtain ⟨j, h1, h2, h3⟩ := find_some (i + 1) h'
      refine ⟨j + 1, ?_, by simp; omega, fun hp => ?_⟩
      · rw [e0, findA]
        simp only [eqC, if_true, decide_eq_false (show ¬ d = r.1 from fun e' => e e'.symm), lk, if_neg e]
        rw [h1, show i + 1 + j = i + (j + 1) by omega]
      · have hp := List.pairwise_cons.1 hp
        rw [List.eraseIdx_cons_succ, List.filter_cons, if_pos (by simp [e]), h3 hp.2]
def MapIs (h : Heap) (b : Nat) (l : List (Int × Int)) : Prop := ∃ st ck, hget h b = some (.map (entM l) st ck) ∧ st.length = l.length ∧ st.Nodup ∧ ∀ s ∈ st, s < ck
theorem MapIs.ne {h h' : Heap} {b : Nat} {l : List (Int × Int)} (hm : MapIs h b l) (hh : hget h' b = hget h b) : MapIs h' b l := by
  obtain ⟨st, ck, h1, h2⟩ := hm
  exact ⟨st, ck, by rw [hh]; exact h1, h2⟩
theorem MapIs.look {h : Heap} {b : Nat} {l : List (Int × Int)} (hm : MapIs h b l) (d : Int) : lookA h .int (.int .u8 0) false (.mp b) (.int .u64 d) = some (.int .u8 (lk l d)) := by
  obtain ⟨st, ck, h1, h2⟩ := hm
  by_cases e : ∃ r ∈ l, r.1 = d
  · obtain ⟨j, k1, k2, k3⟩ := find_some (d := d) (l := l) 0 e
    simp only [lookA, mapOf, h1, isKey, if_true, k1]
    rfl
  · have hn : ∀ r ∈ l, r.1 ≠ d := fun r hr he => e ⟨r, hr, he⟩
    simp only [lookA, mapOf, h1, isKey, if_true, find_none 0 hn, lk_none hn]
    rfl
theorem MapIs.del {h : Heap} {b : Nat} {l : List (Int × Int)} (hm : MapIs h b l) (hp : Pw l) (d : Int) : ∃ h', delA h .int (.mp b) (.int .u64 d) = some h' ∧ MapIs h' b (l.filter fun r => decide (r.1 ≠ d)) ∧ ∀ c, c ≠ b → hget h' c = hget h c := by
  obtain ⟨st, ck, h1, h2, h3, h4⟩ := hm
  by_cases e : ∃ r ∈ l, r.1 = d
  · obtain ⟨j, k1, k2, k3⟩ := find_some (d := d) (l := l) 0 e
    refine ⟨hset h b (.map ((entM l).eraseIdx j) (st.eraseIdx j) ck), ?_, ?_, fun c hc => by rw [hget_hset, if_neg (fun e => hc e.symm)]⟩
    · simp only [delA, h1, isKey, if_true, k1, Nat.zero_add]
    · refine ⟨st.eraseIdx j, ck, ?_, ?_, h3.sublist (List.eraseIdx_sublist _ _), fun s hs => h4 s ((List.eraseIdx_sublist _ _).subset hs)⟩
      · rw [hget_hset, if_pos rfl, ← k3 hp]
        simp only [entM, erase_map]
      · rw [← k3 hp, List.length_eraseIdx_of_lt (by omega), List.length_eraseIdx_of_lt k2, h2]
  · have hn : ∀ r ∈ l, r.1 ≠ d := fun r hr he => e ⟨r, hr, he⟩
    refine ⟨h, by simp only [delA, h1, isKey, if_true, find_none 0 hn], ?_, fun _ _ => rfl⟩
    rw [List.filter_eq_self.2 fun r hr => by simp [hn r hr]]
    exact ⟨st, ck, h1, h2, h3, h4⟩
theorem MapIs.len {h : Heap} {b : Nat} {l : List (Int × Int)} (hm : MapIs h b l) : ∃ es, mapOf h (.mp b) = some es ∧ es.length = l.length := by
  obtain ⟨st, ck, h1, h2⟩ := hm
  exact ⟨entM l, by simp only [mapOf, h1], entM_len l⟩
theorem w217 (l : List (Int × Int)) (hl : l.length ≤ 9000) (hf : Fine l) (nx : Nat) : AC Tryz.prog 17 [cellsA l] [] nx fun y h' n' => ∃ b, y = .ret (.mp b) ∧ b < n' ∧ MapIs h' b l := by
  refine AC.go mixed is217 (by simp) ?_
  have hlx := cells_len l
  simp -implicitDefEqProofs only [RA, takeV, reduceEqDiff, ↓reduceIte, reduceCtorEq, reduceAdd, reduceLeDiff, reduceLT, Nat.reduceBEq, A217]
  refine go_rounds (fun q st => ∃ i : Nat, q = l.length - i ∧ i ≤ l.length ∧ eget st.env 0 = some (cellsA l) ∧ eget st.env 3 = some (.mp nx) ∧ eget st.env 4 = some (.int .i64 i) ∧ hget st.heap nx = some (.map (entM (l.take i)) (List.range i) i) ∧ st.dm = [] ∧ nx < st.nx) (n := l.length) mixed
    ⟨0, rfl, by omega, by simp [eget], by simp [eget], by simp [eget], by simp [hget, entM], rfl, by simp⟩ ?_
  rintro q ⟨env, heap, nx', dm⟩ ⟨i, rfl, hi, h0, h3, h4, hm, hdm, hnx⟩
  simp only at h0 h3 h4 hm hdm hnx
  subst hdm
  by_cases hc : (i : Int) < (l.length : Int)
  case neg =>
    obtain rfl : i = l.length := by omega
    simp -implicitDefEqProofs only [RA, takeV, reduceEqDiff, ↓reduceIte, reduceCtorEq, reduceAdd, reduceLeDiff, reduceLT, Nat.reduceBEq, A217l0, h0, h3, h4, hlx, hc, R217]
    rw [List.take_length] at hm
    exact ⟨nx, rfl, hnx, List.range l.length, l.length, hm, by simp, List.nodup_range, fun s hs => List.mem_range.1 hs⟩
  obtain ⟨r, hr⟩ : ∃ r, l[i]? = some r := ⟨l[i]'(by omega), List.getElem?_eq_getElem (by omega)⟩
  have hix := cells_idx hr
  have f1 : IntKind.i64.wrap ((i : Int) + 1) = ((i + 1 : Nat) : Int) := by rw [w64 (by omega) (by omega)]; omega
  have e1 : (r.2 = 0) = False := eq_false (hf.nz r (List.mem_of_getElem? hr))
  have hnone : ∀ x ∈ l.take i, x.1 ≠ r.1 := fun x hx => by
    obtain ⟨j, hj, rfl⟩ := List.getElem_of_mem hx
    have hj' : j < i := by simp at hj; omega
    have := srt_pw.2 hf.pw j i _ r hj' (List.getElem?_eq_getElem (by simp at hj; omega)) hr
    rw [List.getElem_take]
    omega
  have hset' : setA heap .int (.mp nx) (.int .u64 r.1) (.int .u8 r.2) = some (hset heap nx (.map (entM (l.take (i + 1))) (List.range (i + 1)) (i + 1))) := by
    simp only [setA, hm, isKey, if_true, find_none 0 hnone]
    rw [List.range_succ, List.take_succ_eq_append_getElem (by omega)]
    have : l[i]'(by omega) = r := by have := List.getElem?_eq_getElem (show i < l.length by omega); rw [hr] at this; injection this with this; exact this.symm
    simp [entM, this]
  by_cases c2 : 0 < (i : Int)
  · obtain ⟨p, hp⟩ : ∃ p, l[i - 1]? = some p := ⟨l[i - 1]'(by omega), List.getElem?_eq_getElem (by omega)⟩
    have hpx := cells_idx hp
    have f2 : IntKind.i64.wrap ((i : Int) - 1) = ((i - 1 : Nat) : Int) := by rw [w64 (by omega) (by omega)]; omega
    have c3 : (r.1 ≤ p.1) = False := eq_false (by have := srt_pw.2 hf.pw (i - 1) i p r (by omega) hp hr; omega)
    simp -implicitDefEqProofs only [RA, takeV, reduceEqDiff, ↓reduceIte, reduceCtorEq, reduceAdd, reduceLeDiff, reduceLT, Nat.reduceBEq, A217l0, h0, h3, h4, hlx, hc, hix, cellE, e1, c2, f2, hpx, c3, f1, hset']
    refine ⟨l.length - (i + 1), by omega, i + 1, rfl, by omega, ?_⟩
    repeat' apply And.intro
    all_goals first | assumption | rfl | omega | (simp [eget, hget, hset, *]; done)
  · simp -implicitDefEqProofs only [RA, takeV, reduceEqDiff, ↓reduceIte, reduceCtorEq, reduceAdd, reduceLeDiff, reduceLT, Nat.reduceBEq, A217l0, h0, h3, h4, hlx, hc, hix, cellE, e1, c2, f1, hset']
    refine ⟨l.length - (i + 1), by omega, i + 1, rfl, by omega, ?_⟩
    repeat' apply And.intro
    all_goals first | assumption | rfl | omega | (simp [eget, hget, hset, *]; done)
end Go.Proofs.YtdmjloieldhlnaaGreatDoor
namespace Go.Proofs.YtdmjloieldhlnaaGreatDoor
open Go Go.Ab Go.Proofs
open Nat (reduceEqDiff reduceAdd reduceLeDiff reduceLT)
set_option linter.unusedVariables false
set_option linter.unusedSimpArgs false
set_option maxRecDepth 20000
theorem w11f (l : List (Int × Int)) (d x : Nat) (w : Int) (out : List (Int × Int)) (e : Int) (hl : l.length ≤ 4200) (hw : wfC l) (hd : d < 18446744073709551616) (hx : x < 18446744073709551616) (hs : Sto l d w x out e) : Pure Tryz.prog 11 [cellsA l, .int .u64 d, .int .i64 w, .int .u64 x] (.tup [cellsA out, .int .i64 e]) := by
  refine Pure.of fun nx => AC.frz ((w5 l d x w out e hl hw hd hx hs nx).mono ?_)
  rintro y h' n' ⟨v, rfl, ho⟩
  obtain ⟨h2, hf⟩ := ho.frz (cellE_len out)
  exact ⟨h2, _, hf.head, rfl⟩
theorem ofV_mark : ofV (.tuple #[]) = none := rfl
theorem entA_at : ∀ {es : List (AV × AV)} {st : List Nat} {i s : Nat} {q x : AV}, st.Nodup → es[i]? = some (q, x) → st[i]? = some s → entA es st s = some (q, x)
  | [], _, i, s, q, x, _, h, _ => by simp at h
  | e :: es, [], i, s, q, x, _, _, h => by simp at h
  | e :: es, t :: st, 0, s, q, x, hn, h1, h2 => by
    simp at h1 h2; subst h1; subst h2
    simp [entA]
  | e :: es, t :: st, i + 1, s, q, x, hn, h1, h2 => by
    simp only [List.getElem?_cons_succ] at h1 h2
    have hn := List.nodup_cons.1 hn
    have hne : ¬ t = s := fun h => hn.1 (h ▸ List.mem_of_getElem? h2)
    rw [entA, if_neg hne]
    exact entA_at hn.2 h1 h2
theorem ent_at {h : Heap} {n b i s ck : Nat} {st seen : List Nat} {es : List (AV × AV)} {q x : AV} (hm : hget h b = some (.map es st ck)) (hn : n ≠ b) (hnd : st.Nodup) (k1 : es[i]? = some (q, x)) (k2 : st[i]? = some s) : entH (hset h n (.mit b ck (seen ++ [s]) ck)) (.op n 0) = some (.tup [q, x]) := by
  have e1 : hget (hset h n (.mit b ck (seen ++ [s]) ck)) n = some (.mit b ck (seen ++ [s]) ck) := by rw [hget_hset, if_pos rfl]
  have e2 : hget (hset h n (.mit b ck (seen ++ [s]) ck)) b = some (.map es st ck) := by rw [hget_hset, if_neg hn]; exact hm
  have e3 : (seen ++ [s]).getLast? = some s := by simp
  simp only [entH, e1, e2, e3, if_true, entA_at hnd k1 k2]
  rfl
theorem left_less {st seen : List Nat} {s : Nat} (h1 : s ∈ st) (h2 : s ∉ seen) : (st.filter fun t => decide (t ∉ seen ++ [s])).length < (st.filter fun t => decide (t ∉ seen)).length := by
  have hsub : (st.filter fun t => decide (t ∉ seen ++ [s])) = (st.filter fun t => decide (t ∉ seen)).filter fun t => decide (t ≠ s) := by
    rw [List.filter_filter]
    apply List.filter_congr
    intro t ht
    rw [Bool.eq_iff_iff]
    simp only [List.mem_append, List.mem_singleton, Bool.and_eq_true, decide_eq_true_eq]
    constructor
    · intro h; exact ⟨fun e => h (.inr e), fun e => h (.inl e)⟩
    · rintro ⟨k1, k2⟩ (h | h)
      · exact k2 h
      · exact k1 h
  rw [hsub]
  have hm : s ∈ st.filter fun t => decide (t ∉ seen) := List.mem_filter.2 ⟨h1, by simpa using h2⟩
  exact List.length_filter_lt_length_iff_exists.2 ⟨s, hm, by simp⟩
theorem okS_out {l : List (Int × Int)} {d x y : Nat} {w : Int} (hw : wfC l) (hok : okS l d w x) (hlen : ¬ 4096 < (stoL (w / 8).toNat l d x).length) : (okS (stoL (w / 8).toNat l d x) d w y ↔ okS l d w y) ∧ wfC (stoL (w / 8).toNat l d x) ∧ Fine l ∧ Fine (stoL (w / 8).toNat l d x) ∧ stoL (w / 8).toNat (stoL (w / 8).toNat l d x) d y = stoL (w / 8).toNat l d y := by
  obtain ⟨hM, hd, hww, _⟩ := hok
  obtain ⟨hf, hi, hl⟩ := isM_in hM hw
  have hn : (w / 8).toNat ≤ 8 := by omega
  have hf2 := hf.sto (w / 8).toNat d x
  have hi2 := in_sto (w / 8).toNat hi d x ⟨by omega, hd⟩
  obtain ⟨hM2, hw2⟩ := in_isM hf2 hi2 (by omega)
  refine ⟨⟨fun ⟨_, h2, h3, h4⟩ => ⟨hM, h2, h3, h4⟩, fun ⟨_, h2, h3, h4⟩ => ⟨hM2, h2, h3, h4⟩⟩, hw2, hf, hf2, sto_twice (by omega) hn hf⟩
theorem Sto.twice {l : List (Int × Int)} {d x y : Nat} {w : Int} {o : List (Int × Int)} {e : Int} (hw : wfC l) (hok : okS l d w x) (hlen : ¬ 4096 < (stoL (w / 8).toNat l d x).length) (hs : Sto l d w y o e) : Sto (stoL (w / 8).toNat l d x) d w y o e := by
  obtain ⟨h1, _, _, _, h2⟩ := okS_out (y := y) hw hok hlen
  unfold Sto at hs ⊢
  rw [h1, h2]
  exact hs
end Go.Proofs.YtdmjloieldhlnaaGreatDoor
