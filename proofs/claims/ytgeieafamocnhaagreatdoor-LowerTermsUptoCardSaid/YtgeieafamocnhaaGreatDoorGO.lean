/- How large programs and expressions are. -/
import Derived.Test.YtgeieafamocnhaaGreatDoorGN
namespace Go.Proofs.YtgeieafamocnhaaGreatDoor
open Go Go.Ab Go.Proofs
open Nat (reduceEqDiff reduceAdd reduceLeDiff reduceLT)
set_option linter.unusedVariables false
set_option linter.unusedSimpArgs false
set_option maxRecDepth 20000
def Cp (r s : Nat) : Prop := r ≤ s ∧ (r < 100000 → r = s)
theorem Cp.add {a b s t : Nat} (h1 : Cp a s) (h2 : Cp b t) : Cp (a + b) (s + t) := by
  obtain ⟨a1, a2⟩ := h1
  obtain ⟨b1, b2⟩ := h2
  refine ⟨by omega, fun h => ?_⟩
  have := a2 (by omega)
  have := b2 (by omega)
  omega
theorem Cp.refl (a : Nat) : Cp a a := ⟨Nat.le_refl _, fun _ => rfl⟩
theorem szEL_app : ∀ (a b : List Ex), szEL (a ++ b) = szEL a + szEL b
  | [], b => by simp [szEL]
  | x :: a, b => by simp only [List.cons_append, szEL, szEL_app a b]; omega
theorem szSL_app : ∀ (a b : List Sm), szSL (a ++ b) = szSL a + szSL b
  | [], b => by simp [szSL]
  | x :: a, b => by simp only [List.cons_append, szSL, szSL_app a b]; omega
theorem szEL_take {l : List Ex} {i : Nat} {r : Ex} (h : l[i]? = some r) : szEL (l.take (i + 1)) = szEL (l.take i) + szE r := by
  rw [take_succ h, szEL_app]; simp [szEL]
theorem szSL_take {l : List Sm} {i : Nat} {r : Sm} (h : l[i]? = some r) : szSL (l.take (i + 1)) = szSL (l.take i) + szS r := by
  rw [take_succ h, szSL_app]; simp [szSL]
theorem szEL_le {l : List Ex} (i : Nat) : szEL (l.take i) ≤ szEL l := by
  have := szEL_app (l.take i) (l.drop i)
  rw [List.take_append_drop] at this
  omega
theorem szSL_le {l : List Sm} (i : Nat) : szSL (l.take i) ≤ szSL l := by
  have := szSL_app (l.take i) (l.drop i)
  rw [List.take_append_drop] at this
  omega
theorem szE_eq (x : Ex) : szE x = 1 + x.name.length + szEL x.sub := by cases x; simp [szE, Ex.name, Ex.sub]
theorem szS_eq (x : Sm) : szS x = 1 + x.name.length + x.func.length + szEL x.exprs + szSL x.body + szSL x.els := by cases x; simp [szS, Sm.name, Sm.func, Sm.exprs, Sm.body, Sm.els]
def CpP (s : Nat) (h : Heap) (nx : Nat) (y : AE) (h' : Heap) (n' : Nat) : Prop := ∃ r : Nat, y = .ret (.int .i64 (r : Int)) ∧ Cp r s ∧ h' = h ∧ nx ≤ n'
theorem w18_of (l : List Ex) (hB : szEL l ≤ 4000000) (H : ∀ x ∈ l, ∀ (h : Heap) (nx : Nat), AC Tryz.prog 18 [exsA x.sub] h nx (CpP (szEL x.sub) h nx)) (h : Heap) (nx : Nat) : AC Tryz.prog 18 [exsA l] h nx (CpP (szEL l) h nx) := by
  refine AC.go mixed is18 (by simp) ?_
  have lv := exs_len l
  have hlen := nodesL_len l
  have hsz := nodesL_sz l
  simp -implicitDefEqProofs only [RR, RE, RP, RG, takeV, reduceEqDiff, ↓reduceIte, reduceCtorEq, reduceAdd, reduceLeDiff, reduceLT, Nat.reduceBEq, A18, A18p, lv]
  refine go_rounds (fun q st => ∃ i n : Nat, q = l.length - i ∧ i ≤ l.length ∧ Cp n (szEL (l.take i)) ∧ eget st.env 0 = some (exsA l) ∧ eget st.env 3 = some (.int .i64 n) ∧ eget st.env 4 = some (.int .i64 i) ∧ st.heap = h ∧ nx ≤ st.nx ∧ st.dm = []) (n := l.length) mixed
    ⟨0, 0, rfl, by omega, by rw [List.take_zero, szEL]; exact Cp.refl 0, by simp [eget], by simp [eget], by simp [eget], rfl, by simp, rfl⟩ ?_
  rintro q ⟨env, heap, nx', dm⟩ ⟨i, n, rfl, hi, hn, g0, g3, g4, gh, hnx, hdm⟩
  simp only at g0 g3 g4 gh hnx hdm
  subst hdm; subst gh
  have f1 : IntKind.i64.wrap ((i : Int) + 1) = ((i + 1 : Nat) : Int) := by rw [w64 (by omega) (by omega)]; omega
  have hle := szEL_le (l := l) i
  by_cases hc : (i : Int) < (l.length : Int)
  case neg =>
    have ht : l.take i = l := List.take_of_length_le (by omega)
    rw [ht] at hn
    simp -implicitDefEqProofs only [RR, RE, RP, RG, takeV, reduceEqDiff, ↓reduceIte, reduceCtorEq, reduceAdd, reduceLeDiff, reduceLT, Nat.reduceBEq, A18l0, A18l0p, g0, g3, g4, lv, hc, R18]
    exact ⟨n, rfl, hn, rfl, hnx⟩
  rcases dec_cases ((n : Int) < 100000) with ⟨d1', d1⟩ | ⟨d1', d1⟩
  case inr =>
    simp -implicitDefEqProofs only [RR, RE, RP, RG, takeV, reduceEqDiff, ↓reduceIte, reduceCtorEq, reduceAdd, reduceLeDiff, reduceLT, Nat.reduceBEq, A18l0, A18l0p, g0, g3, g4, lv, hc, d1, R18]
    exact ⟨n, rfl, ⟨by have := hn.1; omega, fun h => by omega⟩, rfl, hnx⟩
  have hr := List.getElem?_eq_getElem (show i < l.length by omega)
  generalize l[i] = r at hr
  have ix := exs_idx hr
  rw [exE_eq] at ix
  have t1 := szEL_take hr
  have t2 := szEL_le (l := l) (i + 1)
  have e1 := szE_eq r
  have hn1 := hn.1
  have a1 : IntKind.i64.wrap (1 + (r.name.length : Int)) = ((1 + r.name.length : Nat) : Int) := by rw [w64 (by omega) (by omega)]; omega
  simp -implicitDefEqProofs only [RR, RE, RP, RG, takeV, reduceEqDiff, ↓reduceIte, reduceCtorEq, reduceAdd, reduceLeDiff, reduceLT, Nat.reduceBEq, A18l0, A18l0p, g0, g3, g4, lv, hc, d1, ix, a1]
  refine (H r (List.mem_of_getElem? hr) heap nx').mono ?_
  rintro y h2 n2 ⟨s, rfl, hs, hhe, hn2⟩
  obtain rfl : heap = h2 := hhe.symm
  have hs1 := hs.1
  have a2 : IntKind.i64.wrap (((1 + r.name.length : Nat) : Int) + (s : Int)) = ((1 + r.name.length + s : Nat) : Int) := by rw [w64 (by omega) (by omega)]; omega
  have a3 : IntKind.i64.wrap ((n : Int) + ((1 + r.name.length + s : Nat) : Int)) = ((n + (1 + r.name.length + s) : Nat) : Int) := by rw [w64 (by omega) (by omega)]; omega
  have hn2' : Cp (n + (1 + r.name.length + s)) (szEL (l.take (i + 1))) := by
    rw [t1, e1]; exact hn.add ((Cp.refl _).add hs)
  simp -implicitDefEqProofs only [RR, RE, RP, RG, takeV, reduceEqDiff, ↓reduceIte, reduceCtorEq, reduceAdd, reduceLeDiff, reduceLT, Nat.reduceBEq, g0, g3, g4, a1, a2, a3, f1]
  refine ⟨l.length - (i + 1), by omega, i + 1, n + (1 + r.name.length + s), rfl, by omega, hn2', ?_⟩
  repeat' apply And.intro
  all_goals first | assumption | rfl | omega | (simp [eget, *]; done)
theorem szEL_mem : ∀ {l : List Ex} {x : Ex}, x ∈ l → szE x ≤ szEL l
  | [], x, h => by simp at h
  | y :: r, x, h => by
    simp only [szEL]
    rcases List.mem_cons.1 h with rfl | h
    · omega
    · have := szEL_mem h; omega
theorem w18 : ∀ (m : Nat) (l : List Ex), szEL l ≤ m → szEL l ≤ 4000000 → ∀ (h : Heap) (nx : Nat), AC Tryz.prog 18 [exsA l] h nx (CpP (szEL l) h nx) := by
  intro m
  induction m with
  | zero => exact fun l hm hB => w18_of l hB fun x hx => by have := szEL_mem hx; have := szE_eq x; omega
  | succ m ih => exact fun l hm hB => w18_of l hB fun x hx => ih x.sub (by have := szEL_mem hx; have := szE_eq x; omega) (by have := szEL_mem hx; have := szE_eq x; omega)
theorem w17_of (l : List Sm) (hB : szSL l ≤ 4000000) (H : ∀ x ∈ l, ∀ (h : Heap) (nx : Nat), AC Tryz.prog 17 [smsA x.body] h nx (CpP (szSL x.body) h nx) ∧ AC Tryz.prog 17 [smsA x.els] h nx (CpP (szSL x.els) h nx)) (h : Heap) (nx : Nat) : AC Tryz.prog 17 [smsA l] h nx (CpP (szSL l) h nx) := by
  refine AC.go mixed is17 (by simp) ?_
  have lv := sms_len l
  have hlen := stmtsL_len l
  have hsz := stmtsL_sz l
  simp -implicitDefEqProofs only [RR, RE, RP, RG, takeV, reduceEqDiff, ↓reduceIte, reduceCtorEq, reduceAdd, reduceLeDiff, reduceLT, Nat.reduceBEq, A17, A17p, lv]
  refine go_rounds (fun q st => ∃ i n : Nat, q = l.length - i ∧ i ≤ l.length ∧ Cp n (szSL (l.take i)) ∧ eget st.env 0 = some (smsA l) ∧ eget st.env 3 = some (.int .i64 n) ∧ eget st.env 4 = some (.int .i64 i) ∧ st.heap = h ∧ nx ≤ st.nx ∧ st.dm = []) (n := l.length) mixed
    ⟨0, 0, rfl, by omega, by rw [List.take_zero, szSL]; exact Cp.refl 0, by simp [eget], by simp [eget], by simp [eget], rfl, by simp, rfl⟩ ?_
  rintro q ⟨env, heap, nx', dm⟩ ⟨i, n, rfl, hi, hn, g0, g3, g4, gh, hnx, hdm⟩
  simp only at g0 g3 g4 gh hnx hdm
  subst hdm; subst gh
  have f1 : IntKind.i64.wrap ((i : Int) + 1) = ((i + 1 : Nat) : Int) := by rw [w64 (by omega) (by omega)]; omega
  have hle := szSL_le (l := l) i
  by_cases hc : (i : Int) < (l.length : Int)
  case neg =>
    have ht : l.take i = l := List.take_of_length_le (by omega)
    rw [ht] at hn
    simp -implicitDefEqProofs only [RR, RE, RP, RG, takeV, reduceEqDiff, ↓reduceIte, reduceCtorEq, reduceAdd, reduceLeDiff, reduceLT, Nat.reduceBEq, A17l0, A17l0p, g0, g3, g4, lv, hc, R17]
    exact ⟨n, rfl, hn, rfl, hnx⟩
  rcases dec_cases ((n : Int) < 100000) with ⟨d1', d1⟩ | ⟨d1', d1⟩
  case inr =>
    simp -implicitDefEqProofs only [RR, RE, RP, RG, takeV, reduceEqDiff, ↓reduceIte, reduceCtorEq, reduceAdd, reduceLeDiff, reduceLT, Nat.reduceBEq, A17l0, A17l0p, g0, g3, g4, lv, hc, d1, R17]
    exact ⟨n, rfl, ⟨by have := hn.1; omega, fun h => by omega⟩, rfl, hnx⟩
  have hr := List.getElem?_eq_getElem (show i < l.length by omega)
  generalize l[i] = r at hr
  have ix := sms_idx hr
  rw [smE_eq] at ix
  have t1 := szSL_take hr
  have t2 := szSL_le (l := l) (i + 1)
  have e1 := szS_eq r
  have hn1 := hn.1
  have a1 : IntKind.i64.wrap (1 + (r.name.length : Int)) = ((1 + r.name.length : Nat) : Int) := by rw [w64 (by omega) (by omega)]; omega
  have a2 : IntKind.i64.wrap (((1 + r.name.length : Nat) : Int) + (r.func.length : Int)) = ((1 + r.name.length + r.func.length : Nat) : Int) := by rw [w64 (by omega) (by omega)]; omega
  simp -implicitDefEqProofs only [RR, RE, RP, RG, takeV, reduceEqDiff, ↓reduceIte, reduceCtorEq, reduceAdd, reduceLeDiff, reduceLT, Nat.reduceBEq, A17l0, A17l0p, g0, g3, g4, lv, hc, d1, ix, a1, a2]
  refine (w18 _ r.exprs (Nat.le_refl _) (by omega) heap nx').mono ?_
  rintro y h2 n2 ⟨s1, rfl, hs1, hhe, hn2⟩
  obtain rfl : heap = h2 := hhe.symm
  have hs1' := hs1.1
  have a3 : IntKind.i64.wrap (((1 + r.name.length + r.func.length : Nat) : Int) + (s1 : Int)) = ((1 + r.name.length + r.func.length + s1 : Nat) : Int) := by rw [w64 (by omega) (by omega)]; omega
  simp -implicitDefEqProofs only [RR, RE, RP, RG, takeV, reduceEqDiff, ↓reduceIte, reduceCtorEq, reduceAdd, reduceLeDiff, reduceLT, Nat.reduceBEq, g0, g3, g4, a3]
  refine (H r (List.mem_of_getElem? hr) heap n2).1.mono ?_
  rintro y h2 n3 ⟨s2, rfl, hs2, hhe, hn3⟩
  obtain rfl : heap = h2 := hhe.symm
  have hs2' := hs2.1
  have a4 : IntKind.i64.wrap (((1 + r.name.length + r.func.length + s1 : Nat) : Int) + (s2 : Int)) = ((1 + r.name.length + r.func.length + s1 + s2 : Nat) : Int) := by rw [w64 (by omega) (by omega)]; omega
  simp -implicitDefEqProofs only [RR, RE, RP, RG, takeV, reduceEqDiff, ↓reduceIte, reduceCtorEq, reduceAdd, reduceLeDiff, reduceLT, Nat.reduceBEq, g0, g3, g4, a4]
  refine (H r (List.mem_of_getElem? hr) heap n3).2.mono ?_
  rintro y h2 n4 ⟨s3, rfl, hs3, hhe, hn4⟩
  obtain rfl : heap = h2 := hhe.symm
  have hs3' := hs3.1
  have a5 : IntKind.i64.wrap (((1 + r.name.length + r.func.length + s1 + s2 : Nat) : Int) + (s3 : Int)) = ((1 + r.name.length + r.func.length + s1 + s2 + s3 : Nat) : Int) := by rw [w64 (by omega) (by omega)]; omega
  have a6 : IntKind.i64.wrap ((n : Int) + ((1 + r.name.length + r.func.length + s1 + s2 + s3 : Nat) : Int)) = ((n + (1 + r.name.length + r.func.length + s1 + s2 + s3) : Nat) : Int) := by rw [w64 (by omega) (by omega)]; omega
  have hn2' : Cp (n + (1 + r.name.length + r.func.length + s1 + s2 + s3)) (szSL (l.take (i + 1))) := by
    rw [t1, e1]; exact hn.add ((((Cp.refl _).add hs1).add hs2).add hs3)
  simp -implicitDefEqProofs only [RR, RE, RP, RG, takeV, reduceEqDiff, ↓reduceIte, reduceCtorEq, reduceAdd, reduceLeDiff, reduceLT, Nat.reduceBEq, g0, g3, g4, a5, a6, f1]
  refine ⟨l.length - (i + 1), by omega, i + 1, n + (1 + r.name.length + r.func.length + s1 + s2 + s3), rfl, by omega, hn2', ?_⟩
  repeat' apply And.intro
  all_goals first | assumption | rfl | omega | (simp [eget, *]; done)
theorem w17 : ∀ (m : Nat) (l : List Sm), szSL l ≤ m → szSL l ≤ 4000000 → ∀ (h : Heap) (nx : Nat), AC Tryz.prog 17 [smsA l] h nx (CpP (szSL l) h nx) := by
  intro m
  induction m with
  | zero => exact fun l hm hB => w17_of l hB fun x hx => by have := szSL_mem hx; have := szS_pos x; omega
  | succ m ih =>
    exact fun l hm hB => w17_of l hB fun x hx h nx => ⟨ih x.body (by have := szSL_mem hx; have := szS_eq x; omega) (by have := szSL_mem hx; have := szS_eq x; omega) h nx, ih x.els (by have := szSL_mem hx; have := szS_eq x; omega) (by have := szSL_mem hx; have := szS_eq x; omega) h nx⟩
theorem Cp.dec {r s : Nat} (h : Cp r s) : decide ((5000 : Int) < (r : Int)) = decide (5000 < s) := by
  apply decide_eq_decide.2
  obtain ⟨h1, h2⟩ := h
  constructor
  · intro h; omega
  · intro h3
    by_cases h4 : r < 100000
    · have := h2 h4; omega
    · omega
end Go.Proofs.YtgeieafamocnhaaGreatDoor
namespace Go.Proofs.YtgeieafamocnhaaGreatDoor
open Go Go.Ab Go.Proofs
open Nat (reduceEqDiff reduceAdd reduceLeDiff reduceLT)
set_option linter.unusedVariables false
set_option linter.unusedSimpArgs false
set_option maxRecDepth 20000
def szAL : List Ar → Nat
  | [] => 0
  | a :: r => a.name.length + szAL r
def szML : List Pm → Nat
  | [] => 0
  | a :: r => a.1.length + szML r
def szF (f : Fu) : Nat := szML f.params + (f.name.length + szSL f.body)
def szFL : List Fu → Nat
  | [] => 0
  | f :: r => szF f + szFL r
def szP (p : Pr) : Nat := szAL p.arrays + szFL p.funcs
theorem szAL_app : ∀ (a b : List Ar), szAL (a ++ b) = szAL a + szAL b
  | [], b => by simp [szAL]
  | x :: a, b => by simp only [List.cons_append, szAL, szAL_app a b]; omega
theorem szML_app : ∀ (a b : List Pm), szML (a ++ b) = szML a + szML b
  | [], b => by simp [szML]
  | x :: a, b => by simp only [List.cons_append, szML, szML_app a b]; omega
theorem szFL_app : ∀ (a b : List Fu), szFL (a ++ b) = szFL a + szFL b
  | [], b => by simp [szFL]
  | x :: a, b => by simp only [List.cons_append, szFL, szFL_app a b]; omega
theorem szAL_take {l : List Ar} {i : Nat} {r : Ar} (h : l[i]? = some r) : szAL (l.take (i + 1)) = szAL (l.take i) + r.name.length := by
  rw [take_succ h, szAL_app]; simp [szAL]
theorem szML_take {l : List Pm} {i : Nat} {r : Pm} (h : l[i]? = some r) : szML (l.take (i + 1)) = szML (l.take i) + r.1.length := by
  rw [take_succ h, szML_app]; simp [szML]
theorem szFL_take {l : List Fu} {i : Nat} {r : Fu} (h : l[i]? = some r) : szFL (l.take (i + 1)) = szFL (l.take i) + szF r := by
  rw [take_succ h, szFL_app]; simp [szFL]
theorem szAL_le {l : List Ar} (i : Nat) : szAL (l.take i) ≤ szAL l := by
  have := szAL_app (l.take i) (l.drop i)
  rw [List.take_append_drop] at this
  omega
theorem szML_le {l : List Pm} (i : Nat) : szML (l.take i) ≤ szML l := by
  have := szML_app (l.take i) (l.drop i)
  rw [List.take_append_drop] at this
  omega
theorem szFL_le {l : List Fu} (i : Nat) : szFL (l.take i) ≤ szFL l := by
  have := szFL_app (l.take i) (l.drop i)
  rw [List.take_append_drop] at this
  omega
theorem szAL_mem : ∀ {l : List Ar} {x : Ar}, x ∈ l → x.name.length ≤ szAL l
  | [], x, h => by simp at h
  | y :: r, x, h => by
    simp only [szAL]
    rcases List.mem_cons.1 h with rfl | h
    · omega
    · have := szAL_mem h; omega
theorem szML_mem : ∀ {l : List Pm} {x : Pm}, x ∈ l → x.1.length ≤ szML l
  | [], x, h => by simp at h
  | y :: r, x, h => by
    simp only [szML]
    rcases List.mem_cons.1 h with rfl | h
    · omega
    · have := szML_mem h; omega
theorem szFL_mem : ∀ {l : List Fu} {x : Fu}, x ∈ l → szF x ≤ szFL l
  | [], x, h => by simp at h
  | y :: r, x, h => by
    simp only [szFL]
    rcases List.mem_cons.1 h with rfl | h
    · omega
    · have := szFL_mem h; omega
def grF (f : Fu) : Bool := decide (50 < f.params.length)
def grP (p : Pr) : Bool := decide (20 < p.arrays.length) || decide (20 < p.funcs.length) || p.funcs.any grF || decide (5000 < szP p)
theorem grP_ok {p : Pr} (h : grP p = false) : OkP p := by
  simp only [grP, Bool.or_eq_false_iff, decide_eq_false_iff_not] at h
  obtain ⟨⟨⟨h1, h2⟩, h3⟩, h4⟩ := h
  have hs : szP p = szAL p.arrays + szFL p.funcs := rfl
  have hf : ∀ f ∈ p.funcs, szF f = szML f.params + (f.name.length + szSL f.body) ∧ szF f ≤ szFL p.funcs := fun f hf => ⟨rfl, szFL_mem hf⟩
  refine ⟨by omega, by omega, fun a ha => ?_, fun f h => ?_, fun f h => ?_, fun f h v hv => ?_, fun f h => ?_⟩
  · have := szAL_mem ha; omega
  · have := List.any_eq_false.1 h3 f h
    simp only [grF, decide_eq_true_iff] at this; omega
  · have := hf f h; omega
  · have := hf f h; have := szML_mem hv; omega
  · have := hf f h; omega
set_option maxHeartbeats 4000000 in
theorem w5 (p : Pr) (hB : szP p ≤ 4000000) : Pure Tryz.prog 5 [.agg (prE p)] (.bool (grP p)) := by
  refine Pure.of fun nx => AC.go mixed is5 (by simp) ?_
  have hsp : szP p = szAL p.arrays + szFL p.funcs := rfl
  have hpe := prE_eq p
  rw [hpe]
  have la := ars_len p.arrays
  have lf := fus_len p.funcs
  obtain ⟨R, hR⟩ : ∃ R, grP p = R := ⟨_, rfl⟩
  rw [hR]
  unfold grP at hR
  rcases dec_cases ((20 : Int) < (p.arrays.length : Int)) with ⟨b1, d1⟩ | ⟨b1, d1⟩
  case inl =>
    have c1 : decide (20 < p.arrays.length) = true := decide_eq_true (by omega)
    simp only [c1, Bool.true_or] at hR
    simp -implicitDefEqProofs only [RR, RE, RP, RG, takeV, reduceEqDiff, ↓reduceIte, reduceCtorEq, reduceAdd, reduceLeDiff, reduceLT, Nat.reduceBEq, A5, A5p, d1, la, lf, ↓c_ars, ↓p_ars, ↓c_fus, ↓p_fus, ← hR, R5]
  have c1 : decide (20 < p.arrays.length) = false := decide_eq_false (by omega)
  rcases dec_cases ((20 : Int) < (p.funcs.length : Int)) with ⟨b2, d2⟩ | ⟨b2, d2⟩
  case inl =>
    have c2 : decide (20 < p.funcs.length) = true := decide_eq_true (by omega)
    simp only [c2, Bool.true_or, Bool.or_true] at hR
    simp -implicitDefEqProofs only [RR, RE, RP, RG, takeV, reduceEqDiff, ↓reduceIte, reduceCtorEq, reduceAdd, reduceLeDiff, reduceLT, Nat.reduceBEq, A5, A5p, d1, d2, la, lf, ↓c_ars, ↓p_ars, ↓c_fus, ↓p_fus, ← hR, R5]
  have c2 : decide (20 < p.funcs.length) = false := decide_eq_false (by omega)
  simp only [c1, c2, Bool.false_or] at hR
  simp -implicitDefEqProofs only [RR, RE, RP, RG, takeV, reduceEqDiff, ↓reduceIte, reduceCtorEq, reduceAdd, reduceLeDiff, reduceLT, Nat.reduceBEq, A5, A5p, d1, d2, la, lf, ↓c_ars, ↓p_ars, ↓c_fus, ↓p_fus]
  refine go_rounds (fun q st => ∃ (i : Nat), q = p.arrays.length - i ∧ i ≤ p.arrays.length ∧ eget st.env 1 = some (.op nx 0) ∧ eget st.env 3 = some (.int .i64 (szAL (p.arrays.take i))) ∧ eget st.env 4 = some (.int .i64 i) ∧ hget st.heap nx = some (.cells [arsA p.arrays, fusA p.funcs]) ∧ nx < st.nx ∧ st.dm = []) (n := p.arrays.length) mixed
    ⟨0, rfl, by omega, by simp [eget], by simp [eget, szAL], by simp [eget], by simp [hget], by simp, rfl⟩ ?_
  rintro q ⟨env, heap, nx', dm⟩ ⟨i, rfl, hi, g1, g3, g4, gx, hnx, hdm⟩
  simp only at g1 g3 g4 gx hnx hdm
  subst hdm
  have f1 : IntKind.i64.wrap ((i : Int) + 1) = ((i + 1 : Nat) : Int) := by rw [w64 (by omega) (by omega)]; omega
  by_cases hc : (i : Int) < (p.arrays.length : Int)
  case pos =>
    have hr := List.getElem?_eq_getElem (show i < p.arrays.length by omega)
    generalize p.arrays[i] = r at hr
    have ix := ars_idx hr
    have re := arE_eq r
    have t1 := szAL_take hr
    have t2 := szAL_le (l := p.arrays) (i + 1)
    have a1 : IntKind.i64.wrap ((szAL (p.arrays.take i) : Int) + (r.name.length : Int)) = (szAL (p.arrays.take (i + 1)) : Int) := by rw [w64 (by omega) (by omega)]; omega
    simp -implicitDefEqProofs only [RR, RE, RP, RG, takeV, reduceEqDiff, ↓reduceIte, reduceCtorEq, reduceAdd, reduceLeDiff, reduceLT, Nat.reduceBEq, A5l0, A5l0p, g1, g3, g4, gx, la, hc, ix, re, a1, f1]
    refine ⟨p.arrays.length - (i + 1), by omega, i + 1, ?_⟩
    repeat' apply And.intro
    all_goals first | assumption | rfl | omega | (simp [eget, *]; done)
  rw [show p.arrays.take i = p.arrays from List.take_of_length_le (by omega)] at g3
  simp -implicitDefEqProofs only [RR, RE, RP, RG, takeV, reduceEqDiff, ↓reduceIte, reduceCtorEq, reduceAdd, reduceLeDiff, reduceLT, Nat.reduceBEq, A5l0, A5l0p, g1, g3, g4, gx, la, hc]
  clear g4 hc f1
  refine go_rounds (fun q st => ∃ (i n : Nat), q = p.funcs.length - i ∧ i ≤ p.funcs.length ∧ (p.funcs.take i).any grF = false ∧ Cp n (szAL p.arrays + szFL (p.funcs.take i)) ∧ eget st.env 1 = some (.op nx 0) ∧ eget st.env 3 = some (.int .i64 n) ∧ eget st.env 5 = some (.int .i64 i) ∧ hget st.heap nx = some (.cells [arsA p.arrays, fusA p.funcs]) ∧ nx < st.nx ∧ st.dm = []) (n := p.funcs.length) mixed
    ⟨0, szAL p.arrays, rfl, by omega, by simp, by rw [List.take_zero, szFL]; exact Cp.refl _, by simp [eget, g1], by simp [eget, g3], by simp [eget], gx, hnx, rfl⟩ ?_
  clear g1 g3 gx hnx hi env heap nx' i
  rintro q ⟨env, heap, nx', dm⟩ ⟨i, n, rfl, hi, hany, hn, g1, g3, g5, gx, hnx, hdm⟩
  simp only at g1 g3 g5 gx hnx hdm
  subst hdm
  have f1 : IntKind.i64.wrap ((i : Int) + 1) = ((i + 1 : Nat) : Int) := by rw [w64 (by omega) (by omega)]; omega
  have m1 : (nx' = nx) = False := eq_false (by omega)
  by_cases hc : (i : Int) < (p.funcs.length : Int)
  case neg =>
    rw [show p.funcs.take i = p.funcs from List.take_of_length_le (by omega)] at hn hany
    have e2 := hn.dec
    rw [← hsp] at e2
    rw [hany, Bool.false_or] at hR
    rw [← hR]
    simp -implicitDefEqProofs only [RR, RE, RP, RG, takeV, reduceEqDiff, ↓reduceIte, reduceCtorEq, reduceAdd, reduceLeDiff, reduceLT, Nat.reduceBEq, A5l2, A5l2p, g1, g3, g5, gx, lf, hc, e2, R5]
  have hr := List.getElem?_eq_getElem (show i < p.funcs.length by omega)
  generalize p.funcs[i] = r at hr
  have ix := fus_idx hr
  have re := fuE_eq r
  have lp := pms_len r.params
  have t1 := szFL_take hr
  have t2 := szFL_le (l := p.funcs) (i + 1)
  have e1 : szF r = szML r.params + (r.name.length + szSL r.body) := rfl
  rcases dec_cases ((50 : Int) < (r.params.length : Int)) with ⟨b3, d3⟩ | ⟨b3, d3⟩
  case inl =>
    have c3 : grF r = true := decide_eq_true (by omega)
    rw [any_hit hr c3, Bool.true_or] at hR
    rw [← hR]
    simp -implicitDefEqProofs only [RR, RE, RP, RG, takeV, reduceEqDiff, ↓reduceIte, reduceCtorEq, reduceAdd, reduceLeDiff, reduceLT, Nat.reduceBEq, A5l2, A5l2p, g1, g3, g5, gx, lf, hc, ix, re, lp, m1, d3, ↓c_pms, ↓p_pms, ↓c_sms, ↓p_sms, R5]
  have c3 : grF r = false := decide_eq_false (by omega)
  have hany2 := any_step hr hany c3
  have hn1 := hn.1
  simp -implicitDefEqProofs only [RR, RE, RP, RG, takeV, reduceEqDiff, ↓reduceIte, reduceCtorEq, reduceAdd, reduceLeDiff, reduceLT, Nat.reduceBEq, A5l2, A5l2p, g1, g3, g5, gx, lf, hc, ix, re, lp, m1, d3, ↓c_pms, ↓p_pms, ↓c_sms, ↓p_sms]
  refine go_rounds (fun q st => ∃ (k : Nat), q = r.params.length - k ∧ k ≤ r.params.length ∧ eget st.env 1 = some (.op nx 0) ∧ eget st.env 3 = some (.int .i64 ((n + szML (r.params.take k) : Nat) : Int)) ∧ eget st.env 5 = some (.int .i64 i) ∧ eget st.env 6 = some (.op nx' 0) ∧ eget st.env 7 = some (.int .i64 k) ∧ hget st.heap nx = some (.cells [arsA p.arrays, fusA p.funcs]) ∧ hget st.heap nx' = some (.cells [.str r.name, pmsA r.params, .int .i64 r.result, smsA r.body]) ∧ nx' < st.nx ∧ st.dm = []) (n := r.params.length) mixed
    ⟨0, rfl, by omega, by simp [eget, g1], by simp [eget, g3, szML], by simp [eget, g5], by simp [eget], by simp [eget], by simp [hget, m1, gx], by simp [hget], by simp, rfl⟩ ?_
  clear g1 g3 g5 gx env heap
  rintro q ⟨env, heap, nx2, dm⟩ ⟨k, rfl, hk, g1, g3, g5, g6, g7, gx, gf, hnx2, hdm⟩
  simp only at g1 g3 g5 g6 g7 gx gf hnx2 hdm
  subst hdm
  have k1 : IntKind.i64.wrap ((k : Int) + 1) = ((k + 1 : Nat) : Int) := by rw [w64 (by omega) (by omega)]; omega
  by_cases hck : (k : Int) < (r.params.length : Int)
  case pos =>
    have hv := List.getElem?_eq_getElem (show k < r.params.length by omega)
    generalize r.params[k] = v at hv
    have iv := pms_idx hv
    have ve := pmE_eq v
    have s1 := szML_take hv
    have s2 := szML_le (l := r.params) (k + 1)
    have a1 : IntKind.i64.wrap (((n + szML (r.params.take k) : Nat) : Int) + (v.1.length : Int)) = ((n + szML (r.params.take (k + 1)) : Nat) : Int) := by rw [w64 (by omega) (by omega)]; omega
    simp -implicitDefEqProofs only [RR, RE, RP, RG, takeV, reduceEqDiff, ↓reduceIte, reduceCtorEq, reduceAdd, reduceLeDiff, reduceLT, Nat.reduceBEq, A5l1, A5l1p, g1, g3, g5, g6, g7, gx, gf, lp, hck, iv, ve, a1, k1]
    refine ⟨r.params.length - (k + 1), by omega, k + 1, ?_⟩
    repeat' apply And.intro
    all_goals first | assumption | rfl | omega | (simp [eget, *]; done)
  rw [show r.params.take k = r.params from List.take_of_length_le (by omega)] at g3
  simp -implicitDefEqProofs only [RR, RE, RP, RG, takeV, reduceEqDiff, ↓reduceIte, reduceCtorEq, reduceAdd, reduceLeDiff, reduceLT, Nat.reduceBEq, A5l1, A5l1p, g1, g3, g5, g6, g7, gx, gf, lp, hck]
  refine (w17 _ r.body (Nat.le_refl _) (by omega) heap nx2).mono ?_
  rintro y h2 n2 ⟨s, rfl, hs, hhe, hn2⟩
  obtain rfl : heap = h2 := hhe.symm
  have hs1 := hs.1
  have a2 : IntKind.i64.wrap ((r.name.length : Int) + (s : Int)) = ((r.name.length + s : Nat) : Int) := by rw [w64 (by omega) (by omega)]; omega
  have a3 : IntKind.i64.wrap (((n + szML r.params : Nat) : Int) + ((r.name.length + s : Nat) : Int)) = ((n + szML r.params + (r.name.length + s) : Nat) : Int) := by rw [w64 (by omega) (by omega)]; omega
  have hn' : Cp (n + szML r.params + (r.name.length + s)) (szAL p.arrays + szFL (p.funcs.take (i + 1))) := by
    have key := (hn.add (Cp.refl (szML r.params))).add ((Cp.refl r.name.length).add hs)
    rw [t1, e1, show szAL p.arrays + (szFL (p.funcs.take i) + (szML r.params + (r.name.length + szSL r.body))) = szAL p.arrays + szFL (p.funcs.take i) + szML r.params + (r.name.length + szSL r.body) by omega]
    exact key
  simp -implicitDefEqProofs only [RR, RE, RP, RG, takeV, reduceEqDiff, ↓reduceIte, reduceCtorEq, reduceAdd, reduceLeDiff, reduceLT, Nat.reduceBEq, g1, g3, g5, g6, g7, gx, gf, a2, a3, f1]
  refine ⟨p.funcs.length - (i + 1), by omega, i + 1, n + szML r.params + (r.name.length + s), rfl, by omega, hany2, hn', ?_⟩
  repeat' apply And.intro
  all_goals first | assumption | rfl | omega | (simp [eget, *]; done)
end Go.Proofs.YtgeieafamocnhaaGreatDoor
