/- Checking a program. -/
import Derived.Test.YtkfldbimfbacmaaGreatDoorGM
namespace Go.Proofs.YtkfldbimfbacmaaGreatDoor
open Go Go.Ab Go.Proofs
open Nat (reduceEqDiff reduceAdd reduceLeDiff reduceLT)
set_option linter.unusedVariables false
set_option linter.unusedSimpArgs false
set_option maxRecDepth 20000
structure OkP (p : Pr) : Prop where
  al : p.arrays.length ≤ 20
  fl : p.funcs.length ≤ 20
  an : ∀ a ∈ p.arrays, a.name.length ≤ 5000
  fp : ∀ f ∈ p.funcs, f.params.length ≤ 50
  fn : ∀ f ∈ p.funcs, f.name.length ≤ 5000
  pn : ∀ f ∈ p.funcs, ∀ v ∈ f.params, v.1.length ≤ 5000
  fb : ∀ f ∈ p.funcs, szSL f.body ≤ 5000
def names (p : Pr) : List Nm := p.arrays.map Ar.name ++ p.funcs.map Fu.name
def fsE (p : Pr) : List Fu → Int
  | [] => 0
  | f :: r => if (fnW p f).1 = 0 then fsE p r else (fnW p f).1
def ckE (p : Pr) : Int :=
  if hvP p = true then 4 else if wfR p = true then (if (names p).Nodup then fsE p p.funcs else 18) else 8
def ins (K : List Nm) (n : Nm) : List Nm := if n ∈ K then K else K ++ [n]
def entN (n : Nm) : AV × AV := (.str n, .bool true)
theorem find_in (n : Nm) : ∀ (K : List Nm) (i : Nat), n ∈ K → ∃ j, findA .str (.str n) (K.map entN) i = some (some (i + j, .bool true)) ∧ K[j]? = some n
  | [], i, h => by simp at h
  | m :: K, i, h => by
    by_cases e : n = m
    · subst e
      exact ⟨0, by simp [findA, entN, eqC], rfl⟩
    · have hk : n ∈ K := by
        rcases List.mem_cons.1 h with h | h
        · exact absurd h e
        · exact h
      obtain ⟨j, h1, h2⟩ := find_in n K (i + 1) hk
      refine ⟨j + 1, ?_, by simpa using h2⟩
      have ne : (n == m) = false := by simpa using e
      simp only [List.map_cons, findA, entN, eqC, ne]
      rw [show i + (j + 1) = i + 1 + j by omega]
      exact h1
theorem find_out (n : Nm) : ∀ (K : List Nm) (i : Nat), n ∉ K → findA .str (.str n) (K.map entN) i = some none
  | [], i, h => rfl
  | m :: K, i, h => by
    have e : ¬ n = m := fun e => h (by simp [e])
    have hk : n ∉ K := fun hk => h (by simp [hk])
    have ne : (n == m) = false := by simpa using e
    simp only [List.map_cons, findA, entN, eqC, ne]
    exact find_out n K (i + 1) hk
theorem set_ins {h : Heap} {b : Nat} {K : List Nm} {st : List Nat} {ck : Nat} (hb : hget h b = some (.map (K.map entN) st ck)) (n : Nm) : ∃ st' ck', setA h .str (.mp b) (.str n) (.bool true) = some (hset h b (.map ((ins K n).map entN) st' ck')) := by
  by_cases hn : n ∈ K
  · obtain ⟨j, h1, h2⟩ := find_in n K 0 hn
    refine ⟨st, ck, ?_⟩
    simp only [setA, hb, isKey, if_true, h1, Nat.zero_add, ins, if_pos hn]
    congr 3
    have : (K.map entN)[j]? = some (entN n) := by rw [List.getElem?_map, h2]; rfl
    apply List.ext_getElem?
    intro t
    rw [List.getElem?_set]
    split
    · rename_i e; subst e
      have hlt := (List.getElem?_eq_some_iff.1 this).1
      rw [if_pos hlt, this]; rfl
    · rfl
  · refine ⟨st ++ [ck], ck + 1, ?_⟩
    simp only [setA, hb, isKey, if_true, find_out n K 0 hn, ins, if_neg hn, List.map_append, List.map_cons, List.map_nil, entN]
def insL (K L : List Nm) : List Nm := L.foldl ins K
theorem insL_len : ∀ (L K : List Nm), (insL K L).length ≤ K.length + L.length ∧ ((insL K L).length = K.length + L.length ↔ (L.Nodup ∧ ∀ n ∈ L, n ∉ K))
  | [], K => by simp [insL]
  | n :: L, K => by
    have h := insL_len L (ins K n)
    have e : insL K (n :: L) = insL (ins K n) L := rfl
    rw [e]
    by_cases hn : n ∈ K
    · have e2 : ins K n = K := if_pos hn
      rw [e2] at h ⊢
      refine ⟨by simp only [List.length_cons]; omega, ⟨fun h3 => ?_, fun h3 => absurd hn (h3.2 n (by simp))⟩⟩
      simp only [List.length_cons] at h3; omega
    · have e2 : ins K n = K ++ [n] := if_neg hn
      rw [e2] at h ⊢
      simp only [List.length_append, List.length_cons, List.length_nil] at h ⊢
      refine ⟨by omega, ?_⟩
      rw [show K.length + (L.length + 1) = K.length + (0 + 1) + L.length by omega, h.2, List.nodup_cons]
      constructor
      · rintro ⟨h1, h2⟩
        refine ⟨⟨fun hnl => ?_, h1⟩, fun m hm => ?_⟩
        · exact h2 n hnl (by simp)
        · rcases List.mem_cons.1 hm with rfl | hm
          · exact hn
          · exact fun hk => h2 m hm (by simp [hk])
      · rintro ⟨⟨h1, h2⟩, h3⟩
        refine ⟨h2, fun m hm => ?_⟩
        intro hk
        rcases List.mem_append.1 hk with hk | hk
        · exact h3 m (by simp [hm]) hk
        · simp at hk; subst hk; exact h1 hm
theorem insL_dup (L : List Nm) : ((insL [] L).length < L.length) ↔ ¬ L.Nodup := by
  have h := insL_len L []
  simp only [List.length_nil, Nat.zero_add, List.not_mem_nil, not_false_eq_true, implies_true, and_true] at h
  rw [← h.2]; omega
theorem insL_app (K A B : List Nm) : insL K (A ++ B) = insL (insL K A) B := List.foldl_append
theorem insL_take {α : Type} {g : α → Nm} {l : List α} {i : Nat} {x : α} (K : List Nm) (h : l[i]? = some x) : insL K ((l.take (i + 1)).map g) = ins (insL K ((l.take i).map g)) (g x) := by
  rw [take_succ h, List.map_append, insL_app]; rfl
theorem wfF_body {f : Fu} (h : wfF f = true) : ∀ x ∈ f.body, wfS x = true := by
  unfold wfF at h
  simp only [Bool.and_eq_true] at h
  exact List.all_eq_true.1 h.2
theorem hvP_ok {p : Pr} (o : OkP p) : ∀ f ∈ p.funcs, f.params.length ≤ 1152921504606846976 ∧ stmtsL f.body ≤ 1152921504606846976 ∧ shSL f.body := fun f hf => by
  have h1 := o.fp f hf
  have h2 := o.fb f hf
  have h3 := stmtsL_sz f.body
  exact ⟨by omega, by omega, shSL_sz _ (by omega)⟩
set_option maxHeartbeats 8000000 in
theorem w7 (p : Pr) (o : OkP p) : Pure Tryz.prog 7 [.agg (prE p)] (.int .i64 (ckE p)) := by
  refine Pure.of fun nx => AC.go mixed is7 (by simp) ?_
  have oal := o.al
  have ofl := o.fl
  have hpe := prE_eq p
  rw [hpe]
  have la := ars_len p.arrays
  have lf := fus_len p.funcs
  have c23 := w19 p (by omega) (by omega) (hvP_ok o)
  rw [hpe] at c23
  obtain ⟨R, hR⟩ : ∃ R, ckE p = R := ⟨_, rfl⟩
  rw [hR]
  unfold ckE at hR
  simp -implicitDefEqProofs only [RR, RE, RP, RG, takeV, reduceEqDiff, ↓reduceIte, reduceCtorEq, reduceAdd, reduceLeDiff, reduceLT, Nat.reduceBEq, A7, A7p, la, lf, ↓c_ars, ↓p_ars, ↓c_fus, ↓p_fus]
  refine c23.use fun n2 hn2 => ?_
  cases hhv : hvP p with
  | true =>
    rw [if_pos hhv] at hR
    simp -implicitDefEqProofs only [RR, RE, RP, RG, takeV, reduceEqDiff, ↓reduceIte, reduceCtorEq, reduceAdd, reduceLeDiff, reduceLT, Nat.reduceBEq, hR, R7]
  | false =>
  rw [hhv, if_neg (by simp)] at hR
  have z0 : ((p.funcs.length : Int) = 0) ∨ ¬ ((p.funcs.length : Int) = 0) := Classical.em _
  have c24 := w20 wfA p.arrays (by omega) fun a ha => w21 a (by have := o.an a ha; omega)
  have c26 := w22 wfF p.funcs (by omega) fun f hf => w23 f (by have := o.fn f hf; omega) (fun v hv => by have := o.pn f hf v hv; omega) (by have := o.fp f hf; omega) (by have := o.fb f hf; have := stmtsL_sz f.body; have := stmtsL_len f.body; omega) fun x hx => w47 _ x (Nat.le_refl _) (by have := o.fb f hf; have := szSL_mem hx; have := stmts_sz x; omega) (shS_sz x (by have := o.fb f hf; have := szSL_mem hx; omega))
  rcases dec_cases ((p.funcs.length : Int) = 0) with ⟨d1', d1⟩ | ⟨d1', d1⟩
  case inl =>
    have e1 : wfR p = false := by
      simp only [wfR, Bool.and_eq_false_iff, decide_eq_false_iff_not]; right; omega
    rw [e1, if_neg (by simp)] at hR
    simp -implicitDefEqProofs only [RR, RE, RP, RG, takeV, reduceEqDiff, ↓reduceIte, reduceCtorEq, reduceAdd, reduceLeDiff, reduceLT, Nat.reduceBEq, la, lf, d1, hR, R7]
  have e0 : decide (0 < p.funcs.length) = true := decide_eq_true (by omega)
  cases ha : p.arrays.all wfA with
  | false =>
    rw [ha] at c24
    have e1 : wfR p = false := by simp [wfR, ha]
    rw [e1, if_neg (by simp)] at hR
    simp -implicitDefEqProofs only [RR, RE, RP, RG, takeV, reduceEqDiff, ↓reduceIte, reduceCtorEq, reduceAdd, reduceLeDiff, reduceLT, Nat.reduceBEq, la, lf, d1]
    refine c24.use fun n3 hn3 => ?_
    simp -implicitDefEqProofs only [RR, RE, RP, RG, takeV, reduceEqDiff, ↓reduceIte, reduceCtorEq, reduceAdd, reduceLeDiff, reduceLT, Nat.reduceBEq, la, lf, d1, unA, hR, R7]
  | true =>
  rw [ha] at c24
  cases hf : p.funcs.all wfF with
  | false =>
    rw [hf] at c26
    have e1 : wfR p = false := by simp [wfR, hf]
    rw [e1, if_neg (by simp)] at hR
    simp -implicitDefEqProofs only [RR, RE, RP, RG, takeV, reduceEqDiff, ↓reduceIte, reduceCtorEq, reduceAdd, reduceLeDiff, reduceLT, Nat.reduceBEq, la, lf, d1]
    refine c24.use fun n3 hn3 => ?_
    simp -implicitDefEqProofs only [RR, RE, RP, RG, takeV, reduceEqDiff, ↓reduceIte, reduceCtorEq, reduceAdd, reduceLeDiff, reduceLT, Nat.reduceBEq, la, lf, d1, unA]
    refine c26.use fun n4 hn4 => ?_
    simp -implicitDefEqProofs only [RR, RE, RP, RG, takeV, reduceEqDiff, ↓reduceIte, reduceCtorEq, reduceAdd, reduceLeDiff, reduceLT, Nat.reduceBEq, la, lf, d1, unA, hR, R7]
  | true =>
  rw [hf] at c26
  have e1 : wfR p = true := by simp only [wfR, ha, hf, e0, Bool.and_self]
  rw [e1, if_pos rfl] at hR
  have hwff := List.all_eq_true.1 hf
  simp -implicitDefEqProofs only [RR, RE, RP, RG, takeV, reduceEqDiff, ↓reduceIte, reduceCtorEq, reduceAdd, reduceLeDiff, reduceLT, Nat.reduceBEq, la, lf, d1]
  refine c24.use fun n3 hn3 => ?_
  simp -implicitDefEqProofs only [RR, RE, RP, RG, takeV, reduceEqDiff, ↓reduceIte, reduceCtorEq, reduceAdd, reduceLeDiff, reduceLT, Nat.reduceBEq, la, lf, d1, unA]
  refine c26.use fun n4 hn4 => ?_
  have n4n : (n4 = nx) = False := eq_false (by omega)
  simp -implicitDefEqProofs only [RR, RE, RP, RG, takeV, reduceEqDiff, ↓reduceIte, reduceCtorEq, reduceAdd, reduceLeDiff, reduceLT, Nat.reduceBEq, la, lf, d1, unA, n4n]
  have n4n' : (n4 = nx) → False := fun e => by omega
  refine go_rounds (fun q st => ∃ (i : Nat) (s1 : List Nat) (ck : Nat), q = p.arrays.length - i ∧ i ≤ p.arrays.length ∧ eget st.env 1 = some (.op nx 0) ∧ eget st.env 3 = some (.mp n4) ∧ eget st.env 32 = some (arsA p.arrays) ∧ eget st.env 33 = some (.int .i64 p.arrays.length) ∧ eget st.env 34 = some (.int .i64 i) ∧ hget st.heap nx = some (.cells [arsA p.arrays, fusA p.funcs]) ∧ hget st.heap n4 = some (.map ((insL [] ((p.arrays.take i).map Ar.name)).map entN) s1 ck) ∧ n4 < st.nx ∧ st.dm = []) (n := p.arrays.length) mixed
    ⟨0, [], 0, rfl, by omega, by simp [eget], by simp [eget], by simp [eget], by simp [eget], by simp [eget], by simp [hget, n4n], by simp [hget, insL], by simp, rfl⟩ ?_
  rintro q ⟨env, heap, nx', dm⟩ ⟨i, s1, ck, rfl, hi, g1, g3, g32, g33, g34, gx, gm, hnx, hdm⟩
  simp only at g1 g3 g32 g33 g34 gx gm hnx hdm
  subst hdm
  have f1 : IntKind.i64.wrap ((i : Int) + 1) = ((i + 1 : Nat) : Int) := by rw [w64 (by omega) (by omega)]; omega
  have m1 : (nx' = nx) = False := eq_false (by omega)
  have m2 : (nx' = n4) = False := eq_false (by omega)
  by_cases hc : (i : Int) < (p.arrays.length : Int)
  case pos =>
    have hr := List.getElem?_eq_getElem (show i < p.arrays.length by omega)
    generalize p.arrays[i] = r at hr
    have ix := ars_idx hr
    have re := arE_eq r
    obtain ⟨s2, ck2, hset⟩ := set_ins (h := (nx', AO.cells [.str r.name, .int .i64 r.width, .int .i64 r.len]) :: (nx', .cells [.str [], .int .i64 0, .int .i64 0]) :: heap) (b := n4) (K := insL [] ((p.arrays.take i).map Ar.name)) (st := s1) (ck := ck) (by simp only [hget, m2, if_false]; exact gm) r.name
    rw [← insL_take (g := Ar.name) [] hr] at hset
    simp -implicitDefEqProofs only [RR, RE, RP, RG, takeV, reduceEqDiff, ↓reduceIte, reduceCtorEq, reduceAdd, reduceLeDiff, reduceLT, Nat.reduceBEq, A7l0, A7l0p, g1, g3, g32, g33, g34, hc, ix, re, hset, f1]
    refine ⟨p.arrays.length - (i + 1), by omega, i + 1, s2, ck2, ?_⟩
    repeat' apply And.intro
    all_goals first | assumption | rfl | omega | (simp [eget, hget, *]; done)
  replace gm : hget heap n4 = some (.map ((insL [] (p.arrays.map Ar.name)).map entN) s1 ck) := by
    rw [show p.arrays.take i = p.arrays from List.take_of_length_le (by omega)] at gm; exact gm
  simp -implicitDefEqProofs only [RR, RE, RP, RG, takeV, reduceEqDiff, ↓reduceIte, reduceCtorEq, reduceAdd, reduceLeDiff, reduceLT, Nat.reduceBEq, A7l0, A7l0p, g1, g3, g32, g33, g34, hc, gx, lf]
  clear g32 g33 g34 hc f1 m1 m2
  refine go_rounds (fun q st => ∃ (i : Nat) (s1 : List Nat) (ck : Nat), q = p.funcs.length - i ∧ i ≤ p.funcs.length ∧ eget st.env 1 = some (.op nx 0) ∧ eget st.env 3 = some (.mp n4) ∧ eget st.env 43 = some (fusA p.funcs) ∧ eget st.env 44 = some (.int .i64 p.funcs.length) ∧ eget st.env 45 = some (.int .i64 i) ∧ hget st.heap nx = some (.cells [arsA p.arrays, fusA p.funcs]) ∧ hget st.heap n4 = some (.map ((insL (insL [] (p.arrays.map Ar.name)) ((p.funcs.take i).map Fu.name)).map entN) s1 ck) ∧ n4 < st.nx ∧ st.dm = []) (n := p.funcs.length) mixed
    ⟨0, s1, ck, rfl, by omega, by simp [eget, g1], by simp [eget, g3], by simp [eget], by simp [eget], by simp [eget], gx, by simpa [insL] using gm, hnx, rfl⟩ ?_
  clear g1 g3 gx gm hnx hi env heap nx' i s1 ck
  rintro q ⟨env, heap, nx', dm⟩ ⟨i, s1, ck, rfl, hi, g1, g3, g43, g44, g45, gx, gm, hnx, hdm⟩
  simp only at g1 g3 g43 g44 g45 gx gm hnx hdm
  subst hdm
  have f1 : IntKind.i64.wrap ((i : Int) + 1) = ((i + 1 : Nat) : Int) := by rw [w64 (by omega) (by omega)]; omega
  have m1 : (nx' = nx) = False := eq_false (by omega)
  have m2 : (nx' = n4) = False := eq_false (by omega)
  by_cases hc : (i : Int) < (p.funcs.length : Int)
  case pos =>
    have hr := List.getElem?_eq_getElem (show i < p.funcs.length by omega)
    generalize p.funcs[i] = r at hr
    have ix := fus_idx hr
    have re := fuE_eq r
    obtain ⟨s2, ck2, hset⟩ := set_ins (h := (nx', AO.cells [.str r.name, pmsA r.params, .int .i64 r.result, smsA r.body]) :: (nx', .cells [.str [], .nilS, .int .i64 0, .nilS]) :: heap) (b := n4) (K := insL (insL [] (p.arrays.map Ar.name)) ((p.funcs.take i).map Fu.name)) (st := s1) (ck := ck) (by simp only [hget, m2, if_false]; exact gm) r.name
    rw [← insL_take (g := Fu.name) _ hr] at hset
    simp -implicitDefEqProofs only [RR, RE, RP, RG, takeV, reduceEqDiff, ↓reduceIte, reduceCtorEq, reduceAdd, reduceLeDiff, reduceLT, Nat.reduceBEq, A7l1, A7l1p, g1, g3, g43, g44, g45, hc, ix, re, hset, f1, ↓c_pms, ↓p_pms, ↓c_sms, ↓p_sms]
    refine ⟨p.funcs.length - (i + 1), by omega, i + 1, s2, ck2, ?_⟩
    repeat' apply And.intro
    all_goals first | assumption | rfl | omega | (simp [eget, hget, *]; done)
  replace gm : hget heap n4 = some (.map ((insL [] (names p)).map entN) s1 ck) := by
    rw [show p.funcs.take i = p.funcs from List.take_of_length_le (by omega), ← insL_app] at gm; exact gm
  have hmo : mapOf heap (.mp n4) = some ((insL [] (names p)).map entN) := by simp only [mapOf, gm]
  have hml : (((insL [] (names p)).map entN).length : Int) = ((insL [] (names p)).length : Int) := by rw [List.length_map]
  have a1 : IntKind.i64.wrap ((p.arrays.length : Int) + (p.funcs.length : Int)) = ((names p).length : Int) := by
    rw [w64 (by omega) (by omega)]; simp [names]
  have hdup := insL_dup (names p)
  rcases dec_cases (((insL [] (names p)).length : Int) < ((names p).length : Int)) with ⟨d2', d2⟩ | ⟨d2', d2⟩
  case inl =>
    rw [if_neg (hdup.1 (by omega))] at hR
    simp -implicitDefEqProofs only [RR, RE, RP, RG, takeV, reduceEqDiff, ↓reduceIte, reduceCtorEq, reduceAdd, reduceLeDiff, reduceLT, Nat.reduceBEq, A7l1, A7l1p, g1, g3, g43, g44, g45, hc, gx, la, lf, hmo, hml, a1, d2, hR, R7]
  have hnd : (names p).Nodup := Classical.byContradiction fun hn => d2' (by have := hdup.2 hn; omega)
  rw [if_pos hnd] at hR
  simp -implicitDefEqProofs only [RR, RE, RP, RG, takeV, reduceEqDiff, ↓reduceIte, reduceCtorEq, reduceAdd, reduceLeDiff, reduceLT, Nat.reduceBEq, A7l1, A7l1p, g1, g3, g43, g44, g45, hc, gx, la, lf, hmo, hml, a1, d2]
  clear g43 g44 g45 hc f1 m1 m2 gm hmo g3
  refine go_rounds (fun q st => ∃ (i : Nat), q = p.funcs.length - i ∧ i ≤ p.funcs.length ∧ R = fsE p (p.funcs.drop i) ∧ eget st.env 1 = some (.op nx 0) ∧ eget st.env 64 = some (fusA p.funcs) ∧ eget st.env 65 = some (.int .i64 p.funcs.length) ∧ eget st.env 66 = some (.int .i64 i) ∧ hget st.heap nx = some (.cells [arsA p.arrays, fusA p.funcs]) ∧ nx < st.nx ∧ st.dm = []) (n := p.funcs.length) mixed
    ⟨0, rfl, by omega, hR.symm, by simp [eget, g1], by simp [eget], by simp [eget], by simp [eget], gx, (show nx < nx' by omega), rfl⟩ ?_
  clear g1 gx hnx hi env heap nx' i s1 ck
  rintro q ⟨env, heap, nx', dm⟩ ⟨i, rfl, hi, hRi, g1, g64, g65, g66, gx, hnx, hdm⟩
  simp only at g1 g64 g65 g66 gx hnx hdm
  subst hdm
  have f1 : IntKind.i64.wrap ((i : Int) + 1) = ((i + 1 : Nat) : Int) := by rw [w64 (by omega) (by omega)]; omega
  have m1 : (nx' = nx) = False := eq_false (by omega)
  by_cases hc : (i : Int) < (p.funcs.length : Int)
  case neg =>
    have hd : p.funcs.drop i = [] := List.drop_of_length_le (by omega)
    rw [hd, fsE] at hRi
    simp -implicitDefEqProofs only [RR, RE, RP, RG, takeV, reduceEqDiff, ↓reduceIte, reduceCtorEq, reduceAdd, reduceLeDiff, reduceLT, Nat.reduceBEq, A7l2, A7l2p, g1, g64, g65, g66, hc, hRi, R7]
  have hr := List.getElem?_eq_getElem (show i < p.funcs.length by omega)
  generalize p.funcs[i] = r at hr
  have ix := fus_idx hr
  have re := fuE_eq r
  have hmem := List.mem_of_getElem? hr
  rw [drop_cons hr, fsE] at hRi
  have c14 := w24 p r (by omega) (by omega) (fun g hg => by have := o.fp g hg; omega) (by have := o.fp r hmem; omega) (o.fb r hmem) (wfF_body (hwff r hmem)) ((nx', AO.cells [.str r.name, pmsA r.params, .int .i64 r.result, smsA r.body]) :: (nx', .cells [.str [], .nilS, .int .i64 0, .nilS]) :: heap) (nx' + 1)
  rw [hpe, re] at c14
  simp -implicitDefEqProofs only [RR, RE, RP, RG, takeV, reduceEqDiff, ↓reduceIte, reduceCtorEq, reduceAdd, reduceLeDiff, reduceLT, Nat.reduceBEq, A7l2, A7l2p, g1, g64, g65, g66, hc, ix, re, gx, m1, ↓c_pms, ↓p_pms, ↓c_sms, ↓p_sms]
  refine c14.mono ?_
  rintro y h2 m2 ⟨vv, kn', rfl, ho, _, hm2, hk2⟩
  have gx2 := hk2 nx (.cells [arsA p.arrays, fusA p.funcs]) (by omega) (by simp only [hget, m1, if_false]; exact gx)
  rcases dec_cases ((fnW p r).1 = 0) with ⟨d3', d3⟩ | ⟨d3', d3⟩
  case inr =>
    rw [if_neg d3'] at hRi
    simp -implicitDefEqProofs only [RR, RE, RP, RG, takeV, reduceEqDiff, ↓reduceIte, reduceCtorEq, reduceAdd, reduceLeDiff, reduceLT, Nat.reduceBEq, g1, g64, g65, g66, d3, hRi, R7]
  rw [if_pos d3'] at hRi
  simp -implicitDefEqProofs only [RR, RE, RP, RG, takeV, reduceEqDiff, ↓reduceIte, reduceCtorEq, reduceAdd, reduceLeDiff, reduceLT, Nat.reduceBEq, g1, g64, g65, g66, d3, f1]
  refine ⟨p.funcs.length - (i + 1), by omega, i + 1, ?_⟩
  repeat' apply And.intro
  all_goals first | assumption | rfl | omega | (simp [eget, *]; done)
end Go.Proofs.YtkfldbimfbacmaaGreatDoor
namespace Go.Proofs.YtkfldbimfbacmaaGreatDoor
open Go Go.Ab Go.Proofs
open Nat (reduceEqDiff reduceAdd reduceLeDiff reduceLT)
set_option linter.unusedVariables false
set_option linter.unusedSimpArgs false
set_option maxRecDepth 20000
def strE (s : Nm) : List AV := [.str s]
theorem strE_all (l : List Nm) : ∀ z ∈ l.map strE, z.length = 1 := fun z hz => by
  obtain ⟨r, _, rfl⟩ := List.mem_map.1 hz; rfl
def apartB (L : List Nm) (i : Nat) : Prop := ∀ a b x y, a < b → b < i → L[a]? = some x → L[b]? = some y → x ≠ y
theorem apartB_end {L : List Nm} {i : Nat} (hi : L.length ≤ i) (h : apartB L i) : L.Nodup := by
  rw [List.Nodup, List.pairwise_iff_getElem]
  intro a b ha hb hab
  exact h a b _ _ hab (by omega) (List.getElem?_eq_getElem ha) (List.getElem?_eq_getElem hb)
theorem apartB_step {L : List Nm} {i : Nat} {x : Nm} (hx : L[i]? = some x) (h : apartB L i) (hk : ∀ a y, a < i → L[a]? = some y → y ≠ x) : apartB L (i + 1) := fun a b y z hab hb hy hz => by
  by_cases e : b = i
  · subst e
    rw [hx] at hz; injection hz with hz; subst hz
    exact hk a y hab hy
  · exact h a b y z hab (by omega) hy hz
theorem apartB_bad {L : List Nm} {a i : Nat} {x : Nm} (ha : L[a]? = some x) (hi : L[i]? = some x) (hai : a < i) : ¬ L.Nodup := fun h => by
  rw [List.Nodup, List.pairwise_iff_getElem] at h
  have h1 := (List.getElem?_eq_some_iff.1 ha)
  have h2 := (List.getElem?_eq_some_iff.1 hi)
  obtain ⟨ha1, ha2⟩ := h1
  obtain ⟨hi1, hi2⟩ := h2
  exact h a i ha1 hi1 hai (by rw [ha2, hi2])
set_option maxHeartbeats 8000000 in
theorem w8 (p : Pr) (o : OkP p) : Pure Tryz.prog 8 [.agg (prE p)] (.int .i64 (ckE p)) := by
  refine Pure.of fun nx => AC.go mixed is8 (by simp) ?_
  have oal := o.al
  have ofl := o.fl
  have hpe := prE_eq p
  rw [hpe]
  have la := ars_len p.arrays
  have lf := fus_len p.funcs
  have c30 := w25 p (by omega) (by omega) (hvP_ok o)
  rw [hpe] at c30
  obtain ⟨R, hR⟩ : ∃ R, ckE p = R := ⟨_, rfl⟩
  rw [hR]
  unfold ckE at hR
  simp -implicitDefEqProofs only [RR, RE, RP, RG, takeV, reduceEqDiff, ↓reduceIte, reduceCtorEq, reduceAdd, reduceLeDiff, reduceLT, Nat.reduceBEq, A8, A8p, la, lf, ↓c_ars, ↓p_ars, ↓c_fus, ↓p_fus]
  refine c30.use fun n2 hn2 => ?_
  cases hhv : hvP p with
  | true =>
    rw [if_pos hhv] at hR
    simp -implicitDefEqProofs only [RR, RE, RP, RG, takeV, reduceEqDiff, ↓reduceIte, reduceCtorEq, reduceAdd, reduceLeDiff, reduceLT, Nat.reduceBEq, hR, R8]
  | false =>
  rw [hhv, if_neg (by simp)] at hR
  have c31 := w26 p (fun a ha => by have := o.an a ha; omega) (by omega) (by omega) fun f hf => ⟨by have := o.fn f hf; omega, fun v hv => by have := o.pn f hf v hv; omega, by have := o.fp f hf; omega, w53 f.body (by have := o.fb f hf; have := stmtsL_sz f.body; have := stmtsL_len f.body; omega) fun x hx => w81 _ x (Nat.le_refl _) (by have := o.fb f hf; have := szSL_mem hx; have := stmts_sz x; omega) (shS_sz x (by have := o.fb f hf; have := szSL_mem hx; omega))⟩
  rw [hpe] at c31
  simp -implicitDefEqProofs only [RR, RE, RP, RG, takeV, reduceEqDiff, ↓reduceIte, reduceCtorEq, reduceAdd, reduceLeDiff, reduceLT, Nat.reduceBEq, la, lf]
  refine c31.use fun n3 hn3 => ?_
  cases hwr : wfR p with
  | false =>
    rw [hwr, if_neg (by simp)] at hR
    simp -implicitDefEqProofs only [RR, RE, RP, RG, takeV, reduceEqDiff, ↓reduceIte, reduceCtorEq, reduceAdd, reduceLeDiff, reduceLT, Nat.reduceBEq, unA, hR, R8]
  | true =>
  rw [if_pos hwr] at hR
  have hwff : ∀ x ∈ p.funcs, wfF x = true := by
    unfold wfR at hwr
    simp only [Bool.and_eq_true] at hwr
    exact List.all_eq_true.1 hwr.1.2
  simp -implicitDefEqProofs only [RR, RE, RP, RG, takeV, reduceEqDiff, ↓reduceIte, reduceCtorEq, reduceAdd, reduceLeDiff, reduceLT, Nat.reduceBEq, unA]
  refine go_rounds (fun q st => ∃ (i : Nat) (z : AV), q = p.arrays.length - i ∧ i ≤ p.arrays.length ∧ eget st.env 1 = some (.op nx 0) ∧ eget st.env 3 = some z ∧ eget st.env 4 = some (.int .i64 i) ∧ hget st.heap nx = some (.cells [arsA p.arrays, fusA p.funcs]) ∧ OwnSl 9 1 st.heap st.nx z (((p.arrays.take i).map Ar.name).map strE) ∧ (∀ b, blkOf z = some b → nx < b) ∧ nx < st.nx ∧ st.dm = []) (n := p.arrays.length) mixed
    ⟨0, .nilS, rfl, by omega, by simp [eget], by simp [eget], by simp [eget], by simp [hget], .inl ⟨rfl, rfl⟩, by simp [blkOf], (show nx < n3 by omega), rfl⟩ ?_
  rintro q ⟨env, heap, nx', dm⟩ ⟨i, z, rfl, hi, g1, g3, g4, gx, ho, hzb, hnx, hdm⟩
  simp only at g1 g3 g4 gx ho hnx hdm
  subst hdm
  have f1 : IntKind.i64.wrap ((i : Int) + 1) = ((i + 1 : Nat) : Int) := by rw [w64 (by omega) (by omega)]; omega
  have hzn : blkOf z ≠ some nx := fun e => by have := hzb nx e; omega
  by_cases hc : (i : Int) < (p.arrays.length : Int)
  case pos =>
    have hr := List.getElem?_eq_getElem (show i < p.arrays.length by omega)
    generalize p.arrays[i] = r at hr
    have ix := ars_idx hr
    have re := arE_eq r
    have hlt : (p.arrays.take i).length ≤ p.arrays.length := by rw [List.length_take]; omega
    obtain ⟨z', h3, n4, ea, ow, hn4, hk3, hb3⟩ := ho.grw (bytes := 16) (ns := [strE r.name]) (strE_all _) (by simp [strE]) (by simp only [List.length_map, List.length_cons, List.length_nil]; omega) (by simp only [List.length_map, List.length_cons, List.length_nil, maxLen]; omega)
    have ea' : appA 9 1 16 heap nx' z (.lst 1 [[.str r.name]]) = some (z', h3, n4) := ea
    simp -implicitDefEqProofs only [RR, RE, RP, RG, takeV, reduceEqDiff, ↓reduceIte, reduceCtorEq, reduceAdd, reduceLeDiff, reduceLT, Nat.reduceBEq, A8l0, A8l0p, g1, g3, g4, gx, la, hc, ix, re, ea', f1]
    have how : OwnSl 9 1 h3 n4 z' (((p.arrays.take (i + 1)).map Ar.name).map strE) := by
      rw [take_succ hr, List.map_append, List.map_append]; exact ow
    have gx2 := hk3 nx _ hnx gx hzn
    have hzb2 : ∀ b, blkOf z' = some b → nx < b := fun b hb => by
      rcases hb3 b hb with h | h
      · omega
      · exact hzb b h
    refine ⟨p.arrays.length - (i + 1), by omega, i + 1, z', ?_⟩
    repeat' (first | exact how | apply And.intro)
    all_goals first | assumption | rfl | omega | (simp [eget, *]; done)
  rw [show p.arrays.take i = p.arrays from List.take_of_length_le (by omega)] at ho
  simp -implicitDefEqProofs only [RR, RE, RP, RG, takeV, reduceEqDiff, ↓reduceIte, reduceCtorEq, reduceAdd, reduceLeDiff, reduceLT, Nat.reduceBEq, A8l0, A8l0p, g1, g3, g4, hc, gx, la]
  clear g4 hc f1
  refine go_roundsF (fun q st => ∃ (i : Nat) (z : AV), q = p.funcs.length - i ∧ i ≤ p.funcs.length ∧ eget st.env 1 = some (.op nx 0) ∧ eget st.env 3 = some z ∧ eget st.env 5 = some (.int .i64 i) ∧ hget st.heap nx = some (.cells [arsA p.arrays, fusA p.funcs]) ∧ OwnSl 9 1 st.heap st.nx z ((p.arrays.map Ar.name ++ (p.funcs.take i).map Fu.name).map strE) ∧ (∀ b, blkOf z = some b → nx < b) ∧ nx < st.nx ∧ st.dm = []) 2
    (fun st => ∃ (z : AV), eget st.env 1 = some (.op nx 0) ∧ eget st.env 3 = some z ∧ hget st.heap nx = some (.cells [arsA p.arrays, fusA p.funcs]) ∧ OwnSl 9 1 st.heap st.nx z ((names p).map strE) ∧ (∀ b, blkOf z = some b → nx < b) ∧ nx < st.nx ∧ st.dm = []) (n := p.funcs.length) mixed
    ⟨0, z, rfl, by omega, by simp [eget, g1], by simp [eget, g3], by simp [eget], gx, by simpa using ho, hzb, hnx, rfl⟩ ?_ ?_
  · clear g1 g3 gx ho hzb hzn hnx hi env heap nx' i z
    rintro q ⟨env, heap, nx', dm⟩ ⟨i, z, rfl, hi, g1, g3, g5, gx, ho, hzb, hnx, hdm⟩
    simp only at g1 g3 g5 gx ho hnx hdm
    subst hdm
    have f1 : IntKind.i64.wrap ((i : Int) + 1) = ((i + 1 : Nat) : Int) := by rw [w64 (by omega) (by omega)]; omega
    have hzn : blkOf z ≠ some nx := fun e => by have := hzb nx e; omega
    by_cases hc : (i : Int) < (p.funcs.length : Int)
    case pos =>
      have hr := List.getElem?_eq_getElem (show i < p.funcs.length by omega)
      generalize p.funcs[i] = r at hr
      have ix := fus_idx hr
      have re := fuE_eq r
      have hlt : (p.funcs.take i).length ≤ p.funcs.length := by rw [List.length_take]; omega
      obtain ⟨z', h3, n4, ea, ow, hn4, hk3, hb3⟩ := ho.grw (bytes := 16) (ns := [strE r.name]) (strE_all _) (by simp [strE]) (by simp only [List.length_map, List.length_append, List.length_cons, List.length_nil]; omega) (by simp only [List.length_map, List.length_append, List.length_cons, List.length_nil, maxLen]; omega)
      have ea' : appA 9 1 16 heap nx' z (.lst 1 [[.str r.name]]) = some (z', h3, n4) := ea
      simp -implicitDefEqProofs only [RR, RE, RP, RG, takeV, reduceEqDiff, ↓reduceIte, reduceCtorEq, reduceAdd, reduceLeDiff, reduceLT, Nat.reduceBEq, exitJ_e, exitJ_r, exitJ_p, exitJ_n, A8l1, A8l1p, g1, g3, g5, gx, lf, hc, ix, re, ea', f1]
      have how : OwnSl 9 1 h3 n4 z' ((p.arrays.map Ar.name ++ (p.funcs.take (i + 1)).map Fu.name).map strE) := by
        have e : p.arrays.map Ar.name ++ (p.funcs.take (i + 1)).map Fu.name = (p.arrays.map Ar.name ++ (p.funcs.take i).map Fu.name) ++ [r.name] := by rw [take_succ hr, List.map_append, ← List.append_assoc]; rfl
        rw [e, List.map_append]; exact ow
      have gx2 := hk3 nx _ hnx gx hzn
      have hzb2 : ∀ b, blkOf z' = some b → nx < b := fun b hb => by
        rcases hb3 b hb with h | h
        · omega
        · exact hzb b h
      refine ⟨p.funcs.length - (i + 1), by omega, i + 1, z', ?_⟩
      repeat' (first | exact how | apply And.intro)
      all_goals first | assumption | rfl | omega | (simp [eget, *]; done)
    rw [show p.funcs.take i = p.funcs from List.take_of_length_le (by omega)] at ho
    simp -implicitDefEqProofs only [RR, RE, RP, RG, takeV, reduceEqDiff, ↓reduceIte, reduceCtorEq, reduceAdd, reduceLeDiff, reduceLT, Nat.reduceBEq, exitJ_e, exitJ_r, exitJ_p, exitJ_n, A8l1, A8l1p, g1, g3, g5, hc, gx, lf]
    repeat' (first | exact ho | apply And.intro)
    all_goals first | assumption | rfl | omega | (simp [eget, *]; done)
  clear g1 g3 gx ho hzb hzn hnx hi env heap nx' i z
  rintro ⟨env, hp0, nx', dm⟩ ⟨z, g1, g3, gx0, ho, hzb, hnx, hdm⟩
  simp only at g1 g3 gx0 ho hnx hdm
  subst hdm
  obtain ⟨heap, hfz, hk4⟩ := ho.frz2 (strE_all _)
  have gx := hk4 nx _ gx0 fun y e => by
    have := hzb nx (by rw [e]; rfl)
    omega
  refine ⟨3, z, strsA (names p), heap, g3, hfz, ?_⟩
  clear hk4 hfz ho hzb gx0 g3
  have ls := strs_len (names p)
  have hnl : (names p).length = p.arrays.length + p.funcs.length := by simp [names]
  simp -implicitDefEqProofs only [RR, RE, RP, RG, takeV, reduceEqDiff, ↓reduceIte, reduceCtorEq, reduceAdd, reduceLeDiff, reduceLT, Nat.reduceBEq]
  refine go_rounds (fun q st => ∃ (i : Nat), q = (names p).length - i ∧ i ≤ (names p).length ∧ apartB (names p) i ∧ eget st.env 1 = some (.op nx 0) ∧ eget st.env 3 = some (strsA (names p)) ∧ eget st.env 6 = some (.int .i64 i) ∧ hget st.heap nx = some (.cells [arsA p.arrays, fusA p.funcs]) ∧ nx < st.nx ∧ st.dm = []) (n := (names p).length) mixed
    ⟨0, rfl, by omega, fun a b x y h1 h2 => by omega, by simp [eget, g1], by simp [eget], by simp [eget], gx, hnx, rfl⟩ ?_
  clear g1 gx hnx env heap nx'
  rintro q ⟨env, heap, nx', dm⟩ ⟨i, rfl, hi, hap, g1, g3, g6, gx, hnx, hdm⟩
  simp only at g1 g3 g6 gx hnx hdm
  subst hdm
  have f1 : IntKind.i64.wrap ((i : Int) + 1) = ((i + 1 : Nat) : Int) := by rw [w64 (by omega) (by omega)]; omega
  by_cases hc : (i : Int) < ((names p).length : Int)
  case pos =>
    have hr := List.getElem?_eq_getElem (show i < (names p).length by omega)
    generalize (names p)[i] = r at hr
    have ix := strs_idx hr
    simp -implicitDefEqProofs only [RR, RE, RP, RG, takeV, reduceEqDiff, ↓reduceIte, reduceCtorEq, reduceAdd, reduceLeDiff, reduceLT, Nat.reduceBEq, A8l3, A8l3p, g1, g3, g6, ls, hc]
    refine go_rounds (fun q st => ∃ (k : Nat), q = i - k ∧ k ≤ i ∧ (∀ a y, a < k → (names p)[a]? = some y → y ≠ r) ∧ eget st.env 1 = some (.op nx 0) ∧ eget st.env 3 = some (strsA (names p)) ∧ eget st.env 6 = some (.int .i64 i) ∧ eget st.env 7 = some (.int .i64 k) ∧ hget st.heap nx = some (.cells [arsA p.arrays, fusA p.funcs]) ∧ nx < st.nx ∧ st.dm = []) (n := i) mixed
      ⟨0, rfl, by omega, fun a y h1 => by omega, by simp [eget, g1], by simp [eget, g3], by simp [eget, g6], by simp [eget], gx, hnx, rfl⟩ ?_
    clear g1 g3 g6 gx hnx env heap nx'
    rintro q ⟨env, heap, nx', dm⟩ ⟨k, rfl, hk, hne, g1, g3, g6, g7, gx, hnx, hdm⟩
    simp only at g1 g3 g6 g7 gx hnx hdm
    subst hdm
    have k1 : IntKind.i64.wrap ((k : Int) + 1) = ((k + 1 : Nat) : Int) := by rw [w64 (by omega) (by omega)]; omega
    by_cases hck : (k : Int) < (i : Int)
    case neg =>
      have hap2 := apartB_step hr hap fun a y ha hy => hne a y (by omega) hy
      simp -implicitDefEqProofs only [RR, RE, RP, RG, takeV, reduceEqDiff, ↓reduceIte, reduceCtorEq, reduceAdd, reduceLeDiff, reduceLT, Nat.reduceBEq, A8l2, A8l2p, g1, g3, g6, g7, hck, f1]
      refine ⟨(names p).length - (i + 1), by omega, i + 1, ?_⟩
      repeat' (first | exact hap2 | apply And.intro)
      all_goals first | assumption | rfl | omega | (simp [eget, *]; done)
    have hr2 := List.getElem?_eq_getElem (show k < (names p).length by omega)
    generalize (names p)[k] = r2 at hr2
    have ix2 := strs_idx hr2
    cases hq : (r2 == r) with
    | true =>
      have e := eq_of_beq hq
      subst e
      rw [if_neg (apartB_bad hr2 hr (by omega))] at hR
      simp -implicitDefEqProofs only [RR, RE, RP, RG, takeV, reduceEqDiff, ↓reduceIte, reduceCtorEq, reduceAdd, reduceLeDiff, reduceLT, Nat.reduceBEq, A8l2, A8l2p, g1, g3, g6, g7, hck, ix, ix2, b_str, strA, hq, hR, R8]
    | false =>
      have hne2 : ∀ a y, a < k + 1 → (names p)[a]? = some y → y ≠ r := fun a y ha hy => by
        by_cases e : a = k
        · subst e
          rw [hr2] at hy; injection hy with hy; subst hy
          intro e2; subst e2; simp at hq
        · exact hne a y (by omega) hy
      simp -implicitDefEqProofs only [RR, RE, RP, RG, takeV, reduceEqDiff, ↓reduceIte, reduceCtorEq, reduceAdd, reduceLeDiff, reduceLT, Nat.reduceBEq, A8l2, A8l2p, g1, g3, g6, g7, hck, ix, ix2, b_str, strA, hq, k1]
      refine ⟨i - (k + 1), by omega, k + 1, ?_⟩
      repeat' (first | exact hne2 | apply And.intro)
      all_goals first | assumption | rfl | omega | (simp [eget, *]; done)
  have hnd := apartB_end (by omega) hap
  rw [if_pos hnd] at hR
  simp -implicitDefEqProofs only [RR, RE, RP, RG, takeV, reduceEqDiff, ↓reduceIte, reduceCtorEq, reduceAdd, reduceLeDiff, reduceLT, Nat.reduceBEq, A8l3, A8l3p, g1, g3, g6, ls, hc]
  clear g3 g6 hc f1
  refine go_rounds (fun q st => ∃ (i : Nat), q = p.funcs.length - i ∧ i ≤ p.funcs.length ∧ R = fsE p (p.funcs.drop i) ∧ eget st.env 1 = some (.op nx 0) ∧ eget st.env 8 = some (.int .i64 i) ∧ hget st.heap nx = some (.cells [arsA p.arrays, fusA p.funcs]) ∧ nx < st.nx ∧ st.dm = []) (n := p.funcs.length) mixed
    ⟨0, rfl, by omega, hR.symm, by simp [eget, g1], by simp [eget], gx, hnx, rfl⟩ ?_
  clear g1 gx hnx hi hap env heap nx' i
  rintro q ⟨env, heap, nx', dm⟩ ⟨i, rfl, hi, hRi, g1, g8, gx, hnx, hdm⟩
  simp only at g1 g8 gx hnx hdm
  subst hdm
  have f1 : IntKind.i64.wrap ((i : Int) + 1) = ((i + 1 : Nat) : Int) := by rw [w64 (by omega) (by omega)]; omega
  by_cases hc : (i : Int) < (p.funcs.length : Int)
  case neg =>
    have hd : p.funcs.drop i = [] := List.drop_of_length_le (by omega)
    rw [hd, fsE] at hRi
    simp -implicitDefEqProofs only [RR, RE, RP, RG, takeV, reduceEqDiff, ↓reduceIte, reduceCtorEq, reduceAdd, reduceLeDiff, reduceLT, Nat.reduceBEq, A8l4, A8l4p, g1, g8, gx, lf, hc, hRi, R8]
  have hr := List.getElem?_eq_getElem (show i < p.funcs.length by omega)
  generalize p.funcs[i] = r at hr
  have hmem := List.mem_of_getElem? hr
  rw [drop_cons hr, fsE] at hRi
  have c16 := w27 p i r hr (by omega) (by omega) (fun g hg => by have := o.fp g hg; omega) (by have := o.fp r hmem; omega) (o.fb r hmem) (wfF_body (hwff r hmem)) heap nx'
  rw [hpe] at c16
  simp -implicitDefEqProofs only [RR, RE, RP, RG, takeV, reduceEqDiff, ↓reduceIte, reduceCtorEq, reduceAdd, reduceLeDiff, reduceLT, Nat.reduceBEq, A8l4, A8l4p, g1, g8, gx, lf, hc]
  refine c16.mono ?_
  rintro y h2 m2 ⟨vv, kn', rfl, ho, _, hm2, hk2⟩
  have gx2 := hk2 nx _ hnx gx
  rcases dec_cases ((fnW p r).1 = 0) with ⟨d3', d3⟩ | ⟨d3', d3⟩
  case inr =>
    rw [if_neg d3'] at hRi
    simp -implicitDefEqProofs only [RR, RE, RP, RG, takeV, reduceEqDiff, ↓reduceIte, reduceCtorEq, reduceAdd, reduceLeDiff, reduceLT, Nat.reduceBEq, g1, g8, d3, hRi, R8]
  rw [if_pos d3'] at hRi
  simp -implicitDefEqProofs only [RR, RE, RP, RG, takeV, reduceEqDiff, ↓reduceIte, reduceCtorEq, reduceAdd, reduceLeDiff, reduceLT, Nat.reduceBEq, g1, g8, d3, f1]
  refine ⟨p.funcs.length - (i + 1), by omega, i + 1, ?_⟩
  repeat' apply And.intro
  all_goals first | assumption | rfl | omega | (simp [eget, *]; done)
end Go.Proofs.YtkfldbimfbacmaaGreatDoor
namespace Go.Proofs.YtkfldbimfbacmaaGreatDoor
open Go Go.Ab Go.Proofs
open Nat (reduceEqDiff reduceAdd reduceLeDiff reduceLT)
set_option linter.unusedVariables false
set_option linter.unusedSimpArgs false
set_option maxRecDepth 20000
theorem dLK2_some {P : Program} {own : Nat → Nat → Bool} {ro : Option Nat} {N : Nat} {F : List Fr} {Q : AX → ASt → Prop} (d : DStep) (r : List DStep) (pd : Pend) (st : ASt) (sz : Nat) (ag : Bool) (p x : AV) :
    dLK2 P own ro N F Q d r pd st sz ag p (some x) = dg P own ro N F Q r (if p.isFp = true then pd else (d.i, sz, ag, p, x) :: pd) { st with env := setE d.s.dst x st.env } := rfl
theorem Rd.rel {h : Heap} {nx : Nat} {v : AV} {l : List Pm} (hr : Rd h nx v l) {i : Nat} {r : Pm} (hi : l[i]? = some r) : ∃ q, idxA 2 v (i : Int) = some q ∧ reload h 2 true q = some (.agg (pmE r)) := by
  obtain ⟨q, cs, h1, h2, h3, h4⟩ := hr.row hi
  refine ⟨q, h1, ?_⟩
  have h5 : 2 ≤ cs.length := of_eq_true h3
  simp [reload, h2, takeV, h5, h4]
theorem w31 (x y : AV) (a b : List Pm) (h : Heap) (nx : Nat) (hx : Rd h nx x a) (hy : Rd h nx y b) (hla : a.length ≤ 1000000) (hlb : b.length ≤ 1000000) :
    AC Tryz.prog 31 [x, y] h nx fun z h' n' => z = .ret (.bool (decide (a = b))) ∧ h' = h ∧ nx ≤ n' := by
  refine AC.go mixed is31 (by simp) ?_
  have hlx := hx.len
  have hly := hy.len
  by_cases hl : (a.length : Int) = (b.length : Int)
  case neg =>
    have hne : (a = b) = False := eq_false fun e => hl (by rw [e])
    simp -implicitDefEqProofs only [RR, RE, RP, RG, takeV, reduceEqDiff, ↓reduceIte, reduceCtorEq, reduceAdd, reduceLeDiff, reduceLT, Nat.reduceBEq, A31, A31p, hlx, hly, hl, hne, R31]
  simp -implicitDefEqProofs only [RR, RE, RP, RG, takeV, reduceEqDiff, ↓reduceIte, reduceCtorEq, reduceAdd, reduceLeDiff, reduceLT, Nat.reduceBEq, A31, A31p, hlx, hly, hl]
  refine go_rounds (fun q st => ∃ i : Nat, q = a.length - i ∧ i ≤ a.length ∧ (∀ j, j < i → a[j]? = b[j]?) ∧ eget st.env 0 = some x ∧ eget st.env 1 = some y ∧ eget st.env 5 = some (.int .i64 i) ∧ st.dm = [] ∧ st.heap = h ∧ nx ≤ st.nx) (n := a.length) mixed
    ⟨0, rfl, by omega, fun j hj => by omega, by simp [eget], by simp [eget], by simp [eget], rfl, rfl, Nat.le_refl _⟩ ?_
  rintro q ⟨env, heap, nx', dm⟩ ⟨i, rfl, hi, he, h0, h1, h5, hdm, hh, hnx⟩
  simp only at h0 h1 h5 hdm hh hnx
  subst hdm; subst hh
  by_cases hc : (i : Int) < (a.length : Int)
  case neg =>
    have heq : (a = b) = True := eq_true (by
      apply List.ext_getElem?
      intro j
      rcases Nat.lt_or_ge j a.length with h | h
      · exact he j (by omega)
      · rw [List.getElem?_eq_none h, List.getElem?_eq_none (by omega)])
    simp -implicitDefEqProofs only [RR, RE, RP, RG, takeV, reduceEqDiff, ↓reduceIte, reduceCtorEq, reduceAdd, reduceLeDiff, reduceLT, Nat.reduceBEq, A31l0, A31l0p, h0, h5, hlx, hc, heq, R31]
    exact hnx
  have hra := List.getElem?_eq_getElem (show i < a.length by omega)
  have hrb := List.getElem?_eq_getElem (show i < b.length by omega)
  generalize a[i] = ra at hra
  generalize b[i] = rb at hrb
  obtain ⟨p, hp1, hp2⟩ := hx.rel hra
  obtain ⟨p', hp1', hp2'⟩ := hy.rel hrb
  have f1 : IntKind.i64.wrap ((i : Int) + 1) = ((i + 1 : Nat) : Int) := by rw [w64 (by omega) (by omega)]; omega
  by_cases hab : ra = rb
  · have heq : eqL [.str, .int] (pmE ra) (pmE rb) = some true := by subst hab; simp [eqL, eqC, pmE]
    simp -implicitDefEqProofs only [RR, RE, RG, takeV, reduceEqDiff, ↓reduceIte, reduceCtorEq, reduceAdd, reduceLeDiff, reduceLT, Nat.reduceBEq, A31l0, A31l0p, h0, h1, h5, hlx, hc, hp1, hp1', hp2, hp2', dLK2_some, heq, f1]
    refine ⟨a.length - (i + 1), by omega, i + 1, rfl, by omega, fun j hj => ?_, rfl, hnx⟩
    rcases Nat.lt_or_ge j i with h | h
    · exact he j h
    · obtain rfl : j = i := by omega
      rw [hra, hrb, hab]
  · have heq : eqL [.str, .int] (pmE ra) (pmE rb) = some false := by
      have : ¬ (ra.1 = rb.1 ∧ ra.2 = rb.2) := fun h => hab (Prod.ext h.1 h.2)
      simp only [eqL, eqC, pmE]
      by_cases h1 : ra.1 = rb.1 <;> by_cases h2 : ra.2 = rb.2 <;> simp [h1, h2] at this ⊢
    have hne : (a = b) = False := eq_false fun e => by rw [e, hrb] at hra; injection hra with hra; exact hab hra.symm
    simp -implicitDefEqProofs only [RR, RE, RG, takeV, reduceEqDiff, ↓reduceIte, reduceCtorEq, reduceAdd, reduceLeDiff, reduceLT, Nat.reduceBEq, A31l0, A31l0p, h0, h1, h5, hlx, hc, hp1, hp1', hp2, hp2', dLK2_some, heq, hne, R31]
    exact hnx
end Go.Proofs.YtkfldbimfbacmaaGreatDoor
