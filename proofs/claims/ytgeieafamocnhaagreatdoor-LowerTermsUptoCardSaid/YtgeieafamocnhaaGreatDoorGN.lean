/- Checking a program. -/
import Derived.Test.YtgeieafamocnhaaGreatDoorGM
namespace Go.Proofs.YtgeieafamocnhaaGreatDoor
open Go Go.Ab Go.Proofs
open Nat (reduceEqDiff reduceAdd reduceLeDiff reduceLT)
set_option linter.unusedVariables false
set_option linter.unusedSimpArgs false
set_option maxRecDepth 20000
structure OkP (p : Pr) : Prop where
  al : p.arrays.length ≤ 20
  fl : p.funcs.length ≤ 20
  an : ∀ a ∈ p.arrays, a.name.length ≤ 5000
  fp : ∀ f ∈ p.funcs, f.params.length ≤ 50
  fn : ∀ f ∈ p.funcs, f.name.length ≤ 5000
  pn : ∀ f ∈ p.funcs, ∀ v ∈ f.params, v.1.length ≤ 5000
  fb : ∀ f ∈ p.funcs, szSL f.body ≤ 5000
def names (p : Pr) : List Nm := p.arrays.map Ar.name ++ p.funcs.map Fu.name
def fsE (p : Pr) : List Fu → Int
  | [] => 0
  | f :: r => if (fnW p f).1 = 0 then fsE p r else (fnW p f).1
def ckE (p : Pr) : Int :=
  if hvP p = true then 4 else if wfR p = true then (if (names p).Nodup then fsE p p.funcs else 18) else 8
def ins (K : List Nm) (n : Nm) : List Nm := if n ∈ K then K else K ++ [n]
def entN (n : Nm) : AV × AV := (.str n, .bool true)
theorem find_in (n : Nm) : ∀ (K : List Nm) (i : Nat), n ∈ K → ∃ j, findA .str (.str n) (K.map entN) i = some (some (i + j, .bool true)) ∧ K[j]? = some n
  | [], i, h => by simp at h
  | m :: K, i, h => by
    by_cases e : n = m
    · subst e
      exact ⟨0, by simp [findA, entN, eqC], rfl⟩
    · have hk : n ∈ K := by
        rcases List.mem_cons.1 h with h | h
        · exact absurd h e
        · exact h
      obtain ⟨j, h1, h2⟩ := find_in n K (i + 1) hk
      refine ⟨j + 1, ?_, by simpa using h2⟩
      have ne : (n == m) = false := by simpa using e
      simp only [List.map_cons, findA, entN, eqC, ne]
      rw [show i + (j + 1) = i + 1 + j by omega]
      exact h1
theorem find_out (n : Nm) : ∀ (K : List Nm) (i : Nat), n ∉ K → findA .str (.str n) (K.map entN) i = some none
  | [], i, h => rfl
  | m :: K, i, h => by
    have e : ¬ n = m := fun e => h (by simp [e])
    have hk : n ∉ K := fun hk => h (by simp [hk])
    have ne : (n == m) = false := by simpa using e
    simp only [List.map_cons, findA, entN, eqC, ne]
    exact find_out n K (i + 1) hk
theorem set_ins {h : Heap} {b : Nat} {K : List Nm} {st : List Nat} {ck : Nat} (hb : hget h b = some (.map (K.map entN) st ck)) (n : Nm) : ∃ st' ck', setA h .str (.mp b) (.str n) (.bool true) = some (hset h b (.map ((ins K n).map entN) st' ck')) := by
  by_cases hn : n ∈ K
  · obtain ⟨j, h1, h2⟩ := find_in n K 0 hn
    refine ⟨st, ck, ?_⟩
    simp only [setA, hb, isKey, if_true, h1, Nat.zero_add, ins, if_pos hn]
    congr 3
    have : (K.map entN)[j]? = some (entN n) := by rw [List.getElem?_map, h2]; rfl
    apply List.ext_getElem?
    intro t
    rw [List.getElem?_set]
    split
    · rename_i e; subst e
      have hlt := (List.getElem?_eq_some_iff.1 this).1
      rw [if_pos hlt, this]; rfl
    · rfl
  · refine ⟨st ++ [ck], ck + 1, ?_⟩
    simp only [setA, hb, isKey, if_true, find_out n K 0 hn, ins, if_neg hn, List.map_append, List.map_cons, List.map_nil, entN]
def insL (K L : List Nm) : List Nm := L.foldl ins K
theorem insL_len : ∀ (L K : List Nm), (insL K L).length ≤ K.length + L.length ∧ ((insL K L).length = K.length + L.length ↔ (L.Nodup ∧ ∀ n ∈ L, n ∉ K))
  | [], K => by simp [insL]
  | n :: L, K => by
    have h := insL_len L (ins K n)
    have e : insL K (n :: L) = insL (ins K n) L := rfl
    rw [e]
    by_cases hn : n ∈ K
    · have e2 : ins K n = K := if_pos hn
      rw [e2] at h ⊢
      refine ⟨by simp only [List.length_cons]; omega, ⟨fun h3 => ?_, fun h3 => absurd hn (h3.2 n (by simp))⟩⟩
      simp only [List.length_cons] at h3; omega
    · have e2 : ins K n = K ++ [n] := if_neg hn
      rw [e2] at h ⊢
      simp only [List.length_append, List.length_cons, List.length_nil] at h ⊢
      refine ⟨by omega, ?_⟩
      rw [show K.length + (L.length + 1) = K.length + (0 + 1) + L.length by omega, h.2, List.nodup_cons]
      constructor
      · rintro ⟨h1, h2⟩
        refine ⟨⟨fun hnl => ?_, h1⟩, fun m hm => ?_⟩
        · exact h2 n hnl (by simp)
        · rcases List.mem_cons.1 hm with rfl | hm
          · exact hn
          · exact fun hk => h2 m hm (by simp [hk])
      · rintro ⟨⟨h1, h2⟩, h3⟩
        refine ⟨h2, fun m hm => ?_⟩
        intro hk
        rcases List.mem_append.1 hk with hk | hk
        · exact h3 m (by simp [hm]) hk
        · simp at hk; subst hk; exact h1 hm
theorem insL_dup (L : List Nm) : ((insL [] L).length < L.length) ↔ ¬ L.Nodup := by
  have h := insL_len L []
  simp only [List.length_nil, Nat.zero_add, List.not_mem_nil, not_false_eq_true, implies_true, and_true] at h
  rw [← h.2]; omega
theorem insL_app (K A B : List Nm) : insL K (A ++ B) = insL (insL K A) B := List.foldl_append
theorem insL_take {α : Type} {g : α → Nm} {l : List α} {i : Nat} {x : α} (K : List Nm) (h : l[i]? = some x) : insL K ((l.take (i + 1)).map g) = ins (insL K ((l.take i).map g)) (g x) := by
  rw [take_succ h, List.map_append, insL_app]; rfl
theorem wfF_body {f : Fu} (h : wfF f = true) : ∀ x ∈ f.body, wfS x = true := by
  unfold wfF at h
  simp only [Bool.and_eq_true] at h
  exact List.all_eq_true.1 h.2
theorem hvP_ok {p : Pr} (o : OkP p) : ∀ f ∈ p.funcs, f.params.length ≤ 1152921504606846976 ∧ stmtsL f.body ≤ 1152921504606846976 ∧ shSL f.body := fun f hf => by
  have h1 := o.fp f hf
  have h2 := o.fb f hf
  have h3 := stmtsL_sz f.body
  exact ⟨by omega, by omega, shSL_sz _ (by omega)⟩
set_option maxHeartbeats 8000000 in
theorem w40 (p : Pr) (o : OkP p) : Pure Tryz.prog 40 [.agg (prE p)] (.int .i64 (ckE p)) := by
  refine Pure.of fun nx => AC.go mixed is40 (by simp) ?_
  have oal := o.al
  have ofl := o.fl
  have hpe := prE_eq p
  rw [hpe]
  have la := ars_len p.arrays
  have lf := fus_len p.funcs
  have c23 := w85 p (by omega) (by omega) (hvP_ok o)
  rw [hpe] at c23
  obtain ⟨R, hR⟩ : ∃ R, ckE p = R := ⟨_, rfl⟩
  rw [hR]
  unfold ckE at hR
  simp -implicitDefEqProofs only [RR, RE, RP, RG, takeV, reduceEqDiff, ↓reduceIte, reduceCtorEq, reduceAdd, reduceLeDiff, reduceLT, Nat.reduceBEq, A40, A40p, la, lf, ↓c_ars, ↓p_ars, ↓c_fus, ↓p_fus]
  refine c23.use fun n2 hn2 => ?_
  cases hhv : hvP p with
  | true =>
    rw [if_pos hhv] at hR
    simp -implicitDefEqProofs only [RR, RE, RP, RG, takeV, reduceEqDiff, ↓reduceIte, reduceCtorEq, reduceAdd, reduceLeDiff, reduceLT, Nat.reduceBEq, hR, R40]
  | false =>
  rw [hhv, if_neg (by simp)] at hR
  have z0 : ((p.funcs.length : Int) = 0) ∨ ¬ ((p.funcs.length : Int) = 0) := Classical.em _
  have c24 := w86 wfA p.arrays (by omega) fun a ha => w87 a (by have := o.an a ha; omega)
  have c26 := w88 wfF p.funcs (by omega) fun f hf => w89 f (by have := o.fn f hf; omega) (fun v hv => by have := o.pn f hf v hv; omega) (by have := o.fp f hf; omega) (by have := o.fb f hf; have := stmtsL_sz f.body; have := stmtsL_len f.body; omega) fun x hx => w127 _ x (Nat.le_refl _) (by have := o.fb f hf; have := szSL_mem hx; have := stmts_sz x; omega) (shS_sz x (by have := o.fb f hf; have := szSL_mem hx; omega))
  rcases dec_cases ((p.funcs.length : Int) = 0) with ⟨d1', d1⟩ | ⟨d1', d1⟩
  case inl =>
    have e1 : wfR p = false := by
      simp only [wfR, Bool.and_eq_false_iff, decide_eq_false_iff_not]; right; omega
    rw [e1, if_neg (by simp)] at hR
    simp -implicitDefEqProofs only [RR, RE, RP, RG, takeV, reduceEqDiff, ↓reduceIte, reduceCtorEq, reduceAdd, reduceLeDiff, reduceLT, Nat.reduceBEq, la, lf, d1, hR, R40]
  have e0 : decide (0 < p.funcs.length) = true := decide_eq_true (by omega)
  cases ha : p.arrays.all wfA with
  | false =>
    rw [ha] at c24
    have e1 : wfR p = false := by simp [wfR, ha]
    rw [e1, if_neg (by simp)] at hR
    simp -implicitDefEqProofs only [RR, RE, RP, RG, takeV, reduceEqDiff, ↓reduceIte, reduceCtorEq, reduceAdd, reduceLeDiff, reduceLT, Nat.reduceBEq, la, lf, d1]
    refine c24.use fun n3 hn3 => ?_
    simp -implicitDefEqProofs only [RR, RE, RP, RG, takeV, reduceEqDiff, ↓reduceIte, reduceCtorEq, reduceAdd, reduceLeDiff, reduceLT, Nat.reduceBEq, la, lf, d1, unA, hR, R40]
  | true =>
  rw [ha] at c24
  cases hf : p.funcs.all wfF with
  | false =>
    rw [hf] at c26
    have e1 : wfR p = false := by simp [wfR, hf]
    rw [e1, if_neg (by simp)] at hR
    simp -implicitDefEqProofs only [RR, RE, RP, RG, takeV, reduceEqDiff, ↓reduceIte, reduceCtorEq, reduceAdd, reduceLeDiff, reduceLT, Nat.reduceBEq, la, lf, d1]
    refine c24.use fun n3 hn3 => ?_
    simp -implicitDefEqProofs only [RR, RE, RP, RG, takeV, reduceEqDiff, ↓reduceIte, reduceCtorEq, reduceAdd, reduceLeDiff, reduceLT, Nat.reduceBEq, la, lf, d1, unA]
    refine c26.use fun n4 hn4 => ?_
    simp -implicitDefEqProofs only [RR, RE, RP, RG, takeV, reduceEqDiff, ↓reduceIte, reduceCtorEq, reduceAdd, reduceLeDiff, reduceLT, Nat.reduceBEq, la, lf, d1, unA, hR, R40]
  | true =>
  rw [hf] at c26
  have e1 : wfR p = true := by simp only [wfR, ha, hf, e0, Bool.and_self]
  rw [e1, if_pos rfl] at hR
  have hwff := List.all_eq_true.1 hf
  simp -implicitDefEqProofs only [RR, RE, RP, RG, takeV, reduceEqDiff, ↓reduceIte, reduceCtorEq, reduceAdd, reduceLeDiff, reduceLT, Nat.reduceBEq, la, lf, d1]
  refine c24.use fun n3 hn3 => ?_
  simp -implicitDefEqProofs only [RR, RE, RP, RG, takeV, reduceEqDiff, ↓reduceIte, reduceCtorEq, reduceAdd, reduceLeDiff, reduceLT, Nat.reduceBEq, la, lf, d1, unA]
  refine c26.use fun n4 hn4 => ?_
  have n4n : (n4 = nx) = False := eq_false (by omega)
  simp -implicitDefEqProofs only [RR, RE, RP, RG, takeV, reduceEqDiff, ↓reduceIte, reduceCtorEq, reduceAdd, reduceLeDiff, reduceLT, Nat.reduceBEq, la, lf, d1, unA, n4n]
  have n4n' : (n4 = nx) → False := fun e => by omega
  refine go_rounds (fun q st => ∃ (i : Nat) (s1 : List Nat) (ck : Nat), q = p.arrays.length - i ∧ i ≤ p.arrays.length ∧ eget st.env 1 = some (.op nx 0) ∧ eget st.env 3 = some (.mp n4) ∧ eget st.env 32 = some (arsA p.arrays) ∧ eget st.env 33 = some (.int .i64 p.arrays.length) ∧ eget st.env 34 = some (.int .i64 i) ∧ hget st.heap nx = some (.cells [arsA p.arrays, fusA p.funcs]) ∧ hget st.heap n4 = some (.map ((insL [] ((p.arrays.take i).map Ar.name)).map entN) s1 ck) ∧ n4 < st.nx ∧ st.dm = []) (n := p.arrays.length) mixed
    ⟨0, [], 0, rfl, by omega, by simp [eget], by simp [eget], by simp [eget], by simp [eget], by simp [eget], by simp [hget, n4n], by simp [hget, insL], by simp, rfl⟩ ?_
  rintro q ⟨env, heap, nx', dm⟩ ⟨i, s1, ck, rfl, hi, g1, g3, g32, g33, g34, gx, gm, hnx, hdm⟩
  simp only at g1 g3 g32 g33 g34 gx gm hnx hdm
  subst hdm
  have f1 : IntKind.i64.wrap ((i : Int) + 1) = ((i + 1 : Nat) : Int) := by rw [w64 (by omega) (by omega)]; omega
  have m1 : (nx' = nx) = False := eq_false (by omega)
  have m2 : (nx' = n4) = False := eq_false (by omega)
  by_cases hc : (i : Int) < (p.arrays.length : Int)
  case pos =>
    have hr := List.getElem?_eq_getElem (show i < p.arrays.length by omega)
    generalize p.arrays[i] = r at hr
    have ix := ars_idx hr
    have re := arE_eq r
    obtain ⟨s2, ck2, hset⟩ := set_ins (h := (nx', AO.cells [.str r.name, .int .i64 r.width, .int .i64 r.len]) :: (nx', .cells [.str [], .int .i64 0, .int .i64 0]) :: heap) (b := n4) (K := insL [] ((p.arrays.take i).map Ar.name)) (st := s1) (ck := ck) (by simp only [hget, m2, if_false]; exact gm) r.name
    rw [← insL_take (g := Ar.name) [] hr] at hset
    simp -implicitDefEqProofs only [RR, RE, RP, RG, takeV, reduceEqDiff, ↓reduceIte, reduceCtorEq, reduceAdd, reduceLeDiff, reduceLT, Nat.reduceBEq, A40l0, A40l0p, g1, g3, g32, g33, g34, hc, ix, re, hset, f1]
    refine ⟨p.arrays.length - (i + 1), by omega, i + 1, s2, ck2, ?_⟩
    repeat' apply And.intro
    all_goals first | assumption | rfl | omega | (simp [eget, hget, *]; done)
  replace gm : hget heap n4 = some (.map ((insL [] (p.arrays.map Ar.name)).map entN) s1 ck) := by
    rw [show p.arrays.take i = p.arrays from List.take_of_length_le (by omega)] at gm; exact gm
  simp -implicitDefEqProofs only [RR, RE, RP, RG, takeV, reduceEqDiff, ↓reduceIte, reduceCtorEq, reduceAdd, reduceLeDiff, reduceLT, Nat.reduceBEq, A40l0, A40l0p, g1, g3, g32, g33, g34, hc, gx, lf]
  clear g32 g33 g34 hc f1 m1 m2
  refine go_rounds (fun q st => ∃ (i : Nat) (s1 : List Nat) (ck : Nat), q = p.funcs.length - i ∧ i ≤ p.funcs.length ∧ eget st.env 1 = some (.op nx 0) ∧ eget st.env 3 = some (.mp n4) ∧ eget st.env 43 = some (fusA p.funcs) ∧ eget st.env 44 = some (.int .i64 p.funcs.length) ∧ eget st.env 45 = some (.int .i64 i) ∧ hget st.heap nx = some (.cells [arsA p.arrays, fusA p.funcs]) ∧ hget st.heap n4 = some (.map ((insL (insL [] (p.arrays.map Ar.name)) ((p.funcs.take i).map Fu.name)).map entN) s1 ck) ∧ n4 < st.nx ∧ st.dm = []) (n := p.funcs.length) mixed
    ⟨0, s1, ck, rfl, by omega, by simp [eget, g1], by simp [eget, g3], by simp [eget], by simp [eget], by simp [eget], gx, by simpa [insL] using gm, hnx, rfl⟩ ?_
  clear g1 g3 gx gm hnx hi env heap nx' i s1 ck
  rintro q ⟨env, heap, nx', dm⟩ ⟨i, s1, ck, rfl, hi, g1, g3, g43, g44, g45, gx, gm, hnx, hdm⟩
  simp only at g1 g3 g43 g44 g45 gx gm hnx hdm
  subst hdm
  have f1 : IntKind.i64.wrap ((i : Int) + 1) = ((i + 1 : Nat) : Int) := by rw [w64 (by omega) (by omega)]; omega
  have m1 : (nx' = nx) = False := eq_false (by omega)
  have m2 : (nx' = n4) = False := eq_false (by omega)
  by_cases hc : (i : Int) < (p.funcs.length : Int)
  case pos =>
    have hr := List.getElem?_eq_getElem (show i < p.funcs.length by omega)
    generalize p.funcs[i] = r at hr
    have ix := fus_idx hr
    have re := fuE_eq r
    obtain ⟨s2, ck2, hset⟩ := set_ins (h := (nx', AO.cells [.str r.name, pmsA r.params, .int .i64 r.result, smsA r.body]) :: (nx', .cells [.str [], .nilS, .int .i64 0, .nilS]) :: heap) (b := n4) (K := insL (insL [] (p.arrays.map Ar.name)) ((p.funcs.take i).map Fu.name)) (st := s1) (ck := ck) (by simp only [hget, m2, if_false]; exact gm) r.name
    rw [← insL_take (g := Fu.name) _ hr] at hset
    simp -implicitDefEqProofs only [RR, RE, RP, RG, takeV, reduceEqDiff, ↓reduceIte, reduceCtorEq, reduceAdd, reduceLeDiff, reduceLT, Nat.reduceBEq, A40l1, A40l1p, g1, g3, g43, g44, g45, hc, ix, re, hset, f1, ↓c_pms, ↓p_pms, ↓c_sms, ↓p_sms]
    refine ⟨p.funcs.length - (i + 1), by omega, i + 1, s2, ck2, ?_⟩
    repeat' apply And.intro
    all_goals first | assumption | rfl | omega | (simp [eget, hget, *]; done)
  replace gm : hget heap n4 = some (.map ((insL [] (names p)).map entN) s1 ck) := by
    rw [show p.funcs.take i = p.funcs from List.take_of_length_le (by omega), ← insL_app] at gm; exact gm
  have hmo : mapOf heap (.mp n4) = some ((insL [] (names p)).map entN) := by simp only [mapOf, gm]
  have hml : (((insL [] (names p)).map entN).length : Int) = ((insL [] (names p)).length : Int) := by rw [List.length_map]
  have a1 : IntKind.i64.wrap ((p.arrays.length : Int) + (p.funcs.length : Int)) = ((names p).length : Int) := by
    rw [w64 (by omega) (by omega)]; simp [names]
  have hdup := insL_dup (names p)
  rcases dec_cases (((insL [] (names p)).length : Int) < ((names p).length : Int)) with ⟨d2', d2⟩ | ⟨d2', d2⟩
  case inl =>
    rw [if_neg (hdup.1 (by omega))] at hR
    simp -implicitDefEqProofs only [RR, RE, RP, RG, takeV, reduceEqDiff, ↓reduceIte, reduceCtorEq, reduceAdd, reduceLeDiff, reduceLT, Nat.reduceBEq, A40l1, A40l1p, g1, g3, g43, g44, g45, hc, gx, la, lf, hmo, hml, a1, d2, hR, R40]
  have hnd : (names p).Nodup := Classical.byContradiction fun hn => d2' (by have := hdup.2 hn; omega)
  rw [if_pos hnd] at hR
  simp -implicitDefEqProofs only [RR, RE, RP, RG, takeV, reduceEqDiff, ↓reduceIte, reduceCtorEq, reduceAdd, reduceLeDiff, reduceLT, Nat.reduceBEq, A40l1, A40l1p, g1, g3, g43, g44, g45, hc, gx, la, lf, hmo, hml, a1, d2]
  clear g43 g44 g45 hc f1 m1 m2 gm hmo g3
  refine go_rounds (fun q st => ∃ (i : Nat), q = p.funcs.length - i ∧ i ≤ p.funcs.length ∧ R = fsE p (p.funcs.drop i) ∧ eget st.env 1 = some (.op nx 0) ∧ eget st.env 64 = some (fusA p.funcs) ∧ eget st.env 65 = some (.int .i64 p.funcs.length) ∧ eget st.env 66 = some (.int .i64 i) ∧ hget st.heap nx = some (.cells [arsA p.arrays, fusA p.funcs]) ∧ nx < st.nx ∧ st.dm = []) (n := p.funcs.length) mixed
    ⟨0, rfl, by omega, hR.symm, by simp [eget, g1], by simp [eget], by simp [eget], by simp [eget], gx, (show nx < nx' by omega), rfl⟩ ?_
  clear g1 gx hnx hi env heap nx' i s1 ck
  rintro q ⟨env, heap, nx', dm⟩ ⟨i, rfl, hi, hRi, g1, g64, g65, g66, gx, hnx, hdm⟩
  simp only at g1 g64 g65 g66 gx hnx hdm
  subst hdm
  have f1 : IntKind.i64.wrap ((i : Int) + 1) = ((i + 1 : Nat) : Int) := by rw [w64 (by omega) (by omega)]; omega
  have m1 : (nx' = nx) = False := eq_false (by omega)
  by_cases hc : (i : Int) < (p.funcs.length : Int)
  case neg =>
    have hd : p.funcs.drop i = [] := List.drop_of_length_le (by omega)
    rw [hd, fsE] at hRi
    simp -implicitDefEqProofs only [RR, RE, RP, RG, takeV, reduceEqDiff, ↓reduceIte, reduceCtorEq, reduceAdd, reduceLeDiff, reduceLT, Nat.reduceBEq, A40l2, A40l2p, g1, g64, g65, g66, hc, hRi, R40]
  have hr := List.getElem?_eq_getElem (show i < p.funcs.length by omega)
  generalize p.funcs[i] = r at hr
  have ix := fus_idx hr
  have re := fuE_eq r
  have hmem := List.mem_of_getElem? hr
  rw [drop_cons hr, fsE] at hRi
  have c14 := w76 p r (by omega) (by omega) (fun g hg => by have := o.fp g hg; omega) (by have := o.fp r hmem; omega) (o.fb r hmem) (wfF_body (hwff r hmem)) ((nx', AO.cells [.str r.name, pmsA r.params, .int .i64 r.result, smsA r.body]) :: (nx', .cells [.str [], .nilS, .int .i64 0, .nilS]) :: heap) (nx' + 1)
  rw [hpe, re] at c14
  simp -implicitDefEqProofs only [RR, RE, RP, RG, takeV, reduceEqDiff, ↓reduceIte, reduceCtorEq, reduceAdd, reduceLeDiff, reduceLT, Nat.reduceBEq, A40l2, A40l2p, g1, g64, g65, g66, hc, ix, re, gx, m1, ↓c_pms, ↓p_pms, ↓c_sms, ↓p_sms]
  refine c14.mono ?_
  rintro y h2 m2 ⟨vv, kn', rfl, ho, _, hm2, hk2⟩
  have gx2 := hk2 nx (.cells [arsA p.arrays, fusA p.funcs]) (by omega) (by simp only [hget, m1, if_false]; exact gx)
  rcases dec_cases ((fnW p r).1 = 0) with ⟨d3', d3⟩ | ⟨d3', d3⟩
  case inr =>
    rw [if_neg d3'] at hRi
    simp -implicitDefEqProofs only [RR, RE, RP, RG, takeV, reduceEqDiff, ↓reduceIte, reduceCtorEq, reduceAdd, reduceLeDiff, reduceLT, Nat.reduceBEq, g1, g64, g65, g66, d3, hRi, R40]
  rw [if_pos d3'] at hRi
  simp -implicitDefEqProofs only [RR, RE, RP, RG, takeV, reduceEqDiff, ↓reduceIte, reduceCtorEq, reduceAdd, reduceLeDiff, reduceLT, Nat.reduceBEq, g1, g64, g65, g66, d3, f1]
  refine ⟨p.funcs.length - (i + 1), by omega, i + 1, ?_⟩
  repeat' apply And.intro
  all_goals first | assumption | rfl | omega | (simp [eget, *]; done)
end Go.Proofs.YtgeieafamocnhaaGreatDoor
namespace Go.Proofs.YtgeieafamocnhaaGreatDoor
open Go Go.Ab Go.Proofs
open Nat (reduceEqDiff reduceAdd reduceLeDiff reduceLT)
set_option linter.unusedVariables false
set_option linter.unusedSimpArgs false
set_option maxRecDepth 20000
def strE (s : Nm) : List AV := [.str s]
theorem strE_all (l : List Nm) : ∀ z ∈ l.map strE, z.length = 1 := fun z hz => by
  obtain ⟨r, _, rfl⟩ := List.mem_map.1 hz; rfl
def apartB (L : List Nm) (i : Nat) : Prop := ∀ a b x y, a < b → b < i → L[a]? = some x → L[b]? = some y → x ≠ y
theorem apartB_end {L : List Nm} {i : Nat} (hi : L.length ≤ i) (h : apartB L i) : L.Nodup := by
  rw [List.Nodup, List.pairwise_iff_getElem]
  intro a b ha hb hab
  exact h a b _ _ hab (by omega) (List.getElem?_eq_getElem ha) (List.getElem?_eq_getElem hb)
theorem apartB_step {L : List Nm} {i : Nat} {x : Nm} (hx : L[i]? = some x) (h : apartB L i) (hk : ∀ a y, a < i → L[a]? = some y → y ≠ x) : apartB L (i + 1) := fun a b y z hab hb hy hz => by
  by_cases e : b = i
  · subst e
    rw [hx] at hz; injection hz with hz; subst hz
    exact hk a y hab hy
  · exact h a b y z hab (by omega) hy hz
theorem apartB_bad {L : List Nm} {a i : Nat} {x : Nm} (ha : L[a]? = some x) (hi : L[i]? = some x) (hai : a < i) : ¬ L.Nodup := fun h => by
  rw [List.Nodup, List.pairwise_iff_getElem] at h
  have h1 := (List.getElem?_eq_some_iff.1 ha)
  have h2 := (List.getElem?_eq_some_iff.1 hi)
  obtain ⟨ha1, ha2⟩ := h1
  obtain ⟨hi1, hi2⟩ := h2
  exact h a i ha1 hi1 hai (by rw [ha2, hi2])
set_option maxHeartbeats 8000000 in
theorem w25 (p : Pr) (o : OkP p) : Pure Tryz.prog 25 [.agg (prE p)] (.int .i64 (ckE p)) := by
  refine Pure.of fun nx => AC.go mixed is25 (by simp) ?_
  have oal := o.al
  have ofl := o.fl
  have hpe := prE_eq p
  rw [hpe]
  have la := ars_len p.arrays
  have lf := fus_len p.funcs
  have c30 := w56 p (by omega) (by omega) (hvP_ok o)
  rw [hpe] at c30
  obtain ⟨R, hR⟩ : ∃ R, ckE p = R := ⟨_, rfl⟩
  rw [hR]
  unfold ckE at hR
  simp -implicitDefEqProofs only [RR, RE, RP, RG, takeV, reduceEqDiff, ↓reduceIte, reduceCtorEq, reduceAdd, reduceLeDiff, reduceLT, Nat.reduceBEq, A25, A25p, la, lf, ↓c_ars, ↓p_ars, ↓c_fus, ↓p_fus]
  refine c30.use fun n2 hn2 => ?_
  cases hhv : hvP p with
  | true =>
    rw [if_pos hhv] at hR
    simp -implicitDefEqProofs only [RR, RE, RP, RG, takeV, reduceEqDiff, ↓reduceIte, reduceCtorEq, reduceAdd, reduceLeDiff, reduceLT, Nat.reduceBEq, hR, R25]
  | false =>
  rw [hhv, if_neg (by simp)] at hR
  have c31 := w57 p (fun a ha => by have := o.an a ha; omega) (by omega) (by omega) fun f hf => ⟨by have := o.fn f hf; omega, fun v hv => by have := o.pn f hf v hv; omega, by have := o.fp f hf; omega, w104 f.body (by have := o.fb f hf; have := stmtsL_sz f.body; have := stmtsL_len f.body; omega) fun x hx => w131 _ x (Nat.le_refl _) (by have := o.fb f hf; have := szSL_mem hx; have := stmts_sz x; omega) (shS_sz x (by have := o.fb f hf; have := szSL_mem hx; omega))⟩
  rw [hpe] at c31
  simp -implicitDefEqProofs only [RR, RE, RP, RG, takeV, reduceEqDiff, ↓reduceIte, reduceCtorEq, reduceAdd, reduceLeDiff, reduceLT, Nat.reduceBEq, la, lf]
  refine c31.use fun n3 hn3 => ?_
  cases hwr : wfR p with
  | false =>
    rw [hwr, if_neg (by simp)] at hR
    simp -implicitDefEqProofs only [RR, RE, RP, RG, takeV, reduceEqDiff, ↓reduceIte, reduceCtorEq, reduceAdd, reduceLeDiff, reduceLT, Nat.reduceBEq, unA, hR, R25]
  | true =>
  rw [if_pos hwr] at hR
  have hwff : ∀ x ∈ p.funcs, wfF x = true := by
    unfold wfR at hwr
    simp only [Bool.and_eq_true] at hwr
    exact List.all_eq_true.1 hwr.1.2
  simp -implicitDefEqProofs only [RR, RE, RP, RG, takeV, reduceEqDiff, ↓reduceIte, reduceCtorEq, reduceAdd, reduceLeDiff, reduceLT, Nat.reduceBEq, unA]
  refine go_rounds (fun q st => ∃ (i : Nat) (z : AV), q = p.arrays.length - i ∧ i ≤ p.arrays.length ∧ eget st.env 1 = some (.op nx 0) ∧ eget st.env 3 = some z ∧ eget st.env 4 = some (.int .i64 i) ∧ hget st.heap nx = some (.cells [arsA p.arrays, fusA p.funcs]) ∧ OwnSl 9 1 st.heap st.nx z (((p.arrays.take i).map Ar.name).map strE) ∧ (∀ b, blkOf z = some b → nx < b) ∧ nx < st.nx ∧ st.dm = []) (n := p.arrays.length) mixed
    ⟨0, .nilS, rfl, by omega, by simp [eget], by simp [eget], by simp [eget], by simp [hget], .inl ⟨rfl, rfl⟩, by simp [blkOf], (show nx < n3 by omega), rfl⟩ ?_
  rintro q ⟨env, heap, nx', dm⟩ ⟨i, z, rfl, hi, g1, g3, g4, gx, ho, hzb, hnx, hdm⟩
  simp only at g1 g3 g4 gx ho hnx hdm
  subst hdm
  have f1 : IntKind.i64.wrap ((i : Int) + 1) = ((i + 1 : Nat) : Int) := by rw [w64 (by omega) (by omega)]; omega
  have hzn : blkOf z ≠ some nx := fun e => by have := hzb nx e; omega
  by_cases hc : (i : Int) < (p.arrays.length : Int)
  case pos =>
    have hr := List.getElem?_eq_getElem (show i < p.arrays.length by omega)
    generalize p.arrays[i] = r at hr
    have ix := ars_idx hr
    have re := arE_eq r
    have hlt : (p.arrays.take i).length ≤ p.arrays.length := by rw [List.length_take]; omega
    obtain ⟨z', h3, n4, ea, ow, hn4, hk3, hb3⟩ := ho.grw (bytes := 16) (ns := [strE r.name]) (strE_all _) (by simp [strE]) (by simp only [List.length_map, List.length_cons, List.length_nil]; omega) (by simp only [List.length_map, List.length_cons, List.length_nil, maxLen]; omega)
    have ea' : appA 9 1 16 heap nx' z (.lst 1 [[.str r.name]]) = some (z', h3, n4) := ea
    simp -implicitDefEqProofs only [RR, RE, RP, RG, takeV, reduceEqDiff, ↓reduceIte, reduceCtorEq, reduceAdd, reduceLeDiff, reduceLT, Nat.reduceBEq, A25l0, A25l0p, g1, g3, g4, gx, la, hc, ix, re, ea', f1]
    have how : OwnSl 9 1 h3 n4 z' (((p.arrays.take (i + 1)).map Ar.name).map strE) := by
      rw [take_succ hr, List.map_append, List.map_append]; exact ow
    have gx2 := hk3 nx _ hnx gx hzn
    have hzb2 : ∀ b, blkOf z' = some b → nx < b := fun b hb => by
      rcases hb3 b hb with h | h
      · omega
      · exact hzb b h
    refine ⟨p.arrays.length - (i + 1), by omega, i + 1, z', ?_⟩
    repeat' (first | exact how | apply And.intro)
    all_goals first | assumption | rfl | omega | (simp [eget, *]; done)
  rw [show p.arrays.take i = p.arrays from List.take_of_length_le (by omega)] at ho
  simp -implicitDefEqProofs only [RR, RE, RP, RG, takeV, reduceEqDiff, ↓reduceIte, reduceCtorEq, reduceAdd, reduceLeDiff, reduceLT, Nat.reduceBEq, A25l0, A25l0p, g1, g3, g4, hc, gx, la]
  clear g4 hc f1
  refine go_roundsF (fun q st => ∃ (i : Nat) (z : AV), q = p.funcs.length - i ∧ i ≤ p.funcs.length ∧ eget st.env 1 = some (.op nx 0) ∧ eget st.env 3 = some z ∧ eget st.env 5 = some (.int .i64 i) ∧ hget st.heap nx = some (.cells [arsA p.arrays, fusA p.funcs]) ∧ OwnSl 9 1 st.heap st.nx z ((p.arrays.map Ar.name ++ (p.funcs.take i).map Fu.name).map strE) ∧ (∀ b, blkOf z = some b → nx < b) ∧ nx < st.nx ∧ st.dm = []) 2
    (fun st => ∃ (z : AV), eget st.env 1 = some (.op nx 0) ∧ eget st.env 3 = some z ∧ hget st.heap nx = some (.cells [arsA p.arrays, fusA p.funcs]) ∧ OwnSl 9 1 st.heap st.nx z ((names p).map strE) ∧ (∀ b, blkOf z = some b → nx < b) ∧ nx < st.nx ∧ st.dm = []) (n := p.funcs.length) mixed
    ⟨0, z, rfl, by omega, by simp [eget, g1], by simp [eget, g3], by simp [eget], gx, by simpa using ho, hzb, hnx, rfl⟩ ?_ ?_
  · clear g1 g3 gx ho hzb hzn hnx hi env heap nx' i z
    rintro q ⟨env, heap, nx', dm⟩ ⟨i, z, rfl, hi, g1, g3, g5, gx, ho, hzb, hnx, hdm⟩
    simp only at g1 g3 g5 gx ho hnx hdm
    subst hdm
    have f1 : IntKind.i64.wrap ((i : Int) + 1) = ((i + 1 : Nat) : Int) := by rw [w64 (by omega) (by omega)]; omega
    have hzn : blkOf z ≠ some nx := fun e => by have := hzb nx e; omega
    by_cases hc : (i : Int) < (p.funcs.length : Int)
    case pos =>
      have hr := List.getElem?_eq_getElem (show i < p.funcs.length by omega)
      generalize p.funcs[i] = r at hr
      have ix := fus_idx hr
      have re := fuE_eq r
      have hlt : (p.funcs.take i).length ≤ p.funcs.length := by rw [List.length_take]; omega
      obtain ⟨z', h3, n4, ea, ow, hn4, hk3, hb3⟩ := ho.grw (bytes := 16) (ns := [strE r.name]) (strE_all _) (by simp [strE]) (by simp only [List.length_map, List.length_append, List.length_cons, List.length_nil]; omega) (by simp only [List.length_map, List.length_append, List.length_cons, List.length_nil, maxLen]; omega)
      have ea' : appA 9 1 16 heap nx' z (.lst 1 [[.str r.name]]) = some (z', h3, n4) := ea
      simp -implicitDefEqProofs only [RR, RE, RP, RG, takeV, reduceEqDiff, ↓reduceIte, reduceCtorEq, reduceAdd, reduceLeDiff, reduceLT, Nat.reduceBEq, exitJ_e, exitJ_r, exitJ_p, exitJ_n, A25l1, A25l1p, g1, g3, g5, gx, lf, hc, ix, re, ea', f1]
      have how : OwnSl 9 1 h3 n4 z' ((p.arrays.map Ar.name ++ (p.funcs.take (i + 1)).map Fu.name).map strE) := by
        have e : p.arrays.map Ar.name ++ (p.funcs.take (i + 1)).map Fu.name = (p.arrays.map Ar.name ++ (p.funcs.take i).map Fu.name) ++ [r.name] := by rw [take_succ hr, List.map_append, ← List.append_assoc]; rfl
        rw [e, List.map_append]; exact ow
      have gx2 := hk3 nx _ hnx gx hzn
      have hzb2 : ∀ b, blkOf z' = some b → nx < b := fun b hb => by
        rcases hb3 b hb with h | h
        · omega
        · exact hzb b h
      refine ⟨p.funcs.length - (i + 1), by omega, i + 1, z', ?_⟩
      repeat' (first | exact how | apply And.intro)
      all_goals first | assumption | rfl | omega | (simp [eget, *]; done)
    rw [show p.funcs.take i = p.funcs from List.take_of_length_le (by omega)] at ho
    simp -implicitDefEqProofs only [RR, RE, RP, RG, takeV, reduceEqDiff, ↓reduceIte, reduceCtorEq, reduceAdd, reduceLeDiff, reduceLT, Nat.reduceBEq, exitJ_e, exitJ_r, exitJ_p, exitJ_n, A25l1, A25l1p, g1, g3, g5, hc, gx, lf]
    repeat' (first | exact ho | apply And.intro)
    all_goals first | assumption | rfl | omega | (simp [eget, *]; done)
  clear g1 g3 gx ho hzb hzn hnx hi env heap nx' i z
  rintro ⟨env, hp0, nx', dm⟩ ⟨z, g1, g3, gx0, ho, hzb, hnx, hdm⟩
  simp only at g1 g3 gx0 ho hnx hdm
  subst hdm
  obtain ⟨heap, hfz, hk4⟩ := ho.frz2 (strE_all _)
  have gx := hk4 nx _ gx0 fun y e => by
    have := hzb nx (by rw [e]; rfl)
    omega
  refine ⟨3, z, strsA (names p), heap, g3, hfz, ?_⟩
  clear hk4 hfz ho hzb gx0 g3
  have ls := strs_len (names p)
  have hnl : (names p).length = p.arrays.length + p.funcs.length := by simp [names]
  simp -implicitDefEqProofs only [RR, RE, RP, RG, takeV, reduceEqDiff, ↓reduceIte, reduceCtorEq, reduceAdd, reduceLeDiff, reduceLT, Nat.reduceBEq]
  refine go_rounds (fun q st => ∃ (i : Nat), q = (names p).length - i ∧ i ≤ (names p).length ∧ apartB (names p) i ∧ eget st.env 1 = some (.op nx 0) ∧ eget st.env 3 = some (strsA (names p)) ∧ eget st.env 6 = some (.int .i64 i) ∧ hget st.heap nx = some (.cells [arsA p.arrays, fusA p.funcs]) ∧ nx < st.nx ∧ st.dm = []) (n := (names p).length) mixed
    ⟨0, rfl, by omega, fun a b x y h1 h2 => by omega, by simp [eget, g1], by simp [eget], by simp [eget], gx, hnx, rfl⟩ ?_
  clear g1 gx hnx env heap nx'
  rintro q ⟨env, heap, nx', dm⟩ ⟨i, rfl, hi, hap, g1, g3, g6, gx, hnx, hdm⟩
  simp only at g1 g3 g6 gx hnx hdm
  subst hdm
  have f1 : IntKind.i64.wrap ((i : Int) + 1) = ((i + 1 : Nat) : Int) := by rw [w64 (by omega) (by omega)]; omega
  by_cases hc : (i : Int) < ((names p).length : Int)
  case pos =>
    have hr := List.getElem?_eq_getElem (show i < (names p).length by omega)
    generalize (names p)[i] = r at hr
    have ix := strs_idx hr
    simp -implicitDefEqProofs only [RR, RE, RP, RG, takeV, reduceEqDiff, ↓reduceIte, reduceCtorEq, reduceAdd, reduceLeDiff, reduceLT, Nat.reduceBEq, A25l3, A25l3p, g1, g3, g6, ls, hc]
    refine go_rounds (fun q st => ∃ (k : Nat), q = i - k ∧ k ≤ i ∧ (∀ a y, a < k → (names p)[a]? = some y → y ≠ r) ∧ eget st.env 1 = some (.op nx 0) ∧ eget st.env 3 = some (strsA (names p)) ∧ eget st.env 6 = some (.int .i64 i) ∧ eget st.env 7 = some (.int .i64 k) ∧ hget st.heap nx = some (.cells [arsA p.arrays, fusA p.funcs]) ∧ nx < st.nx ∧ st.dm = []) (n := i) mixed
      ⟨0, rfl, by omega, fun a y h1 => by omega, by simp [eget, g1], by simp [eget, g3], by simp [eget, g6], by simp [eget], gx, hnx, rfl⟩ ?_
    clear g1 g3 g6 gx hnx env heap nx'
    rintro q ⟨env, heap, nx', dm⟩ ⟨k, rfl, hk, hne, g1, g3, g6, g7, gx, hnx, hdm⟩
    simp only at g1 g3 g6 g7 gx hnx hdm
    subst hdm
    have k1 : IntKind.i64.wrap ((k : Int) + 1) = ((k + 1 : Nat) : Int) := by rw [w64 (by omega) (by omega)]; omega
    by_cases hck : (k : Int) < (i : Int)
    case neg =>
      have hap2 := apartB_step hr hap fun a y ha hy => hne a y (by omega) hy
      simp -implicitDefEqProofs only [RR, RE, RP, RG, takeV, reduceEqDiff, ↓reduceIte, reduceCtorEq, reduceAdd, reduceLeDiff, reduceLT, Nat.reduceBEq, A25l2, A25l2p, g1, g3, g6, g7, hck, f1]
      refine ⟨(names p).length - (i + 1), by omega, i + 1, ?_⟩
      repeat' (first | exact hap2 | apply And.intro)
      all_goals first | assumption | rfl | omega | (simp [eget, *]; done)
    have hr2 := List.getElem?_eq_getElem (show k < (names p).length by omega)
    generalize (names p)[k] = r2 at hr2
    have ix2 := strs_idx hr2
    cases hq : (r2 == r) with
    | true =>
      have e := eq_of_beq hq
      subst e
      rw [if_neg (apartB_bad hr2 hr (by omega))] at hR
      simp -implicitDefEqProofs only [RR, RE, RP, RG, takeV, reduceEqDiff, ↓reduceIte, reduceCtorEq, reduceAdd, reduceLeDiff, reduceLT, Nat.reduceBEq, A25l2, A25l2p, g1, g3, g6, g7, hck, ix, ix2, b_str, strA, hq, hR, R25]
    | false =>
      have hne2 : ∀ a y, a < k + 1 → (names p)[a]? = some y → y ≠ r := fun a y ha hy => by
        by_cases e : a = k
        · subst e
          rw [hr2] at hy; injection hy with hy; subst hy
          intro e2; subst e2; simp at hq
        · exact hne a y (by omega) hy
      simp -implicitDefEqProofs only [RR, RE, RP, RG, takeV, reduceEqDiff, ↓reduceIte, reduceCtorEq, reduceAdd, reduceLeDiff, reduceLT, Nat.reduceBEq, A25l2, A25l2p, g1, g3, g6, g7, hck, ix, ix2, b_str, strA, hq, k1]
      refine ⟨i - (k + 1), by omega, k + 1, ?_⟩
      repeat' (first | exact hne2 | apply And.intro)
      all_goals first | assumption | rfl | omega | (simp [eget, *]; done)
  have hnd := apartB_end (by omega) hap
  rw [if_pos hnd] at hR
  simp -implicitDefEqProofs only [RR, RE, RP, RG, takeV, reduceEqDiff, ↓reduceIte, reduceCtorEq, reduceAdd, reduceLeDiff, reduceLT, Nat.reduceBEq, A25l3, A25l3p, g1, g3, g6, ls, hc]
  clear g3 g6 hc f1
  refine go_rounds (fun q st => ∃ (i : Nat), q = p.funcs.length - i ∧ i ≤ p.funcs.length ∧ R = fsE p (p.funcs.drop i) ∧ eget st.env 1 = some (.op nx 0) ∧ eget st.env 8 = some (.int .i64 i) ∧ hget st.heap nx = some (.cells [arsA p.arrays, fusA p.funcs]) ∧ nx < st.nx ∧ st.dm = []) (n := p.funcs.length) mixed
    ⟨0, rfl, by omega, hR.symm, by simp [eget, g1], by simp [eget], gx, hnx, rfl⟩ ?_
  clear g1 gx hnx hi hap env heap nx' i
  rintro q ⟨env, heap, nx', dm⟩ ⟨i, rfl, hi, hRi, g1, g8, gx, hnx, hdm⟩
  simp only at g1 g8 gx hnx hdm
  subst hdm
  have f1 : IntKind.i64.wrap ((i : Int) + 1) = ((i + 1 : Nat) : Int) := by rw [w64 (by omega) (by omega)]; omega
  by_cases hc : (i : Int) < (p.funcs.length : Int)
  case neg =>
    have hd : p.funcs.drop i = [] := List.drop_of_length_le (by omega)
    rw [hd, fsE] at hRi
    simp -implicitDefEqProofs only [RR, RE, RP, RG, takeV, reduceEqDiff, ↓reduceIte, reduceCtorEq, reduceAdd, reduceLeDiff, reduceLT, Nat.reduceBEq, A25l4, A25l4p, g1, g8, gx, lf, hc, hRi, R25]
  have hr := List.getElem?_eq_getElem (show i < p.funcs.length by omega)
  generalize p.funcs[i] = r at hr
  have hmem := List.mem_of_getElem? hr
  rw [drop_cons hr, fsE] at hRi
  have c16 := w49 p i r hr (by omega) (by omega) (fun g hg => by have := o.fp g hg; omega) (by have := o.fp r hmem; omega) (o.fb r hmem) (wfF_body (hwff r hmem)) heap nx'
  rw [hpe] at c16
  simp -implicitDefEqProofs only [RR, RE, RP, RG, takeV, reduceEqDiff, ↓reduceIte, reduceCtorEq, reduceAdd, reduceLeDiff, reduceLT, Nat.reduceBEq, A25l4, A25l4p, g1, g8, gx, lf, hc]
  refine c16.mono ?_
  rintro y h2 m2 ⟨vv, kn', rfl, ho, _, hm2, hk2⟩
  have gx2 := hk2 nx _ hnx gx
  rcases dec_cases ((fnW p r).1 = 0) with ⟨d3', d3⟩ | ⟨d3', d3⟩
  case inr =>
    rw [if_neg d3'] at hRi
    simp -implicitDefEqProofs only [RR, RE, RP, RG, takeV, reduceEqDiff, ↓reduceIte, reduceCtorEq, reduceAdd, reduceLeDiff, reduceLT, Nat.reduceBEq, g1, g8, d3, hRi, R25]
  rw [if_pos d3'] at hRi
  simp -implicitDefEqProofs only [RR, RE, RP, RG, takeV, reduceEqDiff, ↓reduceIte, reduceCtorEq, reduceAdd, reduceLeDiff, reduceLT, Nat.reduceBEq, g1, g8, d3, f1]
  refine ⟨p.funcs.length - (i + 1), by omega, i + 1, ?_⟩
  repeat' apply And.intro
  all_goals first | assumption | rfl | omega | (simp [eget, *]; done)
end Go.Proofs.YtgeieafamocnhaaGreatDoor
namespace Go.Proofs.YtgeieafamocnhaaGreatDoor
open Go Go.Ab Go.Proofs
open Nat (reduceEqDiff reduceAdd reduceLeDiff reduceLT)
set_option linter.unusedVariables false
set_option linter.unusedSimpArgs false
set_option maxRecDepth 20000
def vaW (p : Pr) (i : Int) : Int × List Pm :=
  if ckE p = 0 then (if 0 ≤ i ∧ i < p.funcs.length then (match p.funcs[i.toNat]? with | some f => (0, (fnW p f).2) | none => (2, [])) else (2, [])) else (ckE p, [])
def VaP (r : Int × List Pm) (h : Heap) (nx : Nat) (y : AE) (h' : Heap) (n' : Nat) : Prop := ∃ (vv : AV), y = .ret (.tup [vv, .int .i64 r.1]) ∧ OwnSl 64 2 h' n' vv (r.2.map pmE) ∧ nx ≤ n' ∧ (∀ k o, k < nx → hget h k = some o → hget h' k = some o)
theorem VaP.nil {e : Int} {h h' : Heap} {nx n' : Nat} (hle : nx ≤ n') (hk : ∀ k o, k < nx → hget h k = some o → hget h' k = some o) : VaP (e, []) h nx (.ret (.tup [.nilS, .int .i64 e])) h' n' := ⟨.nilS, rfl, .inl ⟨rfl, rfl⟩, hle, hk⟩
theorem fsE_zero (p : Pr) : ∀ l : List Fu, fsE p l = 0 → ∀ f ∈ l, (fnW p f).1 = 0
  | [], _, f, hf => by simp at hf
  | g :: r, h, f, hf => by
    rw [fsE] at h
    by_cases hg : (fnW p g).1 = 0
    · rw [if_pos hg] at h
      rcases List.mem_cons.1 hf with rfl | hf
      · exact hg
      · exact fsE_zero p r h f hf
    · rw [if_neg hg] at h; exact absurd h hg
theorem ckE_zero {p : Pr} (h : ckE p = 0) : (∀ f ∈ p.funcs, wfF f = true) ∧ ∀ f ∈ p.funcs, (fnW p f).1 = 0 := by
  unfold ckE at h
  split at h
  · omega
  split at h
  · rename_i hw
    split at h
    · refine ⟨?_, fsE_zero p _ h⟩
      unfold wfR at hw
      simp only [Bool.and_eq_true] at hw
      exact List.all_eq_true.1 hw.1.2
    · omega
  · omega
set_option maxHeartbeats 4000000 in
theorem w36 (p : Pr) (i : Int) (o : OkP p) (h : Heap) (nx : Nat) : AC Tryz.prog 36 [.agg (prE p), .int .i64 i] h nx (VaP (vaW p i) h nx) := by
  refine AC.go mixed is36 (by simp) ?_
  have oal := o.al
  have ofl := o.fl
  have hpe := prE_eq p
  have c13 := w40 p o
  rw [hpe] at c13 ⊢
  have lf := fus_len p.funcs
  have gk0 : ∀ k o, k < nx → hget h k = some o → hget ((nx, AO.cells [arsA p.arrays, fusA p.funcs]) :: h) k = some o := fun k o hk ho => by rw [hget_cons, if_neg (by omega)]; exact ho
  simp -implicitDefEqProofs only [RR, RE, RP, RG, takeV, reduceEqDiff, ↓reduceIte, reduceCtorEq, reduceAdd, reduceLeDiff, reduceLT, Nat.reduceBEq, A36, A36p, lf, ↓c_ars, ↓p_ars, ↓c_fus, ↓p_fus]
  refine c13.use fun n2 hn2 => ?_
  rcases dec_cases (ckE p = 0) with ⟨d1', d1⟩ | ⟨d1', d1⟩
  case inr =>
    have e1 : vaW p i = (ckE p, []) := by rw [vaW, if_neg d1']
    rw [e1]
    simp -implicitDefEqProofs only [RR, RE, RP, RG, takeV, reduceEqDiff, ↓reduceIte, reduceCtorEq, reduceAdd, reduceLeDiff, reduceLT, Nat.reduceBEq, d1, lf, R36]
    exact VaP.nil (by omega) gk0
  rcases dec_cases (i < 0) with ⟨d2', d2⟩ | ⟨d2', d2⟩
  case inl =>
    have e1 : vaW p i = (2, []) := by rw [vaW, if_pos d1', if_neg (by omega)]
    rw [e1]
    simp -implicitDefEqProofs only [RR, RE, RP, RG, takeV, reduceEqDiff, ↓reduceIte, reduceCtorEq, reduceAdd, reduceLeDiff, reduceLT, Nat.reduceBEq, d1, d2, lf, R36]
    exact VaP.nil (by omega) gk0
  rcases dec_cases ((p.funcs.length : Int) ≤ i) with ⟨d3', d3⟩ | ⟨d3', d3⟩
  case inl =>
    have e1 : vaW p i = (2, []) := by rw [vaW, if_pos d1', if_neg (by omega)]
    rw [e1]
    simp -implicitDefEqProofs only [RR, RE, RP, RG, takeV, reduceEqDiff, ↓reduceIte, reduceCtorEq, reduceAdd, reduceLeDiff, reduceLT, Nat.reduceBEq, d1, d2, d3, lf, R36]
    exact VaP.nil (by omega) gk0
  obtain ⟨j, rfl⟩ : ∃ j : Nat, i = (j : Int) := ⟨i.toNat, by omega⟩
  have hr := List.getElem?_eq_getElem (show j < p.funcs.length by omega)
  generalize p.funcs[j] = f at hr
  have hmem := List.mem_of_getElem? hr
  obtain ⟨hwf, hfn⟩ := ckE_zero d1'
  have ef := hfn f hmem
  have e1 : vaW p j = (0, (fnW p f).2) := by rw [vaW, if_pos d1', if_pos (by omega)]; simp [hr]
  rw [e1]
  have ix := fus_idx hr
  have re := fuE_eq f
  have c14 := w76 p f (by omega) (by omega) (fun g hg => by have := o.fp g hg; omega) (by have := o.fp f hmem; omega) (o.fb f hmem) (wfF_body (hwf f hmem)) ((nx, AO.cells [arsA p.arrays, fusA p.funcs]) :: h) n2
  rw [hpe, re] at c14
  simp -implicitDefEqProofs only [RR, RE, RP, RG, takeV, reduceEqDiff, ↓reduceIte, reduceCtorEq, reduceAdd, reduceLeDiff, reduceLT, Nat.reduceBEq, d1, d2, d3, lf, ix, re]
  refine c14.mono ?_
  rintro y h2 m2 ⟨vv, kn', rfl, ho, hkn, hm2, hk2⟩
  rw [hkn ef] at ho
  simp -implicitDefEqProofs only [RR, RE, RP, RG, takeV, reduceEqDiff, ↓reduceIte, reduceCtorEq, reduceAdd, reduceLeDiff, reduceLT, Nat.reduceBEq, ef, R36]
  exact ⟨vv, rfl, ho, by omega, fun k o hk hg => hk2 k o (by omega) (gk0 k o hk hg)⟩
set_option maxHeartbeats 4000000 in
theorem w23 (p : Pr) (i : Int) (o : OkP p) (h : Heap) (nx : Nat) : AC Tryz.prog 23 [.agg (prE p), .int .i64 i] h nx (VaP (vaW p i) h nx) := by
  refine AC.go mixed is23 (by simp) ?_
  have oal := o.al
  have ofl := o.fl
  have hpe := prE_eq p
  have c15 := w25 p o
  rw [hpe] at c15 ⊢
  have lf := fus_len p.funcs
  have gk0 : ∀ k o, k < nx → hget h k = some o → hget ((nx, AO.cells [arsA p.arrays, fusA p.funcs]) :: h) k = some o := fun k o hk ho => by rw [hget_cons, if_neg (by omega)]; exact ho
  have z2 : ((2 : Int) = 0) = False := eq_false (by omega)
  simp -implicitDefEqProofs only [RR, RE, RP, RG, takeV, reduceEqDiff, ↓reduceIte, reduceCtorEq, reduceAdd, reduceLeDiff, reduceLT, Nat.reduceBEq, A23, A23p, lf, ↓c_ars, ↓p_ars, ↓c_fus, ↓p_fus]
  refine c15.use fun n2 hn2 => ?_
  rcases dec_cases (ckE p = 0) with ⟨d1', d1⟩ | ⟨d1', d1⟩
  case inr =>
    have e1 : vaW p i = (ckE p, []) := by rw [vaW, if_neg d1']
    rw [e1]
    simp -implicitDefEqProofs only [RR, RE, RP, RG, takeV, reduceEqDiff, ↓reduceIte, reduceCtorEq, reduceAdd, reduceLeDiff, reduceLT, Nat.reduceBEq, d1, lf, R23]
    exact VaP.nil (by omega) gk0
  rcases dec_cases (i < 0) with ⟨d2', d2⟩ | ⟨d2', d2⟩
  case inl =>
    have e1 : vaW p i = (2, []) := by rw [vaW, if_pos d1', if_neg (by omega)]
    rw [e1]
    simp -implicitDefEqProofs only [RR, RE, RP, RG, takeV, reduceEqDiff, ↓reduceIte, reduceCtorEq, reduceAdd, reduceLeDiff, reduceLT, Nat.reduceBEq, d1, d2, lf, z2, R23]
    exact VaP.nil (by omega) gk0
  rcases dec_cases ((p.funcs.length : Int) ≤ i) with ⟨d3', d3⟩ | ⟨d3', d3⟩
  case inl =>
    have e1 : vaW p i = (2, []) := by rw [vaW, if_pos d1', if_neg (by omega)]
    rw [e1]
    simp -implicitDefEqProofs only [RR, RE, RP, RG, takeV, reduceEqDiff, ↓reduceIte, reduceCtorEq, reduceAdd, reduceLeDiff, reduceLT, Nat.reduceBEq, d1, d2, d3, lf, z2, R23]
    exact VaP.nil (by omega) gk0
  obtain ⟨j, rfl⟩ : ∃ j : Nat, i = (j : Int) := ⟨i.toNat, by omega⟩
  have hr := List.getElem?_eq_getElem (show j < p.funcs.length by omega)
  generalize p.funcs[j] = f at hr
  have hmem := List.mem_of_getElem? hr
  obtain ⟨hwf, hfn⟩ := ckE_zero d1'
  have ef := hfn f hmem
  have e1 : vaW p j = (0, (fnW p f).2) := by rw [vaW, if_pos d1', if_pos (by omega)]; simp [hr]
  rw [e1]
  have c16 := w49 p j f hr (by omega) (by omega) (fun g hg => by have := o.fp g hg; omega) (by have := o.fp f hmem; omega) (o.fb f hmem) (wfF_body (hwf f hmem)) ((nx, AO.cells [arsA p.arrays, fusA p.funcs]) :: h) n2
  rw [hpe] at c16
  simp -implicitDefEqProofs only [RR, RE, RP, RG, takeV, reduceEqDiff, ↓reduceIte, reduceCtorEq, reduceAdd, reduceLeDiff, reduceLT, Nat.reduceBEq, d1, d2, d3, lf]
  refine c16.mono ?_
  rintro y h2 m2 ⟨vv, kn', rfl, ho, hkn, hm2, hk2⟩
  rw [hkn ef] at ho
  simp -implicitDefEqProofs only [RR, RE, RP, RG, takeV, reduceEqDiff, ↓reduceIte, reduceCtorEq, reduceAdd, reduceLeDiff, reduceLT, Nat.reduceBEq, ef, R23]
  exact ⟨vv, rfl, ho, by omega, fun k o hk hg => hk2 k o (by omega) (gk0 k o hk hg)⟩
def wiW (p : Pr) (i : Int) (x : Ex) : Int × Int :=
  if (vaW p i).1 = 0 then (if big x = true then (4, 0) else if wfE x = true then exW p (vaW p i).2 x else (8, 0)) else ((vaW p i).1, 0)
theorem exK_zero (p : Pr) (kn : List Pm) (k w : Int) (n : Nm) (op : Int) (l : List Int) (h : (exK p kn k w n op l).1 ≠ 0) : (exK p kn k w n op l).2 = 0 := by
  revert h
  unfold exK
  repeat' split
  all_goals simp
theorem exW_zero (p : Pr) (kn : List Pm) (x : Ex) (h : (exW p kn x).1 ≠ 0) : (exW p kn x).2 = 0 := by
  obtain ⟨k, w, b, n, op, s⟩ := x
  rw [exW] at h ⊢
  split
  · rename_i h2
    rw [if_pos h2] at h
    exact exK_zero _ _ _ _ _ _ _ h
  · rfl
theorem vaW_at {p : Pr} {i : Int} (h : (vaW p i).1 = 0) : ckE p = 0 ∧ ∃ (j : Nat) (f : Fu), i = (j : Int) ∧ p.funcs[j]? = some f ∧ (vaW p i).2 = (fnW p f).2 := by
  unfold vaW at h ⊢
  by_cases h1 : ckE p = 0
  · rw [if_pos h1] at h ⊢
    by_cases h2 : 0 ≤ i ∧ i < p.funcs.length
    · rw [if_pos h2] at h ⊢
      obtain ⟨j, rfl⟩ : ∃ j : Nat, i = (j : Int) := ⟨i.toNat, by omega⟩
      have hr := List.getElem?_eq_getElem (show j < p.funcs.length by omega)
      refine ⟨h1, j, p.funcs[j], rfl, hr, ?_⟩
      simp only [Int.toNat_natCast, hr]
    · rw [if_neg h2] at h; simp at h
  · rw [if_neg h1] at h; exact absurd h h1
theorem fnW_len {p : Pr} {f : Fu} : (fnW p f).2.length ≤ f.params.length + szSL f.body := by
  have h1 := prW_len p f.params []
  have h2 := blW_len p f.result f.body (prW p f.params []).2 false
  have h3 := measL_le f.body
  have h4 := stmtsL_sz f.body
  simp only [List.length_nil] at h1
  unfold fnW
  split
  · omega
  · simp
set_option maxHeartbeats 4000000 in
theorem w19 (p : Pr) (i : Int) (x : Ex) (o : OkP p) (hx : szE x ≤ 5000) : Pure Tryz.prog 19 [.agg (prE p), .int .i64 i, .agg (exE x)] (.tup [.int .i64 (wiW p i x).2, .int .i64 (wiW p i x).1]) := by
  refine Pure.of fun nx => AC.go mixed is19 (by simp) ?_
  have oal := o.al
  have ofl := o.fl
  have hpe := prE_eq p
  have hnx := nodes_sz x
  have n1 : (nx + 1 = nx) = False := eq_false (by omega)
  have c6 := w36 p i o [(nx + 1, .cells (exE x)), (nx, .cells [arsA p.arrays, fusA p.funcs])] (nx + 1 + 1)
  rw [hpe] at c6 ⊢
  have lf := fus_len p.funcs
  have rl := ex_len x
  have rt := ex_take x
  have gx0 : hget [(nx + 1, AO.cells (exE x)), (nx, .cells [arsA p.arrays, fusA p.funcs])] (nx + 1) = some (.cells (exE x)) := by simp [hget]
  have gp0 : hget [(nx + 1, AO.cells (exE x)), (nx, .cells [arsA p.arrays, fusA p.funcs])] nx = some (.cells [arsA p.arrays, fusA p.funcs]) := by simp [hget]
  obtain ⟨R, hR⟩ : ∃ R, wiW p i x = R := ⟨_, rfl⟩
  rw [hR]
  unfold wiW at hR
  simp -implicitDefEqProofs only [RR, RE, RP, RG, takeV, reduceEqDiff, ↓reduceIte, reduceCtorEq, reduceAdd, reduceLeDiff, reduceLT, Nat.reduceBEq, A19, A19p, n1, rl, rt, ↓c_ars, ↓p_ars, ↓c_fus, ↓p_fus]
  refine c6.mono ?_
  rintro y h2 n2 ⟨vv, rfl, ho, hn2, hk2⟩
  have gx := hk2 (nx + 1) _ (by omega) gx0
  have gp := hk2 nx _ (by omega) gp0
  rcases dec_cases ((vaW p i).1 = 0) with ⟨d1', d1⟩ | ⟨d1', d1⟩
  case inr =>
    rw [if_neg d1'] at hR
    subst hR
    simp -implicitDefEqProofs only [RR, RE, RP, RG, takeV, reduceEqDiff, ↓reduceIte, reduceCtorEq, reduceAdd, reduceLeDiff, reduceLT, Nat.reduceBEq, d1, R19]
  rw [if_pos d1'] at hR
  simp -implicitDefEqProofs only [RR, RE, RP, RG, takeV, reduceEqDiff, ↓reduceIte, reduceCtorEq, reduceAdd, reduceLeDiff, reduceLT, Nat.reduceBEq, d1, gx, gp, rl, rt]
  refine (w37 x (by omega)).use fun n3 hn3 => ?_
  cases hb : big x with
  | true =>
    rw [if_pos hb] at hR
    subst hR
    simp -implicitDefEqProofs only [RR, RE, RP, RG, takeV, reduceEqDiff, ↓reduceIte, reduceCtorEq, reduceAdd, reduceLeDiff, reduceLT, Nat.reduceBEq, d1, gx, gp, rl, rt, R19]
  | false =>
  rw [hb, if_neg (by simp)] at hR
  simp -implicitDefEqProofs only [RR, RE, RP, RG, takeV, reduceEqDiff, ↓reduceIte, reduceCtorEq, reduceAdd, reduceLeDiff, reduceLT, Nat.reduceBEq, d1, gx, gp, rl, rt]
  refine (w38 _ x (Nat.le_refl _) (by omega) (shE_sz x (by omega))).use fun n4 hn4 => ?_
  cases hw : wfE x with
  | false =>
    rw [hw, if_neg (by simp)] at hR
    subst hR
    simp -implicitDefEqProofs only [RR, RE, RP, RG, takeV, reduceEqDiff, ↓reduceIte, reduceCtorEq, reduceAdd, reduceLeDiff, reduceLT, Nat.reduceBEq, d1, gx, gp, rl, rt, unA, R19]
  | true =>
  rw [if_pos hw] at hR
  obtain ⟨hck, j, f, rfl, hf, hv2⟩ := vaW_at d1'
  have ix := fus_idx hf
  have fe := fuE_eq f
  have hmem := List.mem_of_getElem? hf
  have hkl := @fnW_len p f
  have ofp := o.fp f hmem
  have ofb := o.fb f hmem
  obtain ⟨z1, z2⟩ := own_plain ho
  have nn4 : (n4 = nx + 1) = False := eq_false (by omega)
  rw [hv2] at ho hR
  have c19 := w39 p f vv (fnW p f).2 n4 (by omega) (by omega) _ x (Nat.le_refl _) (by omega) hw ((n4, .cells (chk p f vv)) :: h2) (n4 + 1) (by simp [hget]) (by omega) (.inr (ho.keep (by omega) fun b o hb hg => by rw [hget_cons, if_neg (by have := (ho.blk hb).2.2; omega)]; exact hg))
  simp -implicitDefEqProofs only [RR, RE, RP, RG, takeV, reduceEqDiff, ↓reduceIte, reduceCtorEq, reduceAdd, reduceLeDiff, reduceLT, Nat.reduceBEq, d1, gx, gp, rl, rt, unA, ix, fe, z1, z2, nn4]
  refine c19.mono ?_
  rintro y h5 n5 ⟨rfl, rfl, hn5⟩
  subst hR
  simp -implicitDefEqProofs only [RR, RE, RP, RG, takeV, reduceEqDiff, ↓reduceIte, reduceCtorEq, reduceAdd, reduceLeDiff, reduceLT, Nat.reduceBEq, R19]
set_option maxHeartbeats 4000000 in
theorem w22 (p : Pr) (i : Int) (x : Ex) (o : OkP p) (hx : szE x ≤ 5000) : Pure Tryz.prog 22 [.agg (prE p), .int .i64 i, .agg (exE x)] (.tup [.int .i64 (wiW p i x).2, .int .i64 (wiW p i x).1]) := by
  refine Pure.of fun nx => AC.go mixed is22 (by simp) ?_
  have oal := o.al
  have ofl := o.fl
  have hpe := prE_eq p
  have hnx := nodes_sz x
  have n1 : (nx + 1 = nx) = False := eq_false (by omega)
  have c7 := w23 p i o [(nx + 1, .cells (exE x)), (nx, .cells [arsA p.arrays, fusA p.funcs])] (nx + 1 + 1)
  rw [hpe] at c7 ⊢
  have rl := ex_len x
  have rt := ex_take x
  have gx0 : hget [(nx + 1, AO.cells (exE x)), (nx, .cells [arsA p.arrays, fusA p.funcs])] (nx + 1) = some (.cells (exE x)) := by simp [hget]
  have gp0 : hget [(nx + 1, AO.cells (exE x)), (nx, .cells [arsA p.arrays, fusA p.funcs])] nx = some (.cells [arsA p.arrays, fusA p.funcs]) := by simp [hget]
  obtain ⟨R, hR⟩ : ∃ R, wiW p i x = R := ⟨_, rfl⟩
  rw [hR]
  unfold wiW at hR
  simp -implicitDefEqProofs only [RR, RE, RP, RG, takeV, reduceEqDiff, ↓reduceIte, reduceCtorEq, reduceAdd, reduceLeDiff, reduceLT, Nat.reduceBEq, A22, A22p, n1, rl, rt, ↓c_ars, ↓p_ars, ↓c_fus, ↓p_fus]
  refine c7.mono ?_
  rintro y h2 n2 ⟨vv, rfl, ho, hn2, hk2⟩
  have gx := hk2 (nx + 1) _ (by omega) gx0
  have gp := hk2 nx _ (by omega) gp0
  rcases dec_cases ((vaW p i).1 = 0) with ⟨d1', d1⟩ | ⟨d1', d1⟩
  case inr =>
    rw [if_neg d1'] at hR
    subst hR
    simp -implicitDefEqProofs only [RR, RE, RP, RG, takeV, reduceEqDiff, ↓reduceIte, reduceCtorEq, reduceAdd, reduceLeDiff, reduceLT, Nat.reduceBEq, d1, R22]
  rw [if_pos d1'] at hR
  simp -implicitDefEqProofs only [RR, RE, RP, RG, takeV, reduceEqDiff, ↓reduceIte, reduceCtorEq, reduceAdd, reduceLeDiff, reduceLT, Nat.reduceBEq, d1, gx, gp, rl, rt]
  refine (w46 x (by omega)).use fun n3 hn3 => ?_
  cases hb : big x with
  | true =>
    rw [if_pos hb] at hR
    subst hR
    simp -implicitDefEqProofs only [RR, RE, RP, RG, takeV, reduceEqDiff, ↓reduceIte, reduceCtorEq, reduceAdd, reduceLeDiff, reduceLT, Nat.reduceBEq, d1, gx, gp, rl, rt, R22]
  | false =>
  rw [hb, if_neg (by simp)] at hR
  simp -implicitDefEqProofs only [RR, RE, RP, RG, takeV, reduceEqDiff, ↓reduceIte, reduceCtorEq, reduceAdd, reduceLeDiff, reduceLT, Nat.reduceBEq, d1, gx, gp, rl, rt]
  refine (w47 _ x (Nat.le_refl _) (by omega) (shE_sz x (by omega))).use fun n4 hn4 => ?_
  cases hw : wfE x with
  | false =>
    rw [hw, if_neg (by simp)] at hR
    subst hR
    simp -implicitDefEqProofs only [RR, RE, RP, RG, takeV, reduceEqDiff, ↓reduceIte, reduceCtorEq, reduceAdd, reduceLeDiff, reduceLT, Nat.reduceBEq, d1, gx, gp, rl, rt, unA, R22]
  | true =>
  rw [if_pos hw] at hR
  obtain ⟨hck, j, f, rfl, hf, hv2⟩ := vaW_at d1'
  have hmem := List.mem_of_getElem? hf
  have hkl := @fnW_len p f
  have ofp := o.fp f hmem
  have ofb := o.fb f hmem
  obtain ⟨z1, z2⟩ := own_plain ho
  have nn4 : (n4 = nx + 1) = False := eq_false (by omega)
  rw [hv2] at ho hR
  have hvb : blkOf vv ≠ some n4 := fun e => by have := (ho.blk e).2.2; omega
  have c22 := w48 p j vv (fnW p f).2 n4 (by omega) (by omega) hvb _ x (Nat.le_refl _) (by omega) hw 0 ((n4, .cells (scp p j vv 0)) :: h2) (n4 + 1) (by simp [hget]) (by omega) (.inr (ho.keep (by omega) fun b o hb hg => by rw [hget_cons, if_neg (by have := (ho.blk hb).2.2; omega)]; exact hg))
  simp -implicitDefEqProofs only [RR, RE, RP, RG, takeV, reduceEqDiff, ↓reduceIte, reduceCtorEq, reduceAdd, reduceLeDiff, reduceLT, Nat.reduceBEq, d1, gx, gp, rl, rt, unA, z1, z2, nn4]
  refine c22.mono ?_
  rintro y h5 n5 ⟨r, rfl, hr, gc, hk5, hn5⟩
  rw [if_pos rfl] at gc
  simp only [scp] at gc
  subst hR
  rcases dec_cases ((exW p (fnW p f).2 x).1 = 0) with ⟨d2', d2⟩ | ⟨d2', d2⟩
  · rw [hr rfl d2']
    have z0 : ((0 : Int) = 0) = True := eq_true rfl
    rw [d2'] at gc ⊢
    simp -implicitDefEqProofs only [RR, RE, RP, RG, takeV, reduceEqDiff, ↓reduceIte, reduceCtorEq, reduceAdd, reduceLeDiff, reduceLT, Nat.reduceBEq, gc, z0, R22]
  · rw [exW_zero p _ x d2']
    simp -implicitDefEqProofs only [RR, RE, RP, RG, takeV, reduceEqDiff, ↓reduceIte, reduceCtorEq, reduceAdd, reduceLeDiff, reduceLT, Nat.reduceBEq, gc, d2, R22]
end Go.Proofs.YtgeieafamocnhaaGreatDoor
