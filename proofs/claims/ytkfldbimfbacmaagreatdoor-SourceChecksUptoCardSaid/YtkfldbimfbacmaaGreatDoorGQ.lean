/- Copies of statements and functions. -/
import Derived.Test.YtkfldbimfbacmaaGreatDoorGP
namespace Go.Proofs.YtkfldbimfbacmaaGreatDoor
open Go Go.Ab Go.Proofs
open Nat (reduceEqDiff reduceAdd reduceLeDiff reduceLT)
set_option linter.unusedVariables false
set_option linter.unusedSimpArgs false
set_option maxRecDepth 20000
theorem sub_cons {h' H : Heap} (hs : Sub h' H) {a : Nat} (ha : hget h' a = none) (x : AO) : Sub h' ((a, x) :: H) := fun k o hk => by
  rw [hget_cons, if_neg]
  · exact hs k o hk
  · intro e; subst e; rw [ha] at hk; cases hk
theorem two_e (h : Heap) : Two [] h h := ⟨Sub.nil _, Sub.refl _, fun b o hb => by simp [hget] at hb⟩
theorem none_app {a b : Heap} {k : Nat} (h1 : hget a k = none) (h2 : hget b k = none) : hget (a ++ b) k = none := by rw [hget_append, h1, h2]; rfl
theorem w18 : ∀ (N : Nat) (x : Sm), szS x ≤ N → N ≤ 4000000 → ∀ nx, AC Tryz.prog 18 [.agg (smE x)] [] nx fun y h' n' => ∃ c, y = .ret (.agg c) ∧ DS x h' c
  | 0, x, h, _, _ => by have := szS_eq x; omega
  | N + 1, .mk k n f w l b e, h, hN, nx => by
    have hs := szS_eq (.mk k n f w l b e)
    simp only [Sm.name, Sm.func, Sm.exprs, Sm.body, Sm.els] at hs
    have hl := szEL_len l
    have hb := szSL_len b
    have he := szSL_len e
    have E := each mixed (by rfl) is35q exE l (fun x _ => ex_len x) mkE (by omega) (by omega) (by simp only [maxLen]; omega) 36 fun x hx => w36 4000000 x (by have := szEL_mem hx; omega) (by omega)
    have B := each mixed (by rfl) is17q smE b (fun x _ => sm_len x) mkS (by omega) (by omega) (by simp only [maxLen]; omega) 18 fun x hx => w18 N x (by have := szSL_mem hx; omega) (by omega)
    have G := each mixed (by rfl) is17q smE e (fun x _ => sm_len x) mkS (by omega) (by omega) (by simp only [maxLen]; omega) 18 fun x hx => w18 N x (by have := szSL_mem hx; omega) (by omega)
    refine AC.go mixed is18 (by simp) ?_
    have n1 : (nx + 1 = nx) = False := eq_false (by omega)
    have n2 : (nx = nx + 1) = False := eq_false (by omega)
    rw [sm_mk]
    simp -implicitDefEqProofs only [RR, RE, RP, RG, takeV, reduceEqDiff, ↓reduceIte, reduceCtorEq, reduceAdd, reduceLeDiff, reduceLT, Nat.reduceBEq, A18, A18p, n1, n2]
    refine ((E (nx + 1 + 1)).frame _).mono ?_
    rintro y h' n' ⟨h2, rfl, hn2, hd2, v2, cs2, h02, rfl, O2⟩
    have ga2 := back_of hd2 (show hget _ nx = some _ by simp [hget, n1]; rfl)
    have gb2 := back_of hd2 (show hget _ (nx + 1) = some _ by simp [hget]; rfl)
    have za2 := hd2 nx _ (show hget _ nx = some _ by simp [hget, n1]; rfl)
    have zb2 := hd2 (nx + 1) _ (show hget _ (nx + 1) = some _ by simp [hget]; rfl)
    simp -implicitDefEqProofs only [RR, RE, RP, RG, takeV, reduceEqDiff, ↓reduceIte, reduceCtorEq, reduceAdd, reduceLeDiff, reduceLT, Nat.reduceBEq, ga2, gb2, n1, n2, and_true]
    refine ((B _).frame _).mono ?_
    rintro y h' n3 ⟨h3, rfl, hn3, hd3, v3, cs3, h03, rfl, O3⟩
    have ga3 := back_of hd3 ga2
    have gb3 := back_of hd3 gb2
    have za3 := hd3 nx _ ga2
    have zb3 := hd3 (nx + 1) _ gb2
    simp -implicitDefEqProofs only [RR, RE, RP, RG, takeV, reduceEqDiff, ↓reduceIte, reduceCtorEq, reduceAdd, reduceLeDiff, reduceLT, Nat.reduceBEq, ga3, gb3, n1, n2, and_true]
    refine ((G _).frame _).mono ?_
    rintro y h' n4 ⟨h4, rfl, hn4, hd4, v4, cs4, h04, rfl, O4⟩
    have ga4 := back_of hd4 ga3
    have gb4 := back_of hd4 gb3
    have za4 := hd4 nx _ ga3
    have zb4 := hd4 (nx + 1) _ gb3
    have k1 := O2.1.cel
    have k2 := O2.1.pln
    have k3 := O3.1.cel
    have k4 := O3.1.pln
    have k5 := O4.1.cel
    have k6 := O4.1.pln
    simp -implicitDefEqProofs only [RR, RE, RP, RG, takeV, reduceEqDiff, ↓reduceIte, reduceCtorEq, reduceAdd, reduceLeDiff, reduceLT, Nat.reduceBEq, ga4, gb4, n1, n2, k1, k2, k3, k4, k5, k6, R18]
    obtain ⟨hs3, he3, t3, o3, p3⟩ := own_sms O3
    obtain ⟨hs4, he4, t4, o4, p4⟩ := own_sms O4
    have d23 : Dsj h2 h3 := fun c o hc => hd3 c o (Sub.front _ _ c o hc)
    have d34 : Dsj (h3 ++ h2) h4 := Dsj.app (fun c o hc => hd4 c o (Sub.front _ _ c o hc)) fun c o hc => hd4 c o (Sub.back hd3 c o (Sub.front _ _ c o hc))
    have T := (two_e h2).join t3 d23
    have T' := T.join t4 d34
    obtain ⟨l1, l2⟩ := T.l t4 d34
    obtain ⟨m1, m2⟩ := (two_e h2).l t3 d23
    have U : Sub (h4 ++ (h3 ++ h2)) (h4 ++ (h3 ++ (h2 ++ _))) := Sub.both (Sub.front _ _) (Sub.both ((Sub.front _ _).trans (Sub.back hd4)) ((Sub.front h2 _).trans ((Sub.back hd3).trans (Sub.back hd4))))
    refine ⟨_, rfl, hs4 ++ (hs3 ++ []), he4 ++ (he3 ++ h2), ⟨T'.1.trans ?_, T'.2.1.trans ?_, T'.2.2⟩, ?_⟩
    · exact sub_cons (sub_cons (sub_cons (sub_cons U (none_app za4 (none_app za3 za2)) _) (none_app za4 (none_app za3 za2)) _) (none_app za4 (none_app za3 za2)) _) (none_app zb4 (none_app zb3 zb2)) _
    · exact sub_cons (sub_cons (sub_cons (sub_cons U (none_app za4 (none_app za3 za2)) _) (none_app za4 (none_app za3 za2)) _) (none_app za4 (none_app za3 za2)) _) (none_app zb4 (none_app zb3 zb2)) _
    · simp only [OS]
      refine ⟨v2, v3, v4, cs2, cs3, cs4, _, _, _, rfl, O2.1.sub ?_ (Nat.le_refl _), (O2.2.1.mono O2.2.2.1).mono ?_, o3.sub ?_ (Nat.le_refl _), p3.mono ?_ ?_, o4.sub (Sub.front _ _) (Nat.le_refl _), p4.mono (Sub.front _ _) (Sub.front _ _)⟩
      · exact m2.trans l2
      · exact m2.trans l2
      · exact (Sub.front _ _).trans l1
      · exact (Sub.front _ _).trans l1
      · exact (Sub.front _ _).trans l2
def OF (hs he : Heap) (f : Fu) (c : List AV) : Prop := ∃ vp vb cb n1 n2, c = [.str f.name, vp, .int .i64 f.result, vb] ∧ OwnSl 45 2 he n1 vp (f.params.map pmE) ∧ OwnSl 38 7 hs n2 vb cb ∧ OSs hs he f.body cb
theorem OF.mono {hs he hs' he' : Heap} (h1 : Sub hs hs') (h2 : Sub he he') {f : Fu} {c : List AV} (H : OF hs he f c) : OF hs' he' f c := by
  obtain ⟨vp, vb, cb, n1, n2, k1, k2, k3, k4⟩ := H
  exact ⟨vp, vb, cb, n1, n2, k1, k2.sub h2 (Nat.le_refl _), k3.sub h1 (Nat.le_refl _), k4.mono h1 h2⟩
def OFs (hs he : Heap) : List Fu → List (List AV) → Prop
  | [], cs => cs = []
  | x :: r, cs => ∃ c cs', cs = c :: cs' ∧ OF hs he x c ∧ OFs hs he r cs'
theorem OFs.mono {hs he hs' he' : Heap} (h1 : Sub hs hs') (h2 : Sub he he') : ∀ {l : List Fu} {cs : List (List AV)}, OFs hs he l cs → OFs hs' he' l cs
  | [], cs, H => H
  | x :: r, cs, ⟨c, cs', k1, k2, k3⟩ => ⟨c, cs', k1, k2.mono h1 h2, OFs.mono h1 h2 k3⟩
theorem OFs.snoc {hs he : Heap} {x : Fu} {c : List AV} (H : OF hs he x c) : ∀ {l : List Fu} {cs : List (List AV)}, OFs hs he l cs → OFs hs he (l ++ [x]) (cs ++ [c])
  | [], cs, hl => by obtain rfl : cs = [] := hl; exact ⟨c, [], rfl, H, rfl⟩
  | y :: r, cs, ⟨c', cs', k1, h2, h3⟩ => ⟨c', cs' ++ [c], by rw [k1]; rfl, h2, OFs.snoc H h3⟩
def DF (x : Fu) (h : Heap) (c : List AV) : Prop := ∃ hs he, Two hs he h ∧ OF hs he x c
def DFs (l : List Fu) (h : Heap) (cs : List (List AV)) : Prop := ∃ hs he, Two hs he h ∧ OFs hs he l cs
theorem mkF : Mk 4 DF DFs where
  nil := ⟨[], [], Two.nil, rfl⟩
  snoc l x h h2 cs c hl hx hd := by
    obtain ⟨hs, he, t1, o1⟩ := hl
    obtain ⟨hs2, he2, t2, o2⟩ := hx
    obtain ⟨l1, l2⟩ := t1.l t2 hd
    exact ⟨hs2 ++ hs, he2 ++ he, t1.join t2 hd, OFs.snoc (o2.mono (Sub.front _ _) (Sub.front _ _)) (o1.mono l1 l2)⟩
  len x h c H := by obtain ⟨_, _, _, _, _, _, _, _, rfl, _⟩ := H; rfl
theorem w15 (x : Fu) (hp : x.params.length ≤ 50) (hx : szSL x.body ≤ 4000000) (nx : Nat) : AC Tryz.prog 15 [.agg (fuE x)] [] nx fun y h' n' => ∃ c, y = .ret (.agg c) ∧ DF x h' c := by
  have hb := szSL_len x.body
  have C := clone mixed (by rfl) is16q (x.params.map pmE) (fun z hz => by obtain ⟨a, _, rfl⟩ := List.mem_map.1 hz; rfl) (by simp; omega) (by simp [maxLen]; omega)
  have B := each mixed (by rfl) is17q smE x.body (fun x _ => sm_len x) mkS (by omega) (by omega) (by simp only [maxLen]; omega) 18 fun z hz => w18 4000000 z (by have := szSL_mem hz; omega) (by omega)
  refine AC.go mixed is15 (by simp) ?_
  have n1 : (nx + 1 = nx) = False := eq_false (by omega)
  have n2 : (nx = nx + 1) = False := eq_false (by omega)
  simp -implicitDefEqProofs only [RR, RE, RP, RG, takeV, reduceEqDiff, ↓reduceIte, reduceCtorEq, reduceAdd, reduceLeDiff, reduceLT, Nat.reduceBEq, A15, A15p, n1, n2, fuE]
  refine ((C (nx + 1 + 1)).frame _).mono ?_
  rintro y h' n' ⟨h2, rfl, hn2, hd2, v2, rfl, O2⟩
  have ga2 := back_of hd2 (show hget _ nx = some _ by simp [hget, n1]; rfl)
  have gb2 := back_of hd2 (show hget _ (nx + 1) = some _ by simp [hget]; rfl)
  have za2 := hd2 nx _ (show hget _ nx = some _ by simp [hget, n1]; rfl)
  have zb2 := hd2 (nx + 1) _ (show hget _ (nx + 1) = some _ by simp [hget]; rfl)
  simp -implicitDefEqProofs only [RR, RE, RP, RG, takeV, reduceEqDiff, ↓reduceIte, reduceCtorEq, reduceAdd, reduceLeDiff, reduceLT, Nat.reduceBEq, ga2, gb2, n1, n2, and_true]
  refine ((B _).frame _).mono ?_
  rintro y h' n3 ⟨h3, rfl, hn3, hd3, v3, cs3, h03, rfl, O3⟩
  have ga3 := back_of hd3 ga2
  have gb3 := back_of hd3 gb2
  have za3 := hd3 nx _ ga2
  have zb3 := hd3 (nx + 1) _ gb2
  have k1 := O2.cel
  have k2 := O2.pln
  have k3 := O3.1.cel
  have k4 := O3.1.pln
  simp -implicitDefEqProofs only [RR, RE, RP, RG, takeV, reduceEqDiff, ↓reduceIte, reduceCtorEq, reduceAdd, reduceLeDiff, reduceLT, Nat.reduceBEq, ga3, gb3, n1, n2, k1, k2, k3, k4, R15]
  obtain ⟨hs3, he3, t3, o3, p3⟩ := own_sms O3
  have d23 : Dsj h2 h3 := fun c o hc => hd3 c o (Sub.front _ _ c o hc)
  have T := (two_e h2).join t3 d23
  obtain ⟨m1, m2⟩ := (two_e h2).l t3 d23
  have U : Sub (h3 ++ h2) (h3 ++ (h2 ++ _)) := Sub.both (Sub.front _ _) ((Sub.front h2 _).trans (Sub.back hd3))
  refine ⟨_, rfl, hs3 ++ [], he3 ++ h2, ⟨T.1.trans ?_, T.2.1.trans ?_, T.2.2⟩, v2, v3, cs3, _, _, rfl, O2.sub m2 (Nat.le_refl _), o3.sub (Sub.front _ _) (Nat.le_refl _), p3.mono (Sub.front _ _) (Sub.front _ _)⟩
  · exact sub_cons (sub_cons (sub_cons U (none_app za3 za2) _) (none_app za3 za2) _) (none_app zb3 zb2) _
  · exact sub_cons (sub_cons (sub_cons U (none_app za3 za2) _) (none_app za3 za2) _) (none_app zb3 zb2) _
def OPr (p : Pr) (h : Heap) (c : List AV) : Prop := ∃ va vf cf hs he nx, c = [va, vf] ∧ Two hs he h ∧ OwnSl 43 3 he nx va (p.arrays.map arE) ∧ OwnSl 35 4 h nx vf cf ∧ (∀ b, blkOf vf = some b → hget hs b = none ∧ hget he b = none) ∧ OFs hs he p.funcs cf
theorem w6 (p : Pr) (o : OkP p) (nx : Nat) : AC Tryz.prog 6 [.agg (prE p)] [] nx fun y h' n' => ∃ c, y = .ret (.agg c) ∧ OPr p h' c := by
  have ha := o.al
  have hf := o.fl
  have C := clone mixed (by rfl) is13q (p.arrays.map arE) (fun z hz => by obtain ⟨a, _, rfl⟩ := List.mem_map.1 hz; rfl) (by simp; omega) (by simp [maxLen]; omega)
  have B := each mixed (by rfl) is14q fuE p.funcs (fun x _ => fu_len x) mkF (by omega) (by omega) (by simp only [maxLen]; omega) 15 fun z hz => w15 z (o.fp z hz) (by have := o.fb z hz; omega)
  refine AC.go mixed is6 (by simp) ?_
  have n1 : (nx + 1 = nx) = False := eq_false (by omega)
  have n2 : (nx = nx + 1) = False := eq_false (by omega)
  simp -implicitDefEqProofs only [RR, RE, RP, RG, takeV, reduceEqDiff, ↓reduceIte, reduceCtorEq, reduceAdd, reduceLeDiff, reduceLT, Nat.reduceBEq, A6, A6p, n1, n2, prE]
  refine ((C (nx + 1 + 1)).frame _).mono ?_
  rintro y h' n' ⟨h2, rfl, hn2, hd2, v2, rfl, O2⟩
  have ga2 := back_of hd2 (show hget _ nx = some _ by simp [hget, n1]; rfl)
  have gb2 := back_of hd2 (show hget _ (nx + 1) = some _ by simp [hget]; rfl)
  have za2 := hd2 nx _ (show hget _ nx = some _ by simp [hget, n1]; rfl)
  have zb2 := hd2 (nx + 1) _ (show hget _ (nx + 1) = some _ by simp [hget]; rfl)
  simp -implicitDefEqProofs only [RR, RE, RP, RG, takeV, reduceEqDiff, ↓reduceIte, reduceCtorEq, reduceAdd, reduceLeDiff, reduceLT, Nat.reduceBEq, ga2, gb2, n1, n2, and_true]
  refine ((B _).frame _).mono ?_
  rintro y h' n3 ⟨h3, rfl, hn3, hd3, v3, cs3, h03, rfl, O3⟩
  have ga3 := back_of hd3 ga2
  have gb3 := back_of hd3 gb2
  have za3 := hd3 nx _ ga2
  have zb3 := hd3 (nx + 1) _ gb2
  have k1 := O2.cel
  have k2 := O2.pln
  have k3 := O3.1.cel
  have k4 := O3.1.pln
  simp -implicitDefEqProofs only [RR, RE, RP, RG, takeV, reduceEqDiff, ↓reduceIte, reduceCtorEq, reduceAdd, reduceLeDiff, reduceLT, Nat.reduceBEq, ga3, gb3, n1, n2, k1, k2, k3, k4, R6]
  obtain ⟨ho, ⟨hs, he, ⟨t1, t2, t3⟩, hl⟩, hs0, hk0, hb0, _, _⟩ := O3
  have d23 : Dsj h2 h3 := fun c o hc => hd3 c o (Sub.front _ _ c o hc)
  have T := (two_e h2).join (⟨t1.trans hs0, t2.trans hs0, t3⟩ : Two hs he h3) d23
  obtain ⟨m1, m2⟩ := (two_e h2).l (⟨t1.trans hs0, t2.trans hs0, t3⟩ : Two hs he h3) d23
  have U : Sub (h3 ++ h2) (h3 ++ (h2 ++ _)) := Sub.both (Sub.front _ _) ((Sub.front h2 _).trans (Sub.back hd3))
  refine ⟨_, rfl, v2, v3, cs3, hs ++ [], he ++ h2, n3, rfl, ⟨T.1.trans ?_, T.2.1.trans ?_, T.2.2⟩, (O2.sub m2 (Nat.le_refl _)).mono (by omega), ho.sub ?_ (Nat.le_refl _), fun b hb => ?_, hl.mono (Sub.front _ _) (Sub.front _ _)⟩
  · exact sub_cons U (none_app zb3 zb2) _
  · exact sub_cons U (none_app zb3 zb2) _
  · exact sub_cons (Sub.front _ _) zb3 _
  · have hn := hk0 b hb
    obtain ⟨_, hg, _⟩ := ho.blk hb
    have z1 : ∀ q, Sub q h03 → hget q b = none := fun q hq => by
      cases hqq : hget q b with
      | none => rfl
      | some o' => rw [hq _ _ hqq] at hn; cases hn
    have z2 : hget h2 b = none := d23.symm b _ hg
    exact ⟨none_app (z1 hs t1) rfl, none_app (z1 he t2) z2⟩
end Go.Proofs.YtkfldbimfbacmaaGreatDoor
namespace Go.Proofs.YtkfldbimfbacmaaGreatDoor
open Go Go.Ab Go.Proofs
open Nat (reduceEqDiff reduceAdd reduceLeDiff reduceLT)
set_option linter.unusedVariables false
set_option linter.unusedSimpArgs false
set_option maxRecDepth 20000
theorem w34_of (l : List Ex) (hA : szEL l ≤ 4000000) (H : ∀ x ∈ l, Pure Tryz.prog 34 [exsA x.sub] (exsA x.sub)) : Pure Tryz.prog 34 [exsA l] (exsA l) := by
  refine Pure.own (e := 41) (fun c hc => by obtain ⟨a, _, rfl⟩ := List.mem_map.1 hc; exact ex_len a) fun nx => AC.go mixed is34 (by simp) ?_
  have hla := szEL_len l
  have lv := exs_len l
  simp -implicitDefEqProofs only [RR, RE, RP, RG, takeV, reduceEqDiff, ↓reduceIte, reduceCtorEq, reduceAdd, reduceLeDiff, reduceLT, Nat.reduceBEq, A34, A34p, lv]
  refine go_rounds (fun k st => ∃ i : Nat, k = l.length - i ∧ i ≤ l.length ∧ eget st.env 0 = some (exsA l) ∧ eget st.env 4 = some (.int .i64 i) ∧ st.dm = [] ∧ ∃ v, eget st.env 3 = some v ∧ OwnSl 41 6 st.heap st.nx v ((l.take i).map exE)) (n := l.length) mixed
    ⟨0, rfl, by omega, by simp [eget], by simp [eget], rfl, .nilS, by simp [eget], .inl ⟨rfl, by simp⟩⟩ ?_
  rintro k ⟨env, heap, nx', dm⟩ ⟨i, rfl, hi, g0, g4, hdm, v, g3, ho⟩
  simp only at g0 g3 g4 hdm ho
  subst hdm
  rcases dec_cases ((i : Int) < (l.length : Int)) with ⟨hc, hc'⟩ | ⟨hc, hc'⟩
  case inr =>
    rw [List.take_of_length_le (by omega)] at ho
    simp -implicitDefEqProofs only [RR, RE, RP, RG, takeV, reduceEqDiff, ↓reduceIte, reduceCtorEq, reduceAdd, reduceLeDiff, reduceLT, Nat.reduceBEq, A34l0, A34l0p, g0, g3, g4, lv, hc', R34]
    exact ⟨v, rfl, ho⟩
  have ha := List.getElem?_eq_getElem (show i < l.length by omega)
  generalize l[i] = x at ha
  have ia := exs_idx ha
  have C := H x (List.mem_of_getElem? ha)
  have e1 : (l.take (i + 1)).map exE = (l.take i).map exE ++ [exE x] := by rw [List.take_add_one, ha]; simp
  obtain ⟨k, w, b, n, o, s⟩ := x
  simp only [Ex.sub] at C
  rw [ex_mk] at ia e1
  have f1 : IntKind.i64.wrap ((i : Int) + 1) = ((i + 1 : Nat) : Int) := by rw [w64 (by omega) (by omega)]; omega
  have cx := c_exs s
  have px := p_exs s
  simp -implicitDefEqProofs only [RR, RE, RP, RG, takeV, reduceEqDiff, ↓reduceIte, reduceCtorEq, reduceAdd, reduceLeDiff, reduceLT, Nat.reduceBEq, A34l0, A34l0p, g0, g3, g4, lv, hc', ia]
  refine C.use fun n2 hn2 => ?_
  have kp : ∀ X Y Z : AO, OwnSl 41 6 ((nx', X) :: (nx', Y) :: (nx', Z) :: heap) n2 v ((l.take i).map exE) := fun X Y Z => ho.keep (by omega) fun b o hb hg => by
    have := (ho.blk hb).2.2
    rw [hget_cons, if_neg (by omega), hget_cons, if_neg (by omega), hget_cons, if_neg (by omega)]; exact hg
  obtain ⟨v', h', n', ea, og⟩ := (kp (.cells [.int .u8 k, .int .i64 w, .int .u64 b, .str n, .int .u8 o, exsA s]) (.cells [.int .u8 k, .int .i64 w, .int .u64 b, .str n, .int .u8 o, exsA s]) (.cells [.int .u8 0, .int .i64 0, .int .u64 0, .str [], .int .u8 0, .nilS])).grw (bytes := 72) (ns := [[.int .u8 k, .int .i64 w, .int .u64 b, .str n, .int .u8 o, exsA s]]) (fun c hc => by obtain ⟨a, _, rfl⟩ := List.mem_map.1 hc; exact ex_len a) (by simp) (by simp; omega) (by simp [maxLen]; omega)
  have hone : ((1 : Nat) = 0) = False := by simp
  simp -implicitDefEqProofs only [RR, RE, RP, RG, takeV, reduceEqDiff, ↓reduceIte, reduceCtorEq, reduceAdd, reduceLeDiff, reduceLT, Nat.reduceBEq, g0, g3, g4, cx, px, ea, f1, hone]
  rw [← e1] at og
  exact ⟨l.length - (i + 1), by omega, i + 1, rfl, by omega, rfl, og.1⟩
theorem w34 : ∀ (N : Nat) (l : List Ex), szEL l ≤ N → N ≤ 4000000 → Pure Tryz.prog 34 [exsA l] (exsA l)
  | 0, a, h, hN => w34_of a (by omega) fun x hx => by have := szEL_mem hx; have := szE_eq x; omega
  | N + 1, a, h, hN => w34_of a (by omega) fun x hx => w34 N x.sub (by have := szEL_mem hx; have := szE_eq x; omega) (by omega)
theorem w12_of (l : List Sm) (hA : szSL l ≤ 4000000) (H : ∀ x ∈ l, Pure Tryz.prog 12 [smsA x.body] (smsA x.body) ∧ Pure Tryz.prog 12 [smsA x.els] (smsA x.els)) : Pure Tryz.prog 12 [smsA l] (smsA l) := by
  refine Pure.own (e := 38) (fun c hc => by obtain ⟨a, _, rfl⟩ := List.mem_map.1 hc; exact sm_len a) fun nx => AC.go mixed is12 (by simp) ?_
  have hla := szSL_len l
  have lv := sms_len l
  simp -implicitDefEqProofs only [RR, RE, RP, RG, takeV, reduceEqDiff, ↓reduceIte, reduceCtorEq, reduceAdd, reduceLeDiff, reduceLT, Nat.reduceBEq, A12, A12p, lv]
  refine go_rounds (fun k st => ∃ i : Nat, k = l.length - i ∧ i ≤ l.length ∧ eget st.env 0 = some (smsA l) ∧ eget st.env 4 = some (.int .i64 i) ∧ st.dm = [] ∧ ∃ v, eget st.env 3 = some v ∧ OwnSl 38 7 st.heap st.nx v ((l.take i).map smE)) (n := l.length) mixed
    ⟨0, rfl, by omega, by simp [eget], by simp [eget], rfl, .nilS, by simp [eget], .inl ⟨rfl, by simp⟩⟩ ?_
  rintro k ⟨env, heap, nx', dm⟩ ⟨i, rfl, hi, g0, g4, hdm, v, g3, ho⟩
  simp only at g0 g3 g4 hdm ho
  subst hdm
  rcases dec_cases ((i : Int) < (l.length : Int)) with ⟨hc, hc'⟩ | ⟨hc, hc'⟩
  case inr =>
    rw [List.take_of_length_le (by omega)] at ho
    simp -implicitDefEqProofs only [RR, RE, RP, RG, takeV, reduceEqDiff, ↓reduceIte, reduceCtorEq, reduceAdd, reduceLeDiff, reduceLT, Nat.reduceBEq, A12l0, A12l0p, g0, g3, g4, lv, hc', R12]
    exact ⟨v, rfl, ho⟩
  have ha := List.getElem?_eq_getElem (show i < l.length by omega)
  generalize l[i] = x at ha
  have ia := sms_idx ha
  have hx := List.mem_of_getElem? ha
  have hsx := szSL_mem hx
  have hse := szS_eq x
  have C := H x hx
  have e1 : (l.take (i + 1)).map smE = (l.take i).map smE ++ [smE x] := by rw [List.take_add_one, ha]; simp
  obtain ⟨k, n, f, w, q, b, e⟩ := x
  simp only [Sm.body, Sm.els, Sm.exprs, Sm.name, Sm.func] at C hse
  rw [sm_mk] at ia e1
  have f1 : IntKind.i64.wrap ((i : Int) + 1) = ((i + 1 : Nat) : Int) := by rw [w64 (by omega) (by omega)]; omega
  have cx := c_exs q
  have px := p_exs q
  have cb := c_sms b
  have pb := p_sms b
  have ce := c_sms e
  have pe := p_sms e
  have n1 : (nx' + 1 = nx') = False := eq_false (by omega)
  simp -implicitDefEqProofs only [RR, RE, RP, RG, takeV, reduceEqDiff, ↓reduceIte, reduceCtorEq, reduceAdd, reduceLeDiff, reduceLT, Nat.reduceBEq, A12l0, A12l0p, g0, g3, g4, lv, hc', ia, n1]
  refine (w34 4000000 q (by omega) (by omega)).use fun n2 hn2 => ?_
  simp -implicitDefEqProofs only [RR, RE, RP, RG, takeV, reduceEqDiff, ↓reduceIte, reduceCtorEq, reduceAdd, reduceLeDiff, reduceLT, Nat.reduceBEq, g0, n1, and_true]
  refine C.1.use fun n3 hn3 => ?_
  simp -implicitDefEqProofs only [RR, RE, RP, RG, takeV, reduceEqDiff, ↓reduceIte, reduceCtorEq, reduceAdd, reduceLeDiff, reduceLT, Nat.reduceBEq, g0, n1, and_true]
  refine C.2.use fun n4 hn4 => ?_
  have kp : ∀ X Y Z U W : AO, OwnSl 38 7 ((nx', U) :: (nx', W) :: (nx', X) :: (nx', Y) :: (nx', Z) :: heap) n4 v ((l.take i).map smE) := fun X Y Z U W => ho.keep (by omega) fun b o hb hg => by
    have := (ho.blk hb).2.2
    rw [hget_cons, if_neg (by omega), hget_cons, if_neg (by omega), hget_cons, if_neg (by omega), hget_cons, if_neg (by omega), hget_cons, if_neg (by omega)]; exact hg
  obtain ⟨v', h', n', ea, og⟩ := (kp (.cells [.int .u8 k, .str n, .str f, .int .i64 w, exsA q, smsA b, smsA e]) (.cells [.int .u8 k, .str n, .str f, .int .i64 w, exsA q, smsA b, smsA e]) (.cells [.int .u8 0, .str [], .str [], .int .i64 0, .nilS, .nilS, .nilS]) (.cells [.int .u8 k, .str n, .str f, .int .i64 w, exsA q, smsA b, smsA e]) (.cells [.int .u8 k, .str n, .str f, .int .i64 w, exsA q, smsA b, smsA e])).grw (bytes := 120) (ns := [[.int .u8 k, .str n, .str f, .int .i64 w, exsA q, smsA b, smsA e]]) (fun c hc => by obtain ⟨a, _, rfl⟩ := List.mem_map.1 hc; exact sm_len a) (by simp) (by simp; omega) (by simp [maxLen]; omega)
  have hone : ((1 : Nat) = 0) = False := by simp
  simp -implicitDefEqProofs only [RR, RE, RP, RG, takeV, reduceEqDiff, ↓reduceIte, reduceCtorEq, reduceAdd, reduceLeDiff, reduceLT, Nat.reduceBEq, g0, g3, g4, cx, px, cb, pb, ce, pe, ea, f1, hone]
  rw [← e1] at og
  exact ⟨l.length - (i + 1), by omega, i + 1, rfl, by omega, rfl, og.1⟩
theorem w12 : ∀ (N : Nat) (l : List Sm), szSL l ≤ N → N ≤ 4000000 → Pure Tryz.prog 12 [smsA l] (smsA l)
  | 0, a, h, hN => w12_of a (by omega) fun x hx => by have := szSL_mem hx; have := szS_eq x; omega
  | N + 1, a, h, hN => w12_of a (by omega) fun x hx => ⟨w12 N x.body (by have := szSL_mem hx; have := szS_eq x; omega) (by omega), w12 N x.els (by have := szSL_mem hx; have := szS_eq x; omega) (by omega)⟩
end Go.Proofs.YtkfldbimfbacmaaGreatDoor
namespace Go.Proofs.YtkfldbimfbacmaaGreatDoor
open Go Go.Ab Go.Proofs
open Nat (reduceEqDiff reduceAdd reduceLeDiff reduceLT)
set_option linter.unusedVariables false
set_option linter.unusedSimpArgs false
set_option maxRecDepth 20000
theorem own_alone {e sz : Nat} {h : Heap} {nx : Nat} {x : AV} {es : List (List AV)} (ho : OwnSl e sz h nx x es) : ∃ h2, OwnSl e sz h2 nx x es ∧ Sub h2 h ∧ ∀ b o, hget h2 b = some o → blkOf x = some b := by
  rcases ho with ⟨rfl, rfl⟩ | ⟨b, rfl, hg, hlt⟩
  · exact ⟨[], .inl ⟨rfl, rfl⟩, Sub.nil _, fun b o h => by simp [hget] at h⟩
  · refine ⟨[(b, .cells es.flatten)], .inr ⟨b, rfl, by simp [hget], hlt⟩, fun k o hk => ?_, fun k o hk => ?_⟩
    · rw [hget_cons] at hk
      split at hk
      · rename_i e; subst e; injection hk with hk; subst hk; exact hg
      · simp [hget] at hk
    · rw [hget_cons] at hk
      split at hk
      · rename_i e; subst e; rfl
      · simp [hget] at hk
def QF (f : Fu) (h : Heap) (c : List AV) : Prop := ∃ vp n, c = [.str f.name, vp, .int .i64 f.result, smsA f.body] ∧ OwnSl 45 2 h n vp (f.params.map pmE)
def QFs : List Fu → Heap → List (List AV) → Prop
  | [], h, cs => cs = []
  | x :: r, h, cs => ∃ c cs', cs = c :: cs' ∧ QF x h c ∧ QFs r h cs'
theorem QF.mono {h h' : Heap} (hs : Sub h h') {f : Fu} {c : List AV} (H : QF f h c) : QF f h' c := by
  obtain ⟨vp, n, k1, k2⟩ := H
  exact ⟨vp, n, k1, k2.sub hs (Nat.le_refl _)⟩
theorem QFs.mono {h h' : Heap} (hs : Sub h h') : ∀ {l : List Fu} {cs : List (List AV)}, QFs l h cs → QFs l h' cs
  | [], cs, H => H
  | x :: r, cs, ⟨c, cs', k1, k2, k3⟩ => ⟨c, cs', k1, k2.mono hs, QFs.mono hs k3⟩
theorem QFs.snoc {h : Heap} {x : Fu} {c : List AV} (H : QF x h c) : ∀ {l : List Fu} {cs : List (List AV)}, QFs l h cs → QFs (l ++ [x]) h (cs ++ [c])
  | [], cs, hl => by obtain rfl : cs = [] := hl; exact ⟨c, [], rfl, H, rfl⟩
  | y :: r, cs, ⟨c', cs', k1, h2, h3⟩ => ⟨c', cs' ++ [c], by rw [k1]; rfl, h2, QFs.snoc H h3⟩
theorem mkQ : Mk 4 QF QFs where
  nil := rfl
  snoc l x h h2 cs c hl hx hd := QFs.snoc (hx.mono (Sub.front _ _)) (hl.mono (Sub.back hd))
  len x h c H := by obtain ⟨_, _, rfl, _⟩ := H; rfl
def QPr (p : Pr) (h : Heap) (c : List AV) : Prop := ∃ va vf cf h0 nx, c = [va, vf] ∧ OwnSl 43 3 h nx va (p.arrays.map arE) ∧ OwnD 35 4 QFs p.funcs h nx vf cf h0
theorem c_own {e sz : Nat} {h : Heap} {nx : Nat} {x : AV} {es : List (List AV)} (ho : OwnSl e sz h nx x es) : cellsOf x = [x] ∧ x.plain = true := ⟨ho.cel, ho.pln⟩
theorem OwnD_cons {α : Type} {e sz : Nat} {DL : List α → Heap → List (List AV) → Prop} {l : List α} {h : Heap} {nx : Nat} {v : AV} {cs : List (List AV)} {h0 : Heap} (O : OwnD e sz DL l h nx v cs h0) {a : Nat} (x : AO) (h1 : ∀ b, blkOf v = some b → b ≠ a) (h2 : ∀ b o, hget h0 b = some o → b ≠ a) :
    OwnD e sz DL l ((a, x) :: h) nx v cs h0 := by
  obtain ⟨k1, k2, k3, k4⟩ := O
  refine ⟨k1.keep (Nat.le_refl _) fun b o hb hg => ?_, k2, fun b o hb => ?_, k4⟩
  · rw [hget_cons, if_neg (fun e => h1 b hb e.symm)]; exact hg
  · rw [hget_cons, if_neg (fun e => h2 b o hb e.symm)]; exact k3 b o hb
theorem w5 (p : Pr) (o : OkP p) (nx : Nat) : AC Tryz.prog 5 [.agg (prE p)] [] nx fun y h' n' => ∃ c, y = .ret (.agg c) ∧ QPr p h' c := by
  have hal := o.al
  have hfl := o.fl
  refine AC.go mixed is5 (by simp) ?_
  have n1 : (nx + 1 = nx) = False := eq_false (by omega)
  have n2 : (nx = nx + 1) = False := eq_false (by omega)
  have n3 : (nx + 1 + 1 = nx) = False := eq_false (by omega)
  have n4 : (nx + 1 + 1 = nx + 1) = False := eq_false (by omega)
  have hz : OwnSl 43 3 ((nx + 1 + 1, .cells []) :: (nx + 1, .cells [.nilS, .nilS]) :: (nx, .cells [arsA p.arrays, fusA p.funcs]) :: []) (nx + 1 + 1 + 1) (.os (nx + 1 + 1) 0 43 3 0) [] := .inr ⟨nx + 1 + 1, rfl, by simp [hget], by omega⟩
  obtain ⟨va, ha, na, ea, og⟩ := hz.grw (bytes := 32) (ns := p.arrays.map arE) (by simp) (fun c hc => by obtain ⟨a, _, rfl⟩ := List.mem_map.1 hc; rfl) (by simp; omega) (by simp [maxLen]; omega)
  obtain ⟨oa, hna, fra, ida⟩ := og
  simp only [List.nil_append] at oa
  obtain ⟨ca, pa⟩ := c_own oa
  have gp := fra nx (.cells [arsA p.arrays, fusA p.funcs]) (by omega) (by simp [hget, n3, n1]) (by simp [blkOf]; omega)
  have gr := fra (nx + 1) (.cells [.nilS, .nilS]) (by omega) (by simp [hget, n4]) (by simp [blkOf])
  have fz : ([] : List (List AV)).flatten = [] := rfl
  have ea' : appA 43 3 32 ((nx + 1 + 1, .cells []) :: (nx + 1, .cells [.nilS, .nilS]) :: (nx, .cells [arsA p.arrays, fusA p.funcs]) :: []) (nx + 1 + 1 + 1) (.os (nx + 1 + 1) 0 43 3 0) (arsA p.arrays) = some (va, ha, na) := ea
  have lv := fus_len p.funcs
  simp -implicitDefEqProofs only [RR, RE, RP, RG, takeV, reduceEqDiff, ↓reduceIte, reduceCtorEq, reduceAdd, reduceLeDiff, reduceLT, Nat.reduceBEq, A5, A5p, prE, n1, n2, n3, n4, fz, ea', ca, pa]
  refine go_rounds (fun k st => ∃ i : Nat, k = p.funcs.length - i ∧ i ≤ p.funcs.length ∧ eget st.env 1 = some (.op nx 0) ∧ eget st.env 2 = some (.op (nx + 1) 0) ∧ eget st.env 3 = some (.op na 0) ∧ eget st.env 4 = some (.int .i64 i) ∧ st.dm = [] ∧
    na < st.nx ∧ hget st.heap nx = some (.cells [arsA p.arrays, fusA p.funcs]) ∧ hget st.heap (nx + 1) = some (.cells [.nilS, .nilS]) ∧ ∃ vf cf h0, hget st.heap na = some (.cells [va, vf]) ∧ OwnSl 43 3 st.heap st.nx va (p.arrays.map arE) ∧ (∀ b, blkOf va = some b → b < na ∧ nx + 1 < b ∧ blkOf vf ≠ some b) ∧
    (∀ b, blkOf vf = some b → na < b) ∧ (∀ b o, hget h0 b = some o → na < b) ∧ OwnD 35 4 QFs (p.funcs.take i) st.heap st.nx vf cf h0) (n := p.funcs.length) mixed
    ⟨0, rfl, by omega, by simp [eget], by simp [eget], by simp [eget], by simp [eget], rfl, by simp, ?_, ?_, .nilS, [], [], by simp [hget], ?_, fun b hb => ⟨(oa.blk hb).2.2, ?_, by simp [blkOf]⟩, fun b hb => by simp [blkOf] at hb, fun b o hb => by simp [hget] at hb, .inl ⟨rfl, rfl⟩, rfl, Sub.nil _, fun b hb => by simp [blkOf] at hb, fun b o hb => by simp [hget] at hb, rfl, by simp⟩ ?_
  · simp only [hget_cons]; rw [if_neg (by omega), if_neg (by omega)]; exact gp
  · simp only [hget_cons]; rw [if_neg (by omega), if_neg (by omega)]; exact gr
  · exact oa.keep (by simp only; omega) fun b o hb hg => by
      have := (oa.blk hb).2.2
      simp only [hget_cons]; rw [if_neg (by omega), if_neg (by omega)]; exact hg
  · rcases ida b hb with h | h
    · omega
    · simp [blkOf] at h; omega
  rintro k ⟨env, heap, nx', dm⟩ ⟨i, rfl, hi, g1, g2, g3, g4, hdm, hlt, gp', gr', vf, cf, h0, gq, ova, sva, svf, sh0, hO⟩
  simp only at g1 g2 g3 g4 hdm hlt gp' gr' gq ova hO
  subst hdm
  rcases dec_cases ((i : Int) < (p.funcs.length : Int)) with ⟨hc, hc'⟩ | ⟨hc, hc'⟩
  case inr =>
    rw [List.take_of_length_le (by omega)] at hO
    simp -implicitDefEqProofs only [RR, RE, RP, RG, takeV, reduceEqDiff, ↓reduceIte, reduceCtorEq, reduceAdd, reduceLeDiff, reduceLT, Nat.reduceBEq, A5l0, A5l0p, g1, g2, g3, g4, gp', gr', gq, lv, hc', R5]
    refine ⟨_, rfl, va, vf, cf, h0, nx', rfl, ova.keep (Nat.le_refl _) fun b o hb hg => ?_, OwnD_cons hO _ (fun b hb => ?_) fun b o hb => ?_⟩
    · have := sva b hb
      rw [hget_cons, if_neg (by omega)]; exact hg
    · have := svf b hb; omega
    · have := sh0 b o hb; omega
  have ha := List.getElem?_eq_getElem (show i < p.funcs.length by omega)
  generalize p.funcs[i] = f at ha
  have hf := List.mem_of_getElem? ha
  have ia := fus_idx ha
  have hpl := o.fp f hf
  have hbl := o.fb f hf
  have n5 : (nx' + 1 = nx') = False := eq_false (by omega)
  have n6 : (nx' = na) = False := eq_false (by omega)
  have n7 : (nx' + 1 = na) = False := eq_false (by omega)
  have n8 : (nx' = nx) = False := eq_false (by omega)
  have f1 : IntKind.i64.wrap ((i : Int) + 1) = ((i + 1 : Nat) : Int) := by rw [w64 (by omega) (by omega)]; omega
  have hz2 : OwnSl 45 2 ((nx' + 1, .cells []) :: (nx', .cells [.str f.name, pmsA f.params, .int .i64 f.result, smsA f.body]) :: (nx', .cells [.str [], .nilS, .int .i64 0, .nilS]) :: heap) (nx' + 1 + 1) (.os (nx' + 1) 0 45 2 0) [] := .inr ⟨nx' + 1, rfl, by simp [hget], by omega⟩
  obtain ⟨vp, hp, np, eb, ob⟩ := hz2.grw (bytes := 24) (ns := f.params.map pmE) (by simp) (fun c hc => by obtain ⟨a, _, rfl⟩ := List.mem_map.1 hc; rfl) (by simp; omega) (by simp [maxLen]; omega)
  obtain ⟨op, hnp, frb, idb⟩ := ob
  simp only [List.nil_append] at op
  have eb' : appA 45 2 24 ((nx' + 1, .cells []) :: (nx', .cells [.str f.name, pmsA f.params, .int .i64 f.result, smsA f.body]) :: (nx', .cells [.str [], .nilS, .int .i64 0, .nilS]) :: heap) (nx' + 1 + 1) (.os (nx' + 1) 0 45 2 0) (pmsA f.params) = some (vp, hp, np) := eb
  have old : ∀ b o, b < nx' → hget heap b = some o → hget hp b = some o := fun b o hb hg => frb b o (by omega) (by simp only [hget_cons]; rw [if_neg (by omega), if_neg (by omega), if_neg (by omega)]; exact hg) (by simp [blkOf]; omega)
  have gF := frb nx' (.cells [.str f.name, pmsA f.params, .int .i64 f.result, smsA f.body]) (by omega) (by simp [hget]) (by simp [blkOf])
  have gq2 := old na _ hlt gq
  obtain ⟨cp, pp⟩ := c_own op
  have cb := c_sms f.body
  have pb := p_sms f.body
  simp -implicitDefEqProofs only [RR, RE, RP, RG, takeV, reduceEqDiff, ↓reduceIte, reduceCtorEq, reduceAdd, reduceLeDiff, reduceLT, Nat.reduceBEq, A5l0, A5l0p, fuE, g1, g2, g3, g4, gp', gq, lv, hc', ia, n5, n6, n7, n8, fz, eb', gF, and_true]
  refine (w12 4000000 f.body (by omega) (by omega)).use fun n2 hn2 => ?_
  obtain ⟨h2, o2, s2, b2⟩ := own_alone op
  have hk2 : ∀ b o, hget h2 b = some o → nx' + 1 ≤ b := fun b o hb => by
    rcases idb b (b2 b o hb) with h | h
    · omega
    · simp [blkOf] at h; omega
  have k3 : ((p.funcs.take i).length + 1) * 72 ≤ 140737488355328 := by rw [List.length_take, Nat.min_eq_left (by omega)]; omega
  have k4 : (p.funcs.take i).length + 1 ≤ maxLen := by rw [List.length_take, Nat.min_eq_left (by omega)]; simp only [maxLen]; omega
  have hD : QF f h2 [.str f.name, vp, .int .i64 f.result, smsA f.body] := ⟨vp, np, rfl, o2⟩
  have key := fun X Y : AO => hO.snoc (bytes := 72) (H := (nx', X) :: (nx', Y) :: hp) (n2 := n2) mkQ hD
    (fun b o hb hg => by
      cases hq : hget h2 b with
      | none => rfl
      | some o' => have := hk2 b o' hq; omega)
    (fun b o hb hg => by simp only [hget_cons]; rw [if_neg (by omega), if_neg (by omega)]; exact old b o hb hg)
    (fun b o hb => by have := hk2 b o hb; simp only [hget_cons]; rw [if_neg (by omega), if_neg (by omega)]; exact s2 b o hb)
    (by omega) (fun b o hb => by have := (op.blk (b2 b o hb)).2.2; omega) k3 k4
  obtain ⟨vf', h3, n3', ec, hO', hn3, fr3, id3⟩ := key (.cells [.str f.name, vp, .int .i64 f.result, smsA f.body]) (.cells [.str f.name, vp, .int .i64 f.result, smsA f.body])
  have fr : ∀ b o, b < nx' → hget heap b = some o → blkOf vf ≠ some b → hget h3 b = some o := fun b o hb hg hv => fr3 b o (by omega) (by simp only [hget_cons]; rw [if_neg (by omega), if_neg (by omega)]; exact old b o hb hg) hv
  have gq3 := fr na _ hlt gq fun h => by have := svf na h; omega
  obtain ⟨cf', pf'⟩ := c_own hO'.1
  have hone : ((1 : Nat) = 0) = False := by simp
  simp -implicitDefEqProofs only [RR, RE, RP, RG, takeV, reduceEqDiff, ↓reduceIte, reduceCtorEq, reduceAdd, reduceLeDiff, reduceLT, Nat.reduceBEq, g1, g2, g3, g4, gF, gq2, gq3, n5, n6, n7, n8, cp, pp, cb, pb, ec, cf', pf', f1, hone, and_true]
  have e1 : p.funcs.take (i + 1) = p.funcs.take i ++ [f] := by rw [List.take_add_one, ha]; rfl
  have qx := fr nx _ (by omega) gp' (fun h => by have := svf nx h; omega)
  have qy := fr (nx + 1) _ (by omega) gr' (fun h => by have := svf (nx + 1) h; omega)
  refine ⟨p.funcs.length - (i + 1), by omega, i + 1, rfl, by omega, rfl, by omega, by rw [if_neg (by omega)]; exact qx, by rw [if_neg (by omega)]; exact qy, vf', cf ++ [[.str f.name, vp, .int .i64 f.result, smsA f.body]], h2 ++ h0, rfl, ova.keep (by omega) (fun b o hb hg => ?_), fun b hb => ⟨(sva b hb).1, (sva b hb).2.1, fun h => ?_⟩, fun b hb => ?_, fun b o hb => ?_, ?_⟩
  · have := (sva b hb).1
    rw [hget_cons, if_neg (by omega)]
    exact fr b o (by omega) hg (sva b hb).2.2
  · rcases id3 b h with h | h
    · have := (sva b hb).1; omega
    · exact (sva b hb).2.2 h
  · rcases id3 b hb with h | h
    · omega
    · exact svf b h
  · rw [hget_append] at hb
    cases hq : hget h2 b with
    | none => rw [hq] at hb; exact sh0 b o (by simpa using hb)
    | some o' => have := hk2 b o' hq; omega
  · rw [e1]
    refine OwnD_cons hO' _ (fun b hb => ?_) fun b o hb => ?_
    · rcases id3 b hb with h | h
      · omega
      · have := svf b h; omega
    · rw [hget_append] at hb
      cases hq : hget h2 b with
      | none => rw [hq] at hb; have := sh0 b o (by simpa using hb); omega
      | some o' => have := hk2 b o' hq; omega
theorem w31' (a b : List Pm) (h : Heap) (nx : Nat) (hla : a.length ≤ 1000000) (hlb : b.length ≤ 1000000) : AC Tryz.prog 31 [pmsA a, pmsA b] h nx fun z h' n' => z = .ret (.bool (eqAll sameP a b)) ∧ h' = h ∧ nx ≤ n' := by
  have := w31 (pmsA a) (pmsA b) a b h nx (.inl rfl) (.inl rfl) hla hlb
  rw [sameP_eq] at this
  exact this
theorem w10 (p q : Pr) (o : OkP p) (o' : OkP q) : Pure Tryz.prog 10 [.agg (prE p), .agg (prE q)] (.bool (sameR p q)) := by
  refine Pure.of fun nx => AC.go mixed is10 (by simp) ?_
  have hal := o.al
  have hfl := o.fl
  have n1 : (nx + 1 = nx) = False := eq_false (by omega)
  have la := ars_len p.arrays
  have lb := ars_len q.arrays
  have lf := fus_len p.funcs
  have lg := fus_len q.funcs
  rcases dec_cases ((p.arrays.length : Int) = (q.arrays.length : Int)) with ⟨c1, d1⟩ | ⟨c1, d1⟩
  case inr =>
    have hr : sameR p q = false := by rw [sameR, eqAll_len fun e => c1 (by rw [e]), Bool.false_and]
    simp -implicitDefEqProofs only [RR, RE, RP, RG, takeV, reduceEqDiff, ↓reduceIte, reduceCtorEq, reduceAdd, reduceLeDiff, reduceLT, Nat.reduceBEq, A10, A10p, prE, n1, la, lb, d1, hr, R10]
  rcases dec_cases ((p.funcs.length : Int) = (q.funcs.length : Int)) with ⟨c2, d2⟩ | ⟨c2, d2⟩
  case inr =>
    have hr : sameR p q = false := by rw [sameR, eqAll_len (a := p.funcs) fun e => c2 (by rw [e]), Bool.and_false]
    simp -implicitDefEqProofs only [RR, RE, RP, RG, takeV, reduceEqDiff, ↓reduceIte, reduceCtorEq, reduceAdd, reduceLeDiff, reduceLT, Nat.reduceBEq, A10, A10p, prE, n1, la, lb, lf, lg, d1, d2, hr, R10]
  simp -implicitDefEqProofs only [RR, RE, RP, RG, takeV, reduceEqDiff, ↓reduceIte, reduceCtorEq, reduceAdd, reduceLeDiff, reduceLT, Nat.reduceBEq, A10, A10p, prE, n1, la, lb, lf, lg, d1, d2]
  refine go_rounds (fun k st => ∃ i : Nat, k = p.arrays.length - i ∧ i ≤ p.arrays.length ∧ eqAll sameA (p.arrays.drop i) (q.arrays.drop i) = eqAll sameA p.arrays q.arrays ∧ eget st.env 2 = some (.op nx 0) ∧ eget st.env 3 = some (.op (nx + 1) 0) ∧ eget st.env 5 = some (.int .i64 i) ∧ st.dm = [] ∧
    nx + 1 < st.nx ∧ hget st.heap nx = some (.cells [arsA p.arrays, fusA p.funcs]) ∧ hget st.heap (nx + 1) = some (.cells [arsA q.arrays, fusA q.funcs])) (n := p.arrays.length) mixed
    ⟨0, rfl, by omega, by simp, by simp [eget], by simp [eget], by simp [eget], rfl, by simp only; omega, by simp [hget, n1], by simp [hget]⟩ ?_
  rintro k ⟨env, heap, nx', dm⟩ ⟨i, rfl, hi, hf, g2, g3, g5, hdm, hlt, gp, gq⟩
  simp only at g2 g3 g5 hdm hlt gp gq
  subst hdm
  rcases dec_cases ((i : Int) < (p.arrays.length : Int)) with ⟨hc, hc'⟩ | ⟨hc, hc'⟩
  case inl =>
    have ha := List.getElem?_eq_getElem (show i < p.arrays.length by omega)
    have hb := List.getElem?_eq_getElem (show i < q.arrays.length by omega)
    generalize p.arrays[i] = x at ha
    generalize q.arrays[i] = y at hb
    have ia := ars_idx ha
    have ib := ars_idx hb
    have tx := ar_take x
    have ty := ar_take y
    have lx := ar_len x
    have ly := ar_len y
    have he := eqL_ar x y
    rw [eqAll_drop ha hb] at hf
    cases hq : sameA x y with
    | false =>
      rw [hq] at he
      rw [hq, Bool.false_and] at hf
      have hr : sameR p q = false := by rw [sameR, ← hf, Bool.false_and]
      simp -implicitDefEqProofs only [RR, RE, RP, RG, takeV, reduceEqDiff, ↓reduceIte, reduceCtorEq, reduceAdd, reduceLeDiff, reduceLT, Nat.reduceBEq, A10l0, A10l0p, g2, g3, g5, gp, gq, la, hc', ia, ib, tx, ty, lx, ly, he, hr, R10, and_true]
    | true =>
      rw [hq] at he
      rw [hq, Bool.true_and] at hf
      have f1 : IntKind.i64.wrap ((i : Int) + 1) = ((i + 1 : Nat) : Int) := by rw [w64 (by omega) (by omega)]; omega
      simp -implicitDefEqProofs only [RR, RE, RP, RG, takeV, reduceEqDiff, ↓reduceIte, reduceCtorEq, reduceAdd, reduceLeDiff, reduceLT, Nat.reduceBEq, A10l0, A10l0p, g2, g3, g5, gp, gq, la, hc', ia, ib, tx, ty, lx, ly, he, f1, and_true]
      exact ⟨p.arrays.length - (i + 1), by omega, i + 1, rfl, by omega, hf, rfl, hlt⟩
  have h1 : p.arrays.drop i = [] := List.drop_of_length_le (by omega)
  have h2 : q.arrays.drop i = [] := List.drop_of_length_le (by omega)
  rw [h1, h2] at hf
  have hA : eqAll sameA p.arrays q.arrays = true := by rw [← hf]; rfl
  simp -implicitDefEqProofs only [RR, RE, RP, RG, takeV, reduceEqDiff, ↓reduceIte, reduceCtorEq, reduceAdd, reduceLeDiff, reduceLT, Nat.reduceBEq, A10l0, A10l0p, g2, g3, g5, gp, la, hc']
  refine go_rounds (fun k st => ∃ i : Nat, k = p.funcs.length - i ∧ i ≤ p.funcs.length ∧ eqAll sameF (p.funcs.drop i) (q.funcs.drop i) = eqAll sameF p.funcs q.funcs ∧ eget st.env 2 = some (.op nx 0) ∧ eget st.env 3 = some (.op (nx + 1) 0) ∧ eget st.env 6 = some (.int .i64 i) ∧ st.dm = [] ∧
    nx + 1 < st.nx ∧ hget st.heap nx = some (.cells [arsA p.arrays, fusA p.funcs]) ∧ hget st.heap (nx + 1) = some (.cells [arsA q.arrays, fusA q.funcs])) (n := p.funcs.length) mixed
    ⟨0, rfl, by omega, by simp, by simp [eget, g2], by simp [eget, g3], by simp [eget], rfl, hlt, gp, gq⟩ ?_
  clear g2 g3 g5 hlt gp gq hf h1 h2 hc hc' hi
  rintro k ⟨env, heap, nx', dm⟩ ⟨i, rfl, hi, hf, g2, g3, g6, hdm, hlt, gp, gq⟩
  simp only at g2 g3 g6 hdm hlt gp gq
  subst hdm
  rcases dec_cases ((i : Int) < (p.funcs.length : Int)) with ⟨hc, hc'⟩ | ⟨hc, hc'⟩
  case inr =>
    have h1 : p.funcs.drop i = [] := List.drop_of_length_le (by omega)
    have h2 : q.funcs.drop i = [] := List.drop_of_length_le (by omega)
    rw [h1, h2] at hf
    have hr : sameR p q = true := by rw [sameR, hA, ← hf]; rfl
    simp -implicitDefEqProofs only [RR, RE, RP, RG, takeV, reduceEqDiff, ↓reduceIte, reduceCtorEq, reduceAdd, reduceLeDiff, reduceLT, Nat.reduceBEq, A10l1, A10l1p, g2, g3, g6, gp, lf, hc', hr, R10]
  have ha := List.getElem?_eq_getElem (show i < p.funcs.length by omega)
  have hb := List.getElem?_eq_getElem (show i < q.funcs.length by omega)
  generalize p.funcs[i] = x at ha
  generalize q.funcs[i] = y at hb
  have hx := List.mem_of_getElem? ha
  have hy := List.mem_of_getElem? hb
  have ia := fus_idx ha
  have ib := fus_idx hb
  have f1 : IntKind.i64.wrap ((i : Int) + 1) = ((i + 1 : Nat) : Int) := by rw [w64 (by omega) (by omega)]; omega
  have px := o.fp x hx
  have py := o'.fp y hy
  have bx := o.fb x hx
  have e1 : (nx' + 1 = nx') = False := eq_false (by omega)
  have e2 : (nx' = nx' + 1) = False := eq_false (by omega)
  have e3 : (nx' = nx) = False := eq_false (by omega)
  have e4 : (nx' = nx + 1) = False := eq_false (by omega)
  have e5 : (nx' + 1 = nx) = False := eq_false (by omega)
  rw [eqAll_drop ha hb] at hf
  rcases dec_cases (x.name = y.name) with ⟨c3, d3⟩ | ⟨c3, d3⟩
  case inr =>
    have hr : sameR p q = false := by rw [sameR, ← hf]; simp [sameF, c3]
    simp -implicitDefEqProofs only [RR, RE, RP, RG, takeV, reduceEqDiff, ↓reduceIte, reduceCtorEq, reduceAdd, reduceLeDiff, reduceLT, Nat.reduceBEq, A10l1, A10l1p, fuE, b_str, strA, beqN, bneN, g2, g3, g6, gp, gq, lf, hc', ia, ib, e1, e2, e3, e4, e5, d3, hr, R10, and_true]
  rcases dec_cases (x.result = y.result) with ⟨c4, d4⟩ | ⟨c4, d4⟩
  case inr =>
    have hr : sameR p q = false := by rw [sameR, ← hf]; simp [sameF, c4]
    simp -implicitDefEqProofs only [RR, RE, RP, RG, takeV, reduceEqDiff, ↓reduceIte, reduceCtorEq, reduceAdd, reduceLeDiff, reduceLT, Nat.reduceBEq, A10l1, A10l1p, fuE, b_str, strA, beqN, bneN, g2, g3, g6, gp, gq, lf, hc', ia, ib, e1, e2, e3, e4, e5, d3, d4, hr, R10, and_true]
  simp -implicitDefEqProofs only [RR, RE, RP, RG, takeV, reduceEqDiff, ↓reduceIte, reduceCtorEq, reduceAdd, reduceLeDiff, reduceLT, Nat.reduceBEq, A10l1, A10l1p, fuE, b_str, strA, beqN, bneN, g2, g3, g6, gp, gq, lf, hc', ia, ib, e1, e2, e3, e4, e5, d3, d4, and_true]
  refine (w31' x.params y.params _ _ (by omega) (by omega)).mono ?_
  rintro z h' n2 ⟨rfl, rfl, hn2⟩
  cases h1 : eqAll sameP x.params y.params with
  | false =>
    have hr : sameR p q = false := by rw [sameR, ← hf]; simp [sameF, h1]
    simp -implicitDefEqProofs only [RR, RE, RP, RG, takeV, reduceEqDiff, ↓reduceIte, reduceCtorEq, reduceAdd, reduceLeDiff, reduceLT, Nat.reduceBEq, unA, e1, e2, hr, R10]
  | true =>
    simp -implicitDefEqProofs only [RR, RE, RP, RG, takeV, reduceEqDiff, ↓reduceIte, reduceCtorEq, reduceAdd, reduceLeDiff, reduceLT, Nat.reduceBEq, unA, e1, e2]
    refine (w32 4000000 x.body y.body (by omega) (by omega)).use fun n3 hn3 => ?_
    cases h2 : eqAll sameS x.body y.body with
    | false =>
      have hr : sameR p q = false := by rw [sameR, ← hf]; simp [sameF, h2]
      simp -implicitDefEqProofs only [RR, RE, RP, RG, takeV, reduceEqDiff, ↓reduceIte, reduceCtorEq, reduceAdd, reduceLeDiff, reduceLT, Nat.reduceBEq, unA, hr, R10]
    | true =>
      have hs : sameF x y = true := by simp [sameF, c3, c4, h1, h2]
      rw [hs, Bool.true_and] at hf
      simp -implicitDefEqProofs only [RR, RE, RP, RG, takeV, reduceEqDiff, ↓reduceIte, reduceCtorEq, reduceAdd, reduceLeDiff, reduceLT, Nat.reduceBEq, unA, g2, g3, g6, gp, gq, e3, e4, e5, f1, and_true]
      exact ⟨p.funcs.length - (i + 1), by omega, i + 1, rfl, by omega, hf, rfl, by omega⟩
end Go.Proofs.YtkfldbimfbacmaaGreatDoor
