/- The law of Check, Same and Twin. -/
import Derived.Test.YtkfldbimfbacmaaGreatDoorGQ
namespace Go.Proofs.YtkfldbimfbacmaaGreatDoor
open Go Go.Ab Go.Proofs
open Nat (reduceEqDiff reduceAdd reduceLeDiff reduceLT)
set_option linter.unusedVariables false
set_option linter.unusedSimpArgs false
set_option maxRecDepth 20000
def IceLs (h : Heap) (cs ys : List (List AV)) : Prop := cs.length = ys.length ∧ ∀ (i : Nat) x y, cs[i]? = some x → ys[i]? = some y → IceL h x y
theorem IceLs.nil (h : Heap) : IceLs h [] [] := ⟨rfl, fun i x y hx => by simp at hx⟩
theorem IceLs.cons {h : Heap} {c y : List AV} {cs ys : List (List AV)} (h1 : IceL h c y) (hr : IceLs h cs ys) : IceLs h (c :: cs) (y :: ys) := by
  refine ⟨by simp [hr.1], fun i a b ha hb => ?_⟩
  cases i with
  | zero => simp at ha hb; subst ha; subst hb; exact h1
  | succ i => exact hr.2 i a b (by simpa using ha) (by simpa using hb)
theorem OwnSl_icy {e sz : Nat} {h h' : Heap} {nx : Nat} {x : AV} {es fs : List (List AV)} (ho : OwnSl e sz h' nx x es) (hs : Sub h' h) (hl : ∀ x ∈ es, x.length = sz) (hf : IceLs h es fs) : Ice h x (.lst sz fs) :=
  (ho.sub hs (Nat.le_refl _)).icy hl hf.1 hf.2
theorem ice1 {h : Heap} {x : AV} (hx : x.one = true) {xs ys : List AV} (hr : IceL h xs ys) : IceL h (x :: xs) (x :: ys) := IceL.cons (Ice.refl _ _) hx hr
theorem OEs.lens {h : Heap} : ∀ {l : List Ex} {cs : List (List AV)}, OEs h l cs → ∀ c ∈ cs, c.length = 6
  | [], cs, H => by simp only [OEs] at H; subst H; simp
  | x :: r, cs, H => by
    simp only [OEs] at H
    obtain ⟨c, cs', rfl, h1, h2⟩ := H
    intro d hd
    rcases List.mem_cons.1 hd with rfl | hd
    · exact h1.len
    · exact OEs.lens h2 d hd
mutual
theorem OE.ice {h : Heap} : ∀ {x : Ex} {c : List AV}, OE h x c → IceL h c (exE x)
  | .mk k w b n o s, c, H => by
    simp only [OE] at H
    obtain ⟨v, cs, nx, rfl, h2, h3⟩ := H
    rw [ex_mk]
    exact ice1 rfl (ice1 rfl (ice1 rfl (ice1 rfl (ice1 rfl (IceL.cons (OwnSl_icy h2 (Sub.refl _) h3.lens (OEs.ice h3)) rfl (IceL.nil _))))))
theorem OEs.ice {h : Heap} : ∀ {l : List Ex} {cs : List (List AV)}, OEs h l cs → IceLs h cs (l.map exE)
  | [], cs, H => by simp only [OEs] at H; subst H; exact IceLs.nil _
  | x :: r, cs, H => by
    simp only [OEs] at H
    obtain ⟨c, cs', rfl, h1, h2⟩ := H
    exact IceLs.cons (OE.ice h1) (OEs.ice h2)
end
theorem OSs.lens {hs he : Heap} : ∀ {l : List Sm} {cs : List (List AV)}, OSs hs he l cs → ∀ c ∈ cs, c.length = 7
  | [], cs, H => by simp only [OSs] at H; subst H; simp
  | x :: r, cs, H => by
    simp only [OSs] at H
    obtain ⟨c, cs', rfl, h1, h2⟩ := H
    intro d hd
    rcases List.mem_cons.1 hd with rfl | hd
    · exact h1.len
    · exact OSs.lens h2 d hd
mutual
theorem OS.ice {h : Heap} : ∀ {x : Sm} {c : List AV}, OS h h x c → IceL h c (smE x)
  | .mk k n f w l b e, c, H => by
    simp only [OS] at H
    obtain ⟨vl, vb, ve, cl, cb, ce, n1, n2, n3, rfl, k2, k3, k4, k5, k6, k7⟩ := H
    rw [sm_mk]
    exact ice1 rfl (ice1 rfl (ice1 rfl (ice1 rfl (IceL.cons (OwnSl_icy k2 (Sub.refl _) k3.lens k3.ice) rfl (IceL.cons (OwnSl_icy k4 (Sub.refl _) k5.lens (OSs.ice k5)) rfl (IceL.cons (OwnSl_icy k6 (Sub.refl _) k7.lens (OSs.ice k7)) rfl (IceL.nil _)))))))
theorem OSs.ice {h : Heap} : ∀ {l : List Sm} {cs : List (List AV)}, OSs h h l cs → IceLs h cs (l.map smE)
  | [], cs, H => by simp only [OSs] at H; subst H; exact IceLs.nil _
  | x :: r, cs, H => by
    simp only [OSs] at H
    obtain ⟨c, cs', rfl, h1, h2⟩ := H
    exact IceLs.cons (OS.ice h1) (OSs.ice h2)
end
theorem flat_ice {α : Type} {h : Heap} (f : α → List AV) (hf : ∀ x, ∀ c ∈ f x, c.one = true) : ∀ l : List α, IceLs h (l.map f) (l.map f)
  | [] => IceLs.nil _
  | x :: r => IceLs.cons (IceL.same (hf x)) (flat_ice f hf r)
theorem pm_one (x : Pm) : ∀ c ∈ pmE x, c.one = true := by intro c hc; simp [pmE] at hc; rcases hc with rfl | rfl <;> rfl
theorem ar_one (x : Ar) : ∀ c ∈ arE x, c.one = true := by intro c hc; simp [arE] at hc; rcases hc with rfl | rfl | rfl <;> rfl
theorem pms_lens (l : List Pm) : ∀ c ∈ l.map pmE, c.length = 2 := fun c hc => by obtain ⟨a, _, rfl⟩ := List.mem_map.1 hc; rfl
theorem ars_lens (l : List Ar) : ∀ c ∈ l.map arE, c.length = 3 := fun c hc => by obtain ⟨a, _, rfl⟩ := List.mem_map.1 hc; rfl
theorem OF.ice {h : Heap} {f : Fu} {c : List AV} (H : OF h h f c) : IceL h c (fuE f) := by
  obtain ⟨vp, vb, cb, n1, n2, rfl, k2, k3, k4⟩ := H
  exact ice1 rfl (IceL.cons (OwnSl_icy k2 (Sub.refl _) (pms_lens _) (flat_ice pmE pm_one _)) rfl (ice1 rfl (IceL.cons (OwnSl_icy k3 (Sub.refl _) k4.lens k4.ice) rfl (IceL.nil _))))
theorem OFs.ice {h : Heap} : ∀ {l : List Fu} {cs : List (List AV)}, OFs h h l cs → IceLs h cs (l.map fuE)
  | [], cs, H => by obtain rfl : cs = [] := H; exact IceLs.nil _
  | x :: r, cs, ⟨c, cs', k1, k2, k3⟩ => by subst k1; exact IceLs.cons k2.ice (OFs.ice k3)
theorem OFs.lens {hs he : Heap} : ∀ {l : List Fu} {cs : List (List AV)}, OFs hs he l cs → ∀ c ∈ cs, c.length = 4
  | [], cs, H => by obtain rfl : cs = [] := H; simp
  | x :: r, cs, ⟨c, cs', k1, k2, k3⟩ => by
    subst k1
    obtain ⟨_, _, _, _, _, rfl, _⟩ := k2
    intro d hd
    rcases List.mem_cons.1 hd with rfl | hd
    · rfl
    · exact OFs.lens k3 d hd
theorem OPr.ice {p : Pr} {h h' : Heap} {c : List AV} (H : OPr p h c) (hs : Sub h h') : Ice h' (.agg c) (.agg (prE p)) := by
  obtain ⟨va, vf, cf, a, e, nx, rfl, ⟨t1, t2, t3⟩, k1, k2, k3, k4⟩ := H
  exact Ice.agg (IceL.cons (OwnSl_icy k1 (t2.trans hs) (ars_lens _) (flat_ice arE ar_one _)) rfl (IceL.cons (OwnSl_icy k2 hs k4.lens (k4.mono (t1.trans hs) (t2.trans hs)).ice) rfl (IceL.nil _)))
theorem QFs.ice {h : Heap} : ∀ {l : List Fu} {cs : List (List AV)}, QFs l h cs → IceLs h cs (l.map fuE)
  | [], cs, H => by obtain rfl : cs = [] := H; exact IceLs.nil _
  | x :: r, cs, ⟨c, cs', k1, k2, k3⟩ => by
    subst k1
    obtain ⟨vp, n, rfl, ho⟩ := k2
    exact IceLs.cons (ice1 rfl (IceL.cons (OwnSl_icy ho (Sub.refl _) (pms_lens _) (flat_ice pmE pm_one _)) rfl (ice1 rfl (ice1 rfl (IceL.nil _))))) (QFs.ice k3)
theorem QPr.ice {p : Pr} {h h' : Heap} {c : List AV} (H : QPr p h c) (hs : Sub h h') : Ice h' (.agg c) (.agg (prE p)) := by
  obtain ⟨va, vf, cf, h0, nx, rfl, k1, k2, k3, k4, k5, k6, k7, k8⟩ := H
  exact Ice.agg (IceL.cons (OwnSl_icy k1 hs (ars_lens _) (flat_ice arE ar_one _)) rfl (IceL.cons (OwnSl_icy k2 hs k8 (k3.mono (k4.trans hs)).ice) rfl (IceL.nil _)))
end Go.Proofs.YtkfldbimfbacmaaGreatDoor
namespace Go.Proofs.YtkfldbimfbacmaaGreatDoor
open Go Go.Ab Go.Proofs
open Nat (reduceEqDiff reduceAdd reduceLeDiff reduceLT)
set_option linter.unusedVariables false
set_option linter.unusedSimpArgs false
set_option maxRecDepth 20000
def Ag (sz off : Nat) (c' c : List AV) : Prop := c'.length = c.length ∧ ∀ j, j % sz ≠ off → c'[j]? = c[j]?
def LV (sz off : Nat) (h0 h : Heap) : Prop := ∀ b cs, hget h0 b = some (.cells cs) → ∃ cs', hget h b = some (.cells cs') ∧ Ag sz off cs' cs
theorem LV.of {sz off : Nat} {h0 h : Heap} (hs : Sub h0 h) : LV sz off h0 h := fun b cs hb => ⟨cs, hs _ _ hb, rfl, fun _ _ => rfl⟩
theorem LV.other {sz off b : Nat} {h0 h h' : Heap} (L : LV sz off h0 h) (hb : hget h0 b = none) (hk : ∀ k, k ≠ b → hget h' k = hget h k) : LV sz off h0 h' := fun k cs hk' => by
  obtain ⟨cs', h1, h2⟩ := L k cs hk'
  exact ⟨cs', by rw [hk k (fun e => by subst e; rw [hb] at hk'; cases hk')]; exact h1, h2⟩
theorem LV.put {e sz off n i : Nat} {h0 h : Heap} {v : AV} {cs : List (List AV)} (L : LV sz off h0 h) (ho : OwnSl e sz h0 n v cs) (hl : ∀ c ∈ cs, c.length = sz) (hi : i < cs.length) (hoff : off < sz) (x : AV) :
    ∃ b h', idxA sz v (i : Int) = some (.op b (i * sz)) ∧ storeH h (.op b (i * sz + off)) [x] = some h' ∧ LV sz off h0 h' ∧ (∀ k, k ≠ b → hget h' k = hget h k) ∧ ∃ o, hget h0 b = some o := by
  rcases ho with ⟨rfl, rfl⟩ | ⟨b, rfl, hg, _⟩
  · simp at hi
  obtain ⟨cs', h1, h2, h3⟩ := L b _ hg
  have hfl : cs.flatten.length = cs.length * sz := flat_len hl
  have hle : i * sz + sz ≤ cs.length * sz := by
    have := Nat.mul_le_mul_right sz (show i + 1 ≤ cs.length by omega)
    rw [Nat.add_mul, Nat.one_mul] at this; exact this
  have hlt : i * sz + off < cs'.length := by omega
  refine ⟨b, hset h b (.cells (splice cs' (i * sz + off) [x])), ?_, ?_, fun k c hk => ?_, fun k hk => ?_, _, hg⟩
  · have : (i : Int) < (cs.length : Int) := by omega
    simp [idxA, this]
  · simp only [storeH, h1]
    rw [if_pos (by simp only [List.length_cons, List.length_nil]; omega)]
  · by_cases e : b = k
    · subst e
      rw [hg] at hk; cases hk
      refine ⟨_, by rw [hget_hset, if_pos rfl], ?_, fun j hj => ?_⟩
      · rw [splice_one _ _ _ hlt, List.length_set]; exact h2
      · rw [splice_one _ _ _ hlt, List.getElem?_set_ne, h3 j hj]
        intro e; subst e
        rw [Nat.mul_comm, Nat.mul_add_mod, Nat.mod_eq_of_lt hoff] at hj
        exact hj rfl
    · obtain ⟨c', k1, k2⟩ := L k c hk
      exact ⟨c', by rw [hget_hset, if_neg e]; exact k1, k2⟩
  · rw [hget_hset, if_neg (fun e => hk e.symm)]
theorem LV.get {e sz off n i o : Nat} {h0 h : Heap} {v x : AV} {cs : List (List AV)} {c : List AV} (L : LV sz off h0 h) (ho : OwnSl e sz h0 n v cs) (hl : ∀ c ∈ cs, c.length = sz) (hc : cs[i]? = some c) (hx : c[o]? = some x) (hne : o ≠ off) :
    ∃ b, idxA sz v (i : Int) = some (.op b (i * sz)) ∧ ∃ r, ptrCells h (.op b (i * sz + o)) = some (x :: r) := by
  have hi := (List.getElem?_eq_some_iff.1 hc).1
  rcases ho with ⟨rfl, rfl⟩ | ⟨b, rfl, hg, _⟩
  · simp at hi
  obtain ⟨cs', h1, h2, h3⟩ := L b _ hg
  have hlc := hl c (List.mem_of_getElem? hc)
  have ho : o < sz := by rw [← hlc]; exact (List.getElem?_eq_some_iff.1 hx).1
  have hat := flat_at hl i c hc o x hx
  have hj : (i * sz + o) % sz ≠ off := by rw [Nat.mul_comm, Nat.mul_add_mod, Nat.mod_eq_of_lt ho]; exact hne
  rw [← h3 _ hj] at hat
  refine ⟨b, ?_, cs'.drop (i * sz + o + 1), ?_⟩
  · have : (i : Int) < (cs.length : Int) := by omega
    simp [idxA, this]
  · simp only [ptrCells, h1]
    rw [List.drop_eq_getElem_cons (List.getElem?_eq_some_iff.1 hat).1, (List.getElem?_eq_some_iff.1 hat).2]
theorem OEs.at {h : Heap} : ∀ {l : List Ex} {cs : List (List AV)}, OEs h l cs → cs.length = l.length
  | [], cs, H => by simp only [OEs] at H; subst H; rfl
  | x :: r, cs, H => by
    simp only [OEs] at H
    obtain ⟨c, cs', rfl, h1, h2⟩ := H
    simp [OEs.at h2]
theorem OSs.at {hs he : Heap} : ∀ {l : List Sm} {cs : List (List AV)}, OSs hs he l cs → cs.length = l.length ∧ ∀ (i : Nat) x, l[i]? = some x → ∃ c, cs[i]? = some c ∧ OS hs he x c
  | [], cs, H => by simp only [OSs] at H; subst H; exact ⟨rfl, fun i x h => by simp at h⟩
  | y :: r, cs, H => by
    simp only [OSs] at H
    obtain ⟨c, cs', rfl, h1, h2⟩ := H
    obtain ⟨h3, h4⟩ := OSs.at h2
    refine ⟨by simp [h3], fun i x hx => ?_⟩
    cases i with
    | zero => simp at hx; subst hx; exact ⟨c, rfl, h1⟩
    | succ i => simpa using h4 i x (by simpa using hx)
theorem OFs.at {hs he : Heap} : ∀ {l : List Fu} {cs : List (List AV)}, OFs hs he l cs → cs.length = l.length ∧ ∀ (i : Nat) x, l[i]? = some x → ∃ c, cs[i]? = some c ∧ OF hs he x c
  | [], cs, H => by obtain rfl : cs = [] := H; exact ⟨rfl, fun i x h => by simp at h⟩
  | y :: r, cs, ⟨c, cs', k1, h1, h2⟩ => by
    subst k1
    obtain ⟨h3, h4⟩ := OFs.at h2
    refine ⟨by simp [h3], fun i x hx => ?_⟩
    cases i with
    | zero => simp at hx; subst hx; exact ⟨c, rfl, h1⟩
    | succ i => simpa using h4 i x (by simpa using hx)
def MI (hk hf hs he : Heap) (h : Heap) : Prop := Sub hk h ∧ LV 4 0 hf h ∧ LV 7 1 hs h ∧ LV 6 0 he h
theorem sub_other {hk h h' : Heap} {b : Nat} (hs : Sub hk h) (hb : hget hk b = none) (ho : ∀ k, k ≠ b → hget h' k = hget h k) : Sub hk h' := fun k o hk' => by
  rw [ho k (fun e => by subst e; rw [hb] at hk'; cases hk')]; exact hs k o hk'
theorem none_of {h0 h1 : Heap} (hd : Dsj h0 h1) {b : Nat} {o : AO} (hb : hget h0 b = some o) : hget h1 b = none := hd b o hb
end Go.Proofs.YtkfldbimfbacmaaGreatDoor
namespace Go.Proofs.YtkfldbimfbacmaaGreatDoor
open Go Go.Ab Go.Proofs
open Nat (reduceEqDiff reduceAdd reduceLeDiff reduceLT)
set_option linter.unusedVariables false
set_option linter.unusedSimpArgs false
set_option maxRecDepth 20000
def wrt : AV := .str [119, 114, 105, 116, 116, 101, 110]
theorem w9s (a : Pr) (o : OkP a) : Pure Tryz.prog 9 [.agg (prE a), .agg (prE a)] (.bool true) := by have := w9 a a o; rwa [sameR_self] at this
theorem w10s (a : Pr) (o : OkP a) : Pure Tryz.prog 10 [.agg (prE a), .agg (prE a)] (.bool true) := by have := w10 a a o o; rwa [sameR_self] at this
theorem pc_of {h : Heap} {n : Nat} {x y : AV} (hg : hget h n = some (.cells [x, y])) : ptrCells h (.op n 1) = some [y] := by simp [ptrCells, hg]
theorem MI.F {hk hf hs he h h' : Heap} {b : Nat} {o : AO} (M : MI hk hf hs he h) (L : LV 4 0 hf h') (ok : ∀ k, k ≠ b → hget h' k = hget h k) (hb : hget hf b = some o) (d1 : Dsj hf hk) (d2 : Dsj hf hs) (d3 : Dsj hf he) : MI hk hf hs he h' :=
  ⟨sub_other M.1 (d1 b o hb) ok, L, M.2.2.1.other (d2 b o hb) ok, M.2.2.2.other (d3 b o hb) ok⟩
theorem MI.S {hk hf hs he h h' : Heap} {b : Nat} {o : AO} (M : MI hk hf hs he h) (L : LV 7 1 hs h') (ok : ∀ k, k ≠ b → hget h' k = hget h k) (hb : hget hs b = some o) (d1 : Dsj hs hk) (d2 : Dsj hs hf) (d3 : Dsj hs he) : MI hk hf hs he h' :=
  ⟨sub_other M.1 (d1 b o hb) ok, M.2.1.other (d2 b o hb) ok, L, M.2.2.2.other (d3 b o hb) ok⟩
theorem MI.E {hk hf hs he h h' : Heap} {b : Nat} {o : AO} (M : MI hk hf hs he h) (L : LV 6 0 he h') (ok : ∀ k, k ≠ b → hget h' k = hget h k) (hb : hget he b = some o) (d1 : Dsj he hk) (d2 : Dsj he hf) (d3 : Dsj he hs) : MI hk hf hs he h' :=
  ⟨sub_other M.1 (d1 b o hb) ok, M.2.1.other (d2 b o hb) ok, M.2.2.1.other (d3 b o hb) ok, L⟩
theorem ice_two {h : Heap} {x x' y y' : AV} (h1 : Ice h x x') (h2 : Ice h y y') : IceA h [x, y] [x', y'] := ⟨h1, h2, trivial⟩
set_option maxHeartbeats 4000000 in
theorem w3 (a b : Pr) (hA : szP a ≤ 4000000) (hB : szP b ≤ 4000000) : Pure Tryz.prog 3 [.agg (prE a), .agg (prE b)] (.bool true) := by
  refine Pure.of fun nx => AC.go mixed is3 (by simp) ?_
  have n1 : (nx + 1 = nx) = False := eq_false (by omega)
  simp -implicitDefEqProofs only [RR, RE, RP, RG, takeV, reduceEqDiff, ↓reduceIte, reduceCtorEq, reduceAdd, reduceLeDiff, reduceLT, Nat.reduceBEq, A3, A3p, prE, n1]
  refine (w4 a hA).use fun n2 hn2 => ?_
  cases hga : grP a with
  | true => simp -implicitDefEqProofs only [RR, RE, RP, RG, takeV, reduceEqDiff, ↓reduceIte, reduceCtorEq, reduceAdd, reduceLeDiff, reduceLT, Nat.reduceBEq, R3]
  | false =>
  simp -implicitDefEqProofs only [RR, RE, RP, RG, takeV, reduceEqDiff, ↓reduceIte, reduceCtorEq, reduceAdd, reduceLeDiff, reduceLT, Nat.reduceBEq, n1]
  refine (w4 b hB).use fun n3 hn3 => ?_
  cases hgb : grP b with
  | true => simp -implicitDefEqProofs only [RR, RE, RP, RG, takeV, reduceEqDiff, ↓reduceIte, reduceCtorEq, reduceAdd, reduceLeDiff, reduceLT, Nat.reduceBEq, R3]
  | false =>
  have o := grP_ok hga
  have o' := grP_ok hgb
  simp -implicitDefEqProofs only [RR, RE, RP, RG, takeV, reduceEqDiff, ↓reduceIte, reduceCtorEq, reduceAdd, reduceLeDiff, reduceLT, Nat.reduceBEq, n1]
  refine (((w5 a o n3).lives).frame _).mono ?_
  rintro y h' n4 ⟨h2, rfl, hn4, hd2, ⟨c5, rfl, Q⟩, _, lt2⟩
  have ga2 := back_of hd2 (show hget _ nx = some _ by simp [hget, n1]; rfl)
  have gb2 := back_of hd2 (show hget _ (nx + 1) = some _ by simp [hget]; rfl)
  obtain ⟨va5, vf5, Q5⟩ : ∃ x y, c5 = [x, y] := by obtain ⟨va, vf, _, _, _, rfl, _⟩ := Q; exact ⟨va, vf, rfl⟩
  subst Q5
  have m1 : (n4 = nx) = False := eq_false (by omega)
  have m2 : (n4 = nx + 1) = False := eq_false (by omega)
  simp -implicitDefEqProofs only [RR, RE, RP, RG, takeV, reduceEqDiff, ↓reduceIte, reduceCtorEq, reduceAdd, reduceLeDiff, reduceLT, Nat.reduceBEq, ga2, gb2, n1, m1, m2]
  refine (((w6 a o (n4 + 1)).lives).frame _).mono ?_
  rintro y h' n6 ⟨h3, rfl, hn6, hd3, ⟨c6, rfl, O⟩, _, lt3⟩
  have ga3 := back_of hd3 (show hget _ nx = some (.cells [arsA a.arrays, fusA a.funcs]) by simp only [hget_cons]; rw [if_neg (by omega), if_neg (by omega)]; exact ga2)
  have gb3 := back_of hd3 (show hget _ (nx + 1) = some (.cells [arsA b.arrays, fusA b.funcs]) by simp only [hget_cons]; rw [if_neg (by omega), if_neg (by omega)]; exact gb2)
  have gw3 := back_of hd3 (show hget _ n4 = some (.cells [va5, vf5]) by simp [hget])
  have zx3 := hd3 nx _ (show hget _ nx = some (.cells [arsA a.arrays, fusA a.funcs]) by simp only [hget_cons]; rw [if_neg (by omega), if_neg (by omega)]; exact ga2)
  have zw3 := hd3 n4 _ (show hget _ n4 = some (.cells [va5, vf5]) by simp [hget])
  have d23 : Dsj h2 h3 := fun k q hq => hd3 k q (by
    have := lt2 k q hq
    simp only [hget_cons]; rw [if_neg (by omega), if_neg (by omega)]; exact Sub.front _ _ k q hq)
  obtain ⟨va, vf, cf, hs, he, nq, rfl, T, oa, of, sep, ofs⟩ := O
  have O : OPr a h3 [va, vf] := ⟨va, vf, cf, hs, he, nq, rfl, T, oa, of, sep, ofs⟩
  have z6 : hget h3 n6 = none := by
    cases hq : hget h3 n6 with
    | none => rfl
    | some q => have := lt3 n6 q hq; omega
  have m3 : (n6 = nx) = False := eq_false (by omega)
  have m4 : (n6 = nx + 1) = False := eq_false (by omega)
  have m5 : (n6 = n4) = False := eq_false (by omega)
  have qk : (ckE a = ckE a) = True := eq_true rfl
  simp -implicitDefEqProofs only [RR, RE, RP, RG, takeV, reduceEqDiff, ↓reduceIte, reduceCtorEq, reduceAdd, reduceLeDiff, reduceLT, Nat.reduceBEq, ga3, gb3, gw3, n1, m1, m2, m3, m4, m5, and_true]
  refine (w7 a o).use fun n7 hn7 => ?_
  simp -implicitDefEqProofs only [RR, RE, RP, RG, takeV, reduceEqDiff, ↓reduceIte, reduceCtorEq, reduceAdd, reduceLeDiff, reduceLT, Nat.reduceBEq, ga3, gb3, gw3, n1, m1, m2, m3, m4, m5, and_true]
  refine (w8 a o).use fun n8 hn8 => ?_
  simp -implicitDefEqProofs only [RR, RE, RP, RG, takeV, reduceEqDiff, ↓reduceIte, reduceCtorEq, reduceAdd, reduceLeDiff, reduceLT, Nat.reduceBEq, ga3, gb3, gw3, n1, m1, m2, m3, m4, m5, and_true, qk]
  refine (w9 a b o).use fun n9 hn9 => ?_
  simp -implicitDefEqProofs only [RR, RE, RP, RG, takeV, reduceEqDiff, ↓reduceIte, reduceCtorEq, reduceAdd, reduceLeDiff, reduceLT, Nat.reduceBEq, ga3, gb3, gw3, n1, m1, m2, m3, m4, m5, and_true]
  refine (w10 a b o o').use fun n10 hn10 => ?_
  simp -implicitDefEqProofs only [RR, RE, RP, RG, takeV, reduceEqDiff, ↓reduceIte, reduceCtorEq, reduceAdd, reduceLeDiff, reduceLT, Nat.reduceBEq, ga3, gb3, gw3, n1, m1, m2, m3, m4, m5, and_true, beq_self_eq_true]
  have s3 : ∀ X Y : AO, Sub h3 ((n6, X) :: (n6, Y) :: (h3 ++ (n4, .cells [va5, vf5]) :: (n4, .cells [.nilS, .nilS]) :: (h2 ++ [(nx + 1, .cells [arsA b.arrays, fusA b.funcs]), (nx, .cells [arsA a.arrays, fusA a.funcs])]))) := fun X Y => sub_cons (sub_cons (Sub.front _ _) z6 _) z6 _
  refine (AC.ro (w9s a o) (ice_two (Ice.refl _ _) (O.ice (s3 _ _))) rfl).mono ?_
  rintro y h' n11 ⟨rfl, rfl, hn11⟩
  simp -implicitDefEqProofs only [RR, RE, RP, RG, takeV, reduceEqDiff, ↓reduceIte, reduceCtorEq, reduceAdd, reduceLeDiff, reduceLT, Nat.reduceBEq, ga3, gb3, gw3, n1, m1, m2, m3, m4, m5, and_true]
  refine (AC.ro (w10s a o) (ice_two (Ice.refl _ _) (O.ice (s3 _ _))) rfl).mono ?_
  rintro y h' n12 ⟨rfl, rfl, hn12⟩
  simp -implicitDefEqProofs only [RR, RE, RP, RG, takeV, reduceEqDiff, ↓reduceIte, reduceCtorEq, reduceAdd, reduceLeDiff, reduceLT, Nat.reduceBEq]
  obtain ⟨hf, of', sf, bf⟩ := own_alone of
  obtain ⟨hk, hkd⟩ : ∃ hk : Heap, hk = (n6, .cells [va, vf]) :: (n4, .cells [va5, vf5]) :: (nx, .cells [arsA a.arrays, fusA a.funcs]) :: h2 := ⟨_, rfl⟩
  have kx : hget hk nx = some (.cells [arsA a.arrays, fusA a.funcs]) := by rw [hkd]; simp [hget_cons, m1, m3]
  have kw : hget hk n4 = some (.cells [va5, vf5]) := by rw [hkd]; simp [hget_cons, m5]
  have kc : hget hk n6 = some (.cells [va, vf]) := by rw [hkd]; simp [hget_cons]
  have hl2 : ∀ k q, hget h2 k = some q → k ≠ nx := fun k q hq e => by
    have e1 := hd2 nx _ (show hget _ nx = some (.cells [arsA a.arrays, fusA a.funcs]) by simp [hget, n1])
    rw [e, e1] at hq; cases hq
  have k2 : Sub h2 hk := fun k q hq => by
    have e1 := lt2 k q hq
    have e2 := hl2 k q hq
    rw [hkd]; simp only [hget_cons]; rw [if_neg (by omega), if_neg (by omega), if_neg (by omega)]; exact hq
  have dk3 : Dsj hk h3 := fun k q hq => by
    rw [hkd] at hq
    simp only [hget_cons] at hq
    split at hq
    · rename_i e; subst e; exact z6
    · split at hq
      · rename_i e; subst e; exact zw3
      · split at hq
        · rename_i e; subst e; exact zx3
        · exact d23 k q hq
  have dkf : Dsj hk hf := Dsj.sub (Sub.refl _) sf dk3
  have dks : Dsj hk hs := Dsj.sub (Sub.refl _) T.1 dk3
  have dke : Dsj hk he := Dsj.sub (Sub.refl _) T.2.1 dk3
  have dfs : Dsj hf hs := fun k q hq => (sep k (bf k q hq)).1
  have dfe : Dsj hf he := fun k q hq => (sep k (bf k q hq)).2
  have dse := T.2.2
  obtain ⟨lcf, atf⟩ := ofs.at
  have hlf := ofs.lens
  have hfl := o.fl
  have lenf := of'.len
  refine go_rounds (fun k st => ∃ i : Nat, k = cf.length - i ∧ i ≤ cf.length ∧ eget st.env 2 = some (.op nx 0) ∧ eget st.env 5 = some (.op n4 0) ∧ eget st.env 6 = some (.op n6 0) ∧ eget st.env 7 = some (.bool true) ∧ eget st.env 8 = some (.int .i64 i) ∧ st.dm = [] ∧ MI hk hf hs he st.heap) (n := cf.length) mixed
    ⟨0, rfl, by omega, by simp [eget], by simp [eget], by simp [eget], by simp [eget], by simp [eget], rfl, ?_⟩ ?_
  · refine ⟨fun k q hq => ?_, LV.of (sf.trans (s3 _ _)), LV.of (T.1.trans (s3 _ _)), LV.of (T.2.1.trans (s3 _ _))⟩
    rw [hkd] at hq
    simp only [hget_cons] at hq ⊢
    split at hq
    · rename_i e; subst e; rw [if_pos rfl]; exact hq
    · rename_i h6
      rw [if_neg h6, if_neg h6]
      split at hq
      · rename_i e; subst e; injection hq with hq; subst hq; exact gw3
      · rename_i h4
        split at hq
        · rename_i e; subst e; injection hq with hq; subst hq; exact ga3
        · refine back_of hd3 ?_
          simp only [hget_cons]
          rw [if_neg h4, if_neg h4]
          exact Sub.front _ _ k q hq
  rintro k ⟨env, heap, nx', dm⟩ ⟨i, rfl, hi, g2, g5, g6, g7, g8, hdm, M⟩
  simp only at g2 g5 g6 g7 g8 hdm M
  subst hdm
  have pc := pc_of (M.1 _ _ kc)
  rcases dec_cases ((i : Int) < (cf.length : Int)) with ⟨hc, hc'⟩ | ⟨hc, hc'⟩
  case inr =>
    have px : ptrCells heap (.op nx 0) = some [arsA a.arrays, fusA a.funcs] := by simp [ptrCells, M.1 _ _ kx]
    have pw : ptrCells heap (.op n4 0) = some [va5, vf5] := by simp [ptrCells, M.1 _ _ kw]
    simp -implicitDefEqProofs only [RR, RE, takeV, reduceEqDiff, ↓reduceIte, reduceCtorEq, reduceAdd, reduceLeDiff, reduceLT, Nat.reduceBEq, A3l2, A3l2p, g2, g5, g6, g7, g8, pc, px, pw, lenf, hc', List.take_succ_cons, List.take_zero, takeV]
    refine (AC.ro (w10s a o) (ice_two (Ice.refl _ _) (Q.ice (k2.trans M.1))) rfl).mono ?_
    rintro y h' n13 ⟨rfl, rfl, hn13⟩
    simp -implicitDefEqProofs only [RR, RE, takeV, reduceEqDiff, ↓reduceIte, reduceCtorEq, reduceAdd, reduceLeDiff, reduceLT, Nat.reduceBEq, R3]
  have hcf := List.getElem?_eq_getElem (show i < a.funcs.length by omega)
  generalize a.funcs[i] = f at hcf
  have hfb := o.fb f (List.mem_of_getElem? hcf)
  obtain ⟨c, hci, vp, vb, cb, q1, q2, rfl, _, ob, obs⟩ := atf i f hcf
  obtain ⟨bF, hF, ixF, stF, LF, okF, oF, boF⟩ := M.2.1.put of' hlf (show i < cf.length by omega) (show 0 < 4 by omega) wrt
  have MF := M.F LF okF boF (dkf.symm) dfs dfe
  simp only [Nat.add_zero, wrt] at stF
  have pcF := pc_of (MF.1 _ _ kc)
  have f1 : IntKind.i64.wrap ((i : Int) + 1) = ((i + 1 : Nat) : Int) := by rw [w64 (by omega) (by omega)]; omega
  simp -implicitDefEqProofs only [RR, RE, takeV, reduceEqDiff, ↓reduceIte, reduceCtorEq, reduceAdd, reduceLeDiff, reduceLT, Nat.reduceBEq, A3l2, A3l2p, g2, g5, g6, g7, g8, pc, lenf, hc', ixF, stF]
  obtain ⟨lcb, atb⟩ := obs.at
  have hlb := obs.lens
  have lenb := ob.len
  have hbl := szSL_len f.body
  refine go_rounds (fun k st => ∃ j : Nat, k = cb.length - j ∧ j ≤ cb.length ∧ eget st.env 2 = some (.op nx 0) ∧ eget st.env 5 = some (.op n4 0) ∧ eget st.env 6 = some (.op n6 0) ∧ eget st.env 7 = some (.bool true) ∧ eget st.env 8 = some (.int .i64 i) ∧ eget st.env 9 = some (.int .i64 j) ∧ st.dm = [] ∧ MI hk hf hs he st.heap) (n := cb.length) mixed
    ⟨0, rfl, by omega, by simp [eget, g2], by simp [eget, g5], by simp [eget, g6], by simp [eget, g7], by simp [eget, g8], by simp [eget], rfl, MF⟩ ?_
  clear g2 g5 g6 g7 g8 M pc stF LF okF MF pcF hc'
  rintro k ⟨env, heap, nx', dm⟩ ⟨j, rfl, hj, g2, g5, g6, g7, g8, g9, hdm, M⟩
  simp only at g2 g5 g6 g7 g8 g9 hdm M
  subst hdm
  have pc := pc_of (M.1 _ _ kc)
  obtain ⟨b1, ix1, r1, p1⟩ := M.2.1.get of' hlf hci (o := 3) (x := vb) rfl (by omega)
  rcases dec_cases ((j : Int) < (cb.length : Int)) with ⟨hcj, hcj'⟩ | ⟨hcj, hcj'⟩
  case inr =>
    simp -implicitDefEqProofs only [RR, RE, takeV, reduceEqDiff, ↓reduceIte, reduceCtorEq, reduceAdd, reduceLeDiff, reduceLT, Nat.reduceBEq, A3l1, A3l1p, g2, g5, g6, g7, g8, g9, pc, ix1, p1, lenb, hcj', f1]
    exact ⟨cf.length - (i + 1), by omega, i + 1, rfl, by omega, rfl, M⟩
  have hcs := List.getElem?_eq_getElem (show j < f.body.length by omega)
  generalize f.body[j] = s at hcs
  have hss := szSL_mem (List.mem_of_getElem? hcs)
  have hse := szS_eq s
  obtain ⟨c, hcj2, osj⟩ := atb j s hcs
  obtain ⟨k', nm, fn, w, l, bd, el⟩ := s
  simp only [OS] at osj
  simp only [Sm.name, Sm.func, Sm.exprs, Sm.body, Sm.els] at hse
  obtain ⟨vl, vb', ve, cl, cb', ce, e1, e2, e3, rfl, ol, ols, _⟩ := osj
  obtain ⟨bS, hS, ixS, stS, LS, okS, oS, boS⟩ := M.2.2.1.put ob hlb (show j < cb.length by omega) (show 1 < 7 by omega) wrt
  have MS := M.S LS okS boS (dks.symm) (dfs.symm) dse
  simp only [wrt] at stS
  have f2 : IntKind.i64.wrap ((j : Int) + 1) = ((j + 1 : Nat) : Int) := by rw [w64 (by omega) (by omega)]; omega
  simp -implicitDefEqProofs only [RR, RE, takeV, reduceEqDiff, ↓reduceIte, reduceCtorEq, reduceAdd, reduceLeDiff, reduceLT, Nat.reduceBEq, A3l1, A3l1p, g2, g5, g6, g7, g8, g9, pc, ix1, p1, lenb, hcj', ixS, stS]
  have lcl := ols.at
  have hll := ols.lens
  have lenl := ol.len
  have hel := szEL_len l
  refine go_rounds (fun k st => ∃ z : Nat, k = cl.length - z ∧ z ≤ cl.length ∧ eget st.env 2 = some (.op nx 0) ∧ eget st.env 5 = some (.op n4 0) ∧ eget st.env 6 = some (.op n6 0) ∧ eget st.env 7 = some (.bool true) ∧ eget st.env 8 = some (.int .i64 i) ∧ eget st.env 9 = some (.int .i64 j) ∧ eget st.env 10 = some (.int .i64 z) ∧ st.dm = [] ∧ MI hk hf hs he st.heap) (n := cl.length) mixed
    ⟨0, rfl, by omega, by simp [eget, g2], by simp [eget, g5], by simp [eget, g6], by simp [eget, g7], by simp [eget, g8], by simp [eget, g9], by simp [eget], rfl, MS⟩ ?_
  clear g2 g5 g6 g7 g8 g9 M pc ix1 p1 stS LS okS MS hcj' ixS
  rintro k ⟨env, heap, nx', dm⟩ ⟨z, rfl, hz, g2, g5, g6, g7, g8, g9, g10, hdm, M⟩
  simp only at g2 g5 g6 g7 g8 g9 g10 hdm M
  subst hdm
  have pc := pc_of (M.1 _ _ kc)
  obtain ⟨b1, ix1, r1, p1⟩ := M.2.1.get of' hlf hci (o := 3) (x := vb) rfl (by omega)
  obtain ⟨b2, ix2, r2, p2⟩ := M.2.2.1.get ob hlb hcj2 (o := 4) (x := vl) rfl (by omega)
  rcases dec_cases ((z : Int) < (cl.length : Int)) with ⟨hcz, hcz'⟩ | ⟨hcz, hcz'⟩
  case inr =>
    simp -implicitDefEqProofs only [RR, RE, takeV, reduceEqDiff, ↓reduceIte, reduceCtorEq, reduceAdd, reduceLeDiff, reduceLT, Nat.reduceBEq, A3l0, A3l0p, g2, g5, g6, g7, g8, g9, g10, pc, ix1, p1, ix2, p2, lenl, hcz', f2]
    exact ⟨cb.length - (j + 1), by omega, j + 1, rfl, by omega, rfl, M⟩
  obtain ⟨bE, hE, ixE, stE, LE, okE, oE, boE⟩ := M.2.2.2.put ol hll (show z < cl.length by omega) (show 0 < 6 by omega) (.int .u8 9)
  have ME := M.E LE okE boE (dke.symm) (dfe.symm) (dse.symm)
  simp only [Nat.add_zero] at stE
  have f3 : IntKind.i64.wrap ((z : Int) + 1) = ((z + 1 : Nat) : Int) := by rw [w64 (by omega) (by omega)]; omega
  simp -implicitDefEqProofs only [RR, RE, takeV, reduceEqDiff, ↓reduceIte, reduceCtorEq, reduceAdd, reduceLeDiff, reduceLT, Nat.reduceBEq, A3l0, A3l0p, g2, g5, g6, g7, g8, g9, g10, pc, ix1, p1, ix2, p2, lenl, hcz', ixE, stE, f3]
  exact ⟨cl.length - (z + 1), by omega, z + 1, rfl, by omega, rfl, ME⟩
end Go.Proofs.YtkfldbimfbacmaaGreatDoor
