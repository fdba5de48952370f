/- The term of an expression. -/
import Derived.Test.YtgeieafamocnhaaGreatDoorGP
namespace Go.Proofs.YtgeieafamocnhaaGreatDoor
open Go Go.Ab Go.Proofs
open Nat (reduceEqDiff reduceAdd reduceLeDiff reduceLT)
set_option linter.unusedVariables false
set_option linter.unusedSimpArgs false
set_option maxRecDepth 20000
def hdT (l : List Tm) : Tm := l.headD (numT 0 0)
def arAt (p : Pr) (n : Nm) : Ar := (p.arrays[(arI p n).toNat]?).getD ⟨[], 0, 0⟩
def plAt (p : Pr) (n : Nm) : Int := ((plW p)[(arI p n).toNat]?).getD 0
def exTk (p : Pr) (kn : List Pm) (k w b : Int) (n : Nm) (op : Int) (l : List Tm) : Tm :=
  if k = 1 then numT w b
  else if k = 2 then .mk 2 (kw kn n) 0 n 0 []
  else if k = 3 then nodT 24 (arW p n) [elT (plAt p n) (arAt p n) (hdT l)]
  else if k = 4 then nodT 4 (hdT l).width l
  else if k = 5 then nodT 3 (hdT l).width l
  else if k = 6 then nodT op (if 16 ≤ op then 1 else (hdT l).width) l
  else if k = 7 then rsT (hdT l) w 22
  else rsT (hdT l) w 23
mutual
def exT (p : Pr) (kn : List Pm) : Ex → Tm
  | .mk k w b n op s => exTk p kn k w b n op (exTL p kn s)
def exTL (p : Pr) (kn : List Pm) : List Ex → List Tm
  | [] => []
  | x :: r => exT p kn x :: exTL p kn r
end
theorem exTL_map (p : Pr) (kn : List Pm) : ∀ l, exTL p kn l = l.map (exT p kn)
  | [] => by simp [exTL]
  | x :: r => by simp [exTL, exTL_map p kn r]
theorem wf_kind {k w b : Int} {n : Nm} {op : Int} {s : List Ex} (h : wfE (.mk k w b n op s) = true) : (k = 1 ∨ k = 2 ∨ k = 3 ∨ k = 4 ∨ k = 5 ∨ k = 6 ∨ k = 7 ∨ k = 8) ∧ (k = 7 ∨ k = 8 → s.length = 1) ∧ s.length ≤ 2 := by
  rw [wfE_eq, Bool.and_eq_true] at h
  have h1 := h.1
  unfold wfN at h1
  by_cases c1 : k = 1
  · subst c1; simp at h1; obtain ⟨_, rfl⟩ := h1; simp
  by_cases c2 : k = 2
  · subst c2; simp at h1; obtain ⟨_, rfl⟩ := h1; simp
  by_cases c3 : k = 3
  · subst c3; simp at h1; omega
  by_cases c4 : k = 4
  · subst c4; simp at h1; omega
  by_cases c5 : k = 5
  · subst c5; simp at h1; omega
  by_cases c6 : k = 6
  · subst c6; simp at h1; omega
  by_cases c7 : k = 7
  · subst c7; simp at h1; omega
  by_cases c8 : k = 8
  · subst c8; simp at h1; omega
  simp [c1, c2, c3, c4, c5, c6, c7, c8] at h1
theorem exW_sub {p : Pr} {kn : List Pm} {k w b : Int} {n : Nm} {op : Int} {s : List Ex} (h : (exW p kn (.mk k w b n op s)).1 = 0) : (∀ x ∈ s, (exW p kn x).1 = 0) ∧ (exK p kn k w n op (exWL p kn s).2).1 = 0 := by
  rw [exW] at h
  split at h
  · rename_i h0
    refine ⟨?_, h⟩
    have key : ∀ l : List Ex, (exWL p kn l).1 = 0 → ∀ x ∈ l, (exW p kn x).1 = 0 := by
      intro l
      induction l with
      | nil => intro _ x hx; simp at hx
      | cons a r ih =>
        intro h x hx
        rw [exWL] at h
        split at h
        · rename_i h2
          rcases List.mem_cons.1 hx with rfl | hx
          · exact h2
          · exact ih h x hx
        · rename_i h2; exact absurd h h2
    exact key s h0
  · rename_i h0; exact absurd h h0
theorem exW_2 {p : Pr} {kn : List Pm} {w b : Int} {n : Nm} {op : Int} {s : List Ex} (h : (exW p kn (.mk 2 w b n op s)).1 = 0) : ¬ kw kn n = 0 := fun e => by
  have := (exW_sub h).2
  unfold exK at this
  rw [if_pos rfl, if_pos e] at this
  cases this
theorem exW_3 {p : Pr} {kn : List Pm} {w b : Int} {n : Nm} {op : Int} {s : List Ex} (h : (exW p kn (.mk 3 w b n op s)).1 = 0) : ¬ arI p n < 0 := fun e => by
  have := (exW_sub h).2
  unfold exK at this
  rw [if_neg (by omega), if_pos rfl, if_pos e] at this
  cases this
theorem arAt_at {p : Pr} {n : Nm} {j : Nat} {a : Ar} (e1 : arI p n = (j : Int)) (hj : p.arrays[j]? = some a) : arAt p n = a := by rw [arAt, e1]; simp [hj]
theorem plAt_at {p : Pr} {n : Nm} {j : Nat} {z : Int} (e1 : arI p n = (j : Int)) (hj : (plW p)[j]? = some z) : plAt p n = z := by rw [plAt, e1]; simp [hj]
theorem varFC (h : Heap) (w : Int) (n : Nm) : FrzC h [.int .u8 2, .int .i64 w, .int .u64 0, .str n, .int .i64 0, .nilS] h (tmE (.mk 2 w 0 n 0 [])) := by
  rw [tmE_eq]
  exact .keep rfl (.keep rfl (.keep rfl (.keep rfl (.keep rfl (.cons (.nilS _ 6) rfl (.nil _))))))
theorem tms_ix0 (t : Tm) (l : List Tm) : idxA 6 (tmsA (t :: l)) 0 = some (.fp [.int .u8 t.kind, .int .i64 t.width, .int .u64 t.bits, .str t.name, .int .i64 t.low, tmsA t.sub]) := by
  rw [← tmE_eq]; exact tms_idx (l := t :: l) (n := 0) rfl
theorem tms_ix1 (t u : Tm) (l : List Tm) : idxA 6 (tmsA (t :: u :: l)) 1 = some (.fp [.int .u8 u.kind, .int .i64 u.width, .int .u64 u.bits, .str u.name, .int .i64 u.low, tmsA u.sub]) := by
  rw [← tmE_eq]; exact tms_idx (l := t :: u :: l) (n := 1) rfl
set_option maxHeartbeats 8000000 in
theorem w21 (p : Pr) (o : OkP p) (hck : ckE p = 0) (f : Nat) (kn : List Pm) (hf : (vsW p)[f]? = some kn) (hl : kn.length ≤ 1000000) : ∀ (m : Nat) (x : Ex), nodes x ≤ m → nodes x ≤ 1000000 → wfE x = true → (exW p kn x).1 = 0 →
    Pure Tryz.prog 21 [.fp (unE p (plW p) (vsW p)), .int .i64 f, .agg (exE x)] (.agg (tmE (exT p kn x))) := by
  intro m
  induction m with
  | zero => intro x hx; have := nodes_pos x; omega
  | succ m ih =>
    rintro ⟨k, w, b, n, op, s⟩ hm hB hwf hex
    obtain ⟨hk, hsl7, hs2⟩ := wf_kind hwf
    have hsl := wf_len hwf
    have hsub := wf_sub hwf
    have hes := (exW_sub hex).1
    simp only [nodes] at hm hB
    have hlen := nodesL_len s
    have oal := o.al
    refine Pure.frz fun nx => AC.go mixed is21 (by simp) ?_
    have lv := exs_len s
    rw [ex_mk]
    have n1 : (nx + 1 = nx) = False := eq_false (by omega)
    simp -implicitDefEqProofs only [RR, RE, RP, RG, takeV, reduceEqDiff, ↓reduceIte, reduceCtorEq, reduceAdd, reduceLeDiff, reduceLT, Nat.reduceBEq, A21, A21p, lv, n1, ↓c_exs, ↓p_exs]
    refine go_roundsF (fun q st => ∃ (i : Nat) (z : AV), q = s.length - i ∧ i ≤ s.length ∧ eget st.env 0 = some (.fp (unE p (plW p) (vsW p))) ∧ eget st.env 1 = some (.int .i64 f) ∧ eget st.env 5 = some (.op nx 0) ∧ eget st.env 6 = some (.op (nx + 1) 0) ∧ eget st.env 7 = some z ∧ eget st.env 12 = some (exsA s) ∧ eget st.env 13 = some (.int .i64 s.length) ∧ eget st.env 14 = some (.int .i64 i) ∧ OwnSl 34 6 st.heap st.nx z (((s.take i).map (exT p kn)).map tmE) ∧ (∀ b, blkOf z = some b → nx + 1 < b) ∧ hget st.heap nx = some (.cells [.int .u8 k, .int .i64 w, .int .u64 b, .str n, .int .u8 op, exsA s]) ∧ hget st.heap (nx + 1) = some (.cells [.int .u8 0, .int .i64 0, .int .u64 0, .str [], .int .i64 0, .nilS]) ∧ nx + 1 < st.nx ∧ st.dm = []) 0
      (fun st => ∃ (z : AV), eget st.env 0 = some (.fp (unE p (plW p) (vsW p))) ∧ eget st.env 1 = some (.int .i64 f) ∧ eget st.env 5 = some (.op nx 0) ∧ eget st.env 6 = some (.op (nx + 1) 0) ∧ eget st.env 7 = some z ∧ OwnSl 34 6 st.heap st.nx z ((s.map (exT p kn)).map tmE) ∧ (∀ b, blkOf z = some b → nx + 1 < b) ∧ hget st.heap nx = some (.cells [.int .u8 k, .int .i64 w, .int .u64 b, .str n, .int .u8 op, exsA s]) ∧ hget st.heap (nx + 1) = some (.cells [.int .u8 0, .int .i64 0, .int .u64 0, .str [], .int .i64 0, .nilS]) ∧ nx + 1 < st.nx ∧ st.dm = []) (n := s.length) mixed
      ⟨0, .nilS, rfl, by omega, by simp [eget], by simp [eget], by simp [eget], by simp [eget], by simp [eget], by simp [eget], by simp [eget], by simp [eget], .inl ⟨rfl, by simp⟩, by simp [blkOf], by simp [hget], by simp [hget], by simp, rfl⟩ ?_ ?_
    · rintro q ⟨env, heap, nx', dm⟩ ⟨i, z, rfl, hi, g0, g1, g5, g6, g7, g12, g13, g14, ho, hzb, gx, gt, hnx, hdm⟩
      simp only at g0 g1 g5 g6 g7 g12 g13 g14 ho gx gt hnx hdm
      subst hdm
      have f1 : IntKind.i64.wrap ((i : Int) + 1) = ((i + 1 : Nat) : Int) := by rw [w64 (by omega) (by omega)]; omega
      by_cases hc : (i : Int) < (s.length : Int)
      case pos =>
        have hr := List.getElem?_eq_getElem (show i < s.length by omega)
        generalize s[i] = r at hr
        have ix := exs_idx hr
        have hmem := List.mem_of_getElem? hr
        have m1 := nodesL_memb hmem
        have rl := ex_len r
        have rt := ex_take r
        have nn : (nx' = nx) = False := eq_false (by omega)
        have nn1 : (nx' = nx + 1) = False := eq_false (by omega)
        rw [exE_eq] at ix
        simp -implicitDefEqProofs only [RR, RE, RP, RG, takeV, reduceEqDiff, ↓reduceIte, reduceCtorEq, reduceAdd, reduceLeDiff, reduceLT, Nat.reduceBEq, exitJ_e, exitJ_r, exitJ_p, exitJ_n, A21l0, A21l0p, g0, g1, g5, g6, g7, g12, g13, g14, hc, ix]
        rw [← exE_eq]
        refine (ih r (by omega) (by omega) (hsub r hmem) (hes r hmem)).use fun n3 hn3 => ?_
        have gk2 : ∀ b o, b < nx' → hget heap b = some o → hget ((nx', AO.cells (exE r)) :: (nx', .cells [.int .u8 0, .int .i64 0, .int .u64 0, .str [], .int .u8 0, .nilS]) :: heap) b = some o := fun b o hb ho => by rw [hget_cons, if_neg (by omega), hget_cons, if_neg (by omega)]; exact ho
        have ho2 : OwnSl 34 6 ((nx', AO.cells (exE r)) :: (nx', .cells [.int .u8 0, .int .i64 0, .int .u64 0, .str [], .int .u8 0, .nilS]) :: heap) n3 z (((s.take i).map (exT p kn)).map tmE) := ho.keep (by omega) fun b o hb hg => gk2 b o (ho.blk hb).2.2 hg
        have hlt : (s.take i).length ≤ s.length := by rw [List.length_take]; omega
        obtain ⟨z', h3, n4, ea, ow, hn4, hk3, hb3⟩ := ho2.grw (bytes := 72) (ns := [tmE (exT p kn r)]) (tmE_all _) (by simp [tm_len]) (by simp only [List.length_map, List.length_cons, List.length_nil]; omega) (by simp only [List.length_map, List.length_cons, List.length_nil, maxLen]; omega)
        have hz1 : blkOf z ≠ some nx := fun e => by have := hzb nx e; omega
        have hz2 : blkOf z ≠ some (nx + 1) := fun e => by have := hzb _ e; omega
        have gx3 := hk3 nx _ (by omega) (gk2 nx _ (by omega) gx) hz1
        have gt3 := hk3 (nx + 1) _ (by omega) (gk2 _ _ (by omega) gt) hz2
        simp -implicitDefEqProofs only [RR, RE, RP, RG, takeV, reduceEqDiff, ↓reduceIte, reduceCtorEq, reduceAdd, reduceLeDiff, reduceLT, Nat.reduceBEq, exitJ_e, exitJ_r, exitJ_p, exitJ_n, g0, g1, g5, g6, g7, g12, g13, g14, tm_len, tm_take, ea, f1]
        have how : OwnSl 34 6 h3 n4 z' (((s.take (i + 1)).map (exT p kn)).map tmE) := by
          rw [take_succ hr, List.map_append, List.map_append]; exact ow
        have hzb2 : ∀ b, blkOf z' = some b → nx + 1 < b := fun b hb => by
          rcases hb3 b hb with h | h
          · omega
          · exact hzb b h
        refine ⟨s.length - (i + 1), by omega, i + 1, z', ?_⟩
        repeat' (first | exact how | apply And.intro)
        all_goals first | assumption | rfl | omega | (simp [eget, *]; done)
      rw [show s.take i = s from List.take_of_length_le (by omega)] at ho
      simp -implicitDefEqProofs only [RR, RE, RP, RG, takeV, reduceEqDiff, ↓reduceIte, reduceCtorEq, reduceAdd, reduceLeDiff, reduceLT, Nat.reduceBEq, exitJ_e, exitJ_r, exitJ_p, exitJ_n, A21l0, A21l0p, g0, g1, g5, g6, g7, g13, g14, hc]
      repeat' (first | exact ho | apply And.intro)
      all_goals first | assumption | rfl | omega | (simp [eget, *]; done)
    rintro ⟨env, hp0, nx', dm⟩ ⟨z, g0, g1, g5, g6, g7, ho, hzb, gx0, gt0, hnx, hdm⟩
    simp only at g0 g1 g5 g6 g7 ho gx0 gt0 hnx hdm
    subst hdm
    obtain ⟨heap, hfz, hk4⟩ := ho.frz2 (tmE_all _)
    have gx := hk4 nx _ gx0 fun y e => by
      have := hzb nx (by rw [e]; rfl)
      omega
    have gt := hk4 (nx + 1) _ gt0 fun y e => by
      have := hzb _ (by rw [e]; rfl)
      omega
    refine ⟨7, z, tmsA (s.map (exT p kn)), heap, g7, hfz, ?_⟩
    have hte : exT p kn (.mk k w b n op s) = exTk p kn k w b n op (s.map (exT p kn)) := by rw [exT, exTL_map]
    rw [hte]
    have hll : (s.map (exT p kn)).length = s.length := List.length_map ..
    generalize s.map (exT p kn) = l at hll
    unfold exTk
    rcases hk with rfl | rfl | rfl | rfl | rfl | rfl | rfl | rfl
    · simp only [if_true]
      simp -implicitDefEqProofs only [RR, RE, RP, RG, takeV, reduceEqDiff, ↓reduceIte, reduceCtorEq, reduceAdd, reduceLeDiff, reduceLT, Nat.reduceBEq, g0, g1, g5, g6, gx, gt, Int.reduceEq, Int.reduceSub, Int.reduceAdd]
      refine (w41 w b).use fun n3 hn3 => ?_
      simp -implicitDefEqProofs only [RR, RE, RP, RG, takeV, reduceEqDiff, ↓reduceIte, reduceCtorEq, reduceAdd, reduceLeDiff, reduceLT, Nat.reduceBEq, g6, gt, tm_len, tm_take, n1, R21]
      exact ⟨_, _, rfl, .refl _ _⟩
    · simp only [Int.reduceEq, if_true, if_false]
      obtain ⟨j, v, e1, e2, e3⟩ := kw_at (exW_2 hex)
      have c42 := w42 p (plW p) (vsW p) f kn n hf hl
      rw [e1] at c42
      have iv : idxA 1 (.lst 1 ((vsW p).map fun l => [pmsA l])) (f : Int) = some (.fp [pmsA kn]) := idxA_map (f := fun l => [pmsA l]) hf
      have ip := pms_idx e2
      have pe := pmE_eq v
      rw [e3] at pe
      simp only [unE] at g0 c42
      simp -implicitDefEqProofs only [RR, RE, RP, RG, takeV, reduceEqDiff, ↓reduceIte, reduceCtorEq, reduceAdd, reduceLeDiff, reduceLT, Nat.reduceBEq, g0, g1, g5, g6, gx, gt, Int.reduceEq, Int.reduceSub, Int.reduceAdd, iv]
      refine c42.use fun n3 hn3 => ?_
      simp -implicitDefEqProofs only [RR, RE, RP, RG, takeV, reduceEqDiff, ↓reduceIte, reduceCtorEq, reduceAdd, reduceLeDiff, reduceLT, Nat.reduceBEq, g0, g1, g5, g6, gx, gt, Int.reduceEq, Int.reduceSub, Int.reduceAdd, iv, ip, pe, n1, R21]
      exact ⟨_, _, rfl, Frz.agg (varFC _ _ _)⟩
    · simp only [Int.reduceEq, if_true, if_false]
      obtain ⟨t0, rfl⟩ : ∃ t0, l = [t0] := List.length_eq_one_iff.1 (by have := hsl.1 (.inl rfl); omega)
      obtain ⟨j, a, e1, e2, e3⟩ := arI_at (exW_3 hex)
      have hwa := ck_arr hck
      obtain ⟨zz, e4, hz0, hz1⟩ := plW_at o.al hwa e2
      rw [arAt_at e1 e2, plAt_at e1 e4, e3, show hdT [t0] = t0 from rfl]
      have c44 := w44 p (plW p) (vsW p) n (by omega)
      have c45 := w45 p (plW p) (vsW p) n t0 j a zz (by omega) e1 e2 e4 (hwa a (List.mem_of_getElem? e2)) hz0 hz1
      rw [e1] at c44
      have ix := ars_idx e2
      have ae := arE_eq a
      have i0 := tms_ix0 t0 []
      simp only [unE] at g0 c44 c45
      rw [← tmE_eq] at i0
      simp -implicitDefEqProofs only [RR, RE, RP, RG, takeV, reduceEqDiff, ↓reduceIte, reduceCtorEq, reduceAdd, reduceLeDiff, reduceLT, Nat.reduceBEq, g0, g1, g5, g6, gx, gt, Int.reduceEq, Int.reduceSub, Int.reduceAdd, i0, tm_len, tm_take]
      refine c44.use fun n3 hn3 => ?_
      simp -implicitDefEqProofs only [RR, RE, RP, RG, takeV, reduceEqDiff, ↓reduceIte, reduceCtorEq, reduceAdd, reduceLeDiff, reduceLT, Nat.reduceBEq, g0, g1, g5, g6, gx, gt, Int.reduceEq, Int.reduceSub, Int.reduceAdd, i0, tm_len, tm_take, ix, ae]
      refine c45.use fun n4 hn4 => ?_
      simp -implicitDefEqProofs only [RR, RE, RP, RG, takeV, reduceEqDiff, ↓reduceIte, reduceCtorEq, reduceAdd, reduceLeDiff, reduceLT, Nat.reduceBEq, g0, g1, g5, g6, gx, gt, Int.reduceEq, Int.reduceSub, Int.reduceAdd, tm_len, tm_take]
      refine (w43 24 a.width [elT zz a t0]).use fun n5 hn5 => ?_
      simp -implicitDefEqProofs only [RR, RE, RP, RG, takeV, reduceEqDiff, ↓reduceIte, reduceCtorEq, reduceAdd, reduceLeDiff, reduceLT, Nat.reduceBEq, g6, gt, tm_len, tm_take, n1, R21]
      exact ⟨_, _, rfl, .refl _ _⟩
    · simp only [Int.reduceEq, if_true, if_false]
      obtain ⟨t0, rfl⟩ : ∃ t0, l = [t0] := List.length_eq_one_iff.1 (by have := hsl.1 (.inr (.inl rfl)); omega)
      rw [show hdT [t0] = t0 from rfl]
      have i0 := tms_ix0 t0 []
      have v1 : IntKind.u8.wrap 4 = 4 := rfl
      simp -implicitDefEqProofs only [RR, RE, RP, RG, takeV, reduceEqDiff, ↓reduceIte, reduceCtorEq, reduceAdd, reduceLeDiff, reduceLT, Nat.reduceBEq, g0, g1, g5, g6, gx, gt, Int.reduceEq, Int.reduceSub, Int.reduceAdd, i0, v1]
      refine (w43 4 t0.width [t0]).use fun n5 hn5 => ?_
      simp -implicitDefEqProofs only [RR, RE, RP, RG, takeV, reduceEqDiff, ↓reduceIte, reduceCtorEq, reduceAdd, reduceLeDiff, reduceLT, Nat.reduceBEq, g6, gt, tm_len, tm_take, n1, R21]
      exact ⟨_, _, rfl, .refl _ _⟩
    · simp only [Int.reduceEq, if_true, if_false]
      obtain ⟨t0, rfl⟩ : ∃ t0, l = [t0] := List.length_eq_one_iff.1 (by have := hsl.1 (.inr (.inr rfl)); omega)
      rw [show hdT [t0] = t0 from rfl]
      have i0 := tms_ix0 t0 []
      have v1 : IntKind.u8.wrap 3 = 3 := rfl
      simp -implicitDefEqProofs only [RR, RE, RP, RG, takeV, reduceEqDiff, ↓reduceIte, reduceCtorEq, reduceAdd, reduceLeDiff, reduceLT, Nat.reduceBEq, g0, g1, g5, g6, gx, gt, Int.reduceEq, Int.reduceSub, Int.reduceAdd, i0, v1]
      refine (w43 3 t0.width [t0]).use fun n5 hn5 => ?_
      simp -implicitDefEqProofs only [RR, RE, RP, RG, takeV, reduceEqDiff, ↓reduceIte, reduceCtorEq, reduceAdd, reduceLeDiff, reduceLT, Nat.reduceBEq, g6, gt, tm_len, tm_take, n1, R21]
      exact ⟨_, _, rfl, .refl _ _⟩
    · simp only [Int.reduceEq, if_true, if_false]
      obtain ⟨t0, t1, rfl⟩ : ∃ t0 t1, l = [t0, t1] := by
        have := hsl.2 rfl
        match l, (by omega : l.length = 2) with
        | [a, b], _ => exact ⟨a, b, rfl⟩
      rw [show hdT [t0, t1] = t0 from rfl]
      have i0 := tms_ix0 t0 [t1]
      rcases dec_cases ((16 : Int) ≤ op) with ⟨d1', d1⟩ | ⟨d1', d1⟩
      · rw [if_pos d1']
        simp -implicitDefEqProofs only [RR, RE, RP, RG, takeV, reduceEqDiff, ↓reduceIte, reduceCtorEq, reduceAdd, reduceLeDiff, reduceLT, Nat.reduceBEq, g0, g1, g5, g6, gx, gt, Int.reduceEq, Int.reduceSub, Int.reduceAdd, i0, d1]
        refine (w43 op 1 [t0, t1]).use fun n5 hn5 => ?_
        simp -implicitDefEqProofs only [RR, RE, RP, RG, takeV, reduceEqDiff, ↓reduceIte, reduceCtorEq, reduceAdd, reduceLeDiff, reduceLT, Nat.reduceBEq, g6, gt, tm_len, tm_take, n1, R21]
        exact ⟨_, _, rfl, .refl _ _⟩
      · rw [if_neg d1']
        simp -implicitDefEqProofs only [RR, RE, RP, RG, takeV, reduceEqDiff, ↓reduceIte, reduceCtorEq, reduceAdd, reduceLeDiff, reduceLT, Nat.reduceBEq, g0, g1, g5, g6, gx, gt, Int.reduceEq, Int.reduceSub, Int.reduceAdd, i0, d1]
        refine (w43 op t0.width [t0, t1]).use fun n5 hn5 => ?_
        simp -implicitDefEqProofs only [RR, RE, RP, RG, takeV, reduceEqDiff, ↓reduceIte, reduceCtorEq, reduceAdd, reduceLeDiff, reduceLT, Nat.reduceBEq, g6, gt, tm_len, tm_take, n1, R21]
        exact ⟨_, _, rfl, .refl _ _⟩
    all_goals
      simp only [Int.reduceEq, if_true, if_false]
      obtain ⟨t0, rfl⟩ : ∃ t0, l = [t0] := List.length_eq_one_iff.1 (by have := hsl7 (by simp); omega)
      rw [show hdT [t0] = t0 from rfl]
      have i0 := tms_ix0 t0 []
      unfold rsT
      rcases dec_cases (w = t0.width) with ⟨d1', d1⟩ | ⟨d1', d1⟩
      · rw [if_neg (by omega), if_neg (by omega)]
        have et := tmE_eq t0
        rw [et]
        simp -implicitDefEqProofs only [RR, RE, RP, RG, takeV, reduceEqDiff, ↓reduceIte, reduceCtorEq, reduceAdd, reduceLeDiff, reduceLT, Nat.reduceBEq, g0, g1, g5, g6, gx, gt, Int.reduceEq, Int.reduceSub, Int.reduceAdd, i0, d1, n1, R21]
        exact ⟨_, _, rfl, .refl _ _⟩
      rcases dec_cases (w < t0.width) with ⟨d2', d2⟩ | ⟨d2', d2⟩
      · rw [if_neg (by omega), if_pos d2']
        simp -implicitDefEqProofs only [RR, RE, RP, RG, takeV, reduceEqDiff, ↓reduceIte, reduceCtorEq, reduceAdd, reduceLeDiff, reduceLT, Nat.reduceBEq, g0, g1, g5, g6, gx, gt, Int.reduceEq, Int.reduceSub, Int.reduceAdd, i0, d1, d2]
        refine (w43 21 w [t0]).use fun n5 hn5 => ?_
        simp -implicitDefEqProofs only [RR, RE, RP, RG, takeV, reduceEqDiff, ↓reduceIte, reduceCtorEq, reduceAdd, reduceLeDiff, reduceLT, Nat.reduceBEq, g6, gt, tm_len, tm_take, n1, R21]
        exact ⟨_, _, rfl, .refl _ _⟩
      rw [if_pos (by omega)]
      have v1 : IntKind.u8.wrap 29 = 29 := rfl
      have v2 : IntKind.u8.wrap 30 = 30 := rfl
      have v3 : IntKind.u8.wrap 22 = 22 := rfl
      have v4 : IntKind.u8.wrap 23 = 23 := rfl
      simp -implicitDefEqProofs only [RR, RE, RP, RG, takeV, reduceEqDiff, ↓reduceIte, reduceCtorEq, reduceAdd, reduceLeDiff, reduceLT, Nat.reduceBEq, g0, g1, g5, g6, gx, gt, Int.reduceEq, Int.reduceSub, Int.reduceAdd, i0, d1, d2, v1, v2, v3, v4]
      refine (w43 _ w [t0]).use fun n5 hn5 => ?_
      simp -implicitDefEqProofs only [RR, RE, RP, RG, takeV, reduceEqDiff, ↓reduceIte, reduceCtorEq, reduceAdd, reduceLeDiff, reduceLT, Nat.reduceBEq, g6, gt, tm_len, tm_take, n1, R21]
      exact ⟨_, _, rfl, .refl _ _⟩
end Go.Proofs.YtgeieafamocnhaaGreatDoor
namespace Go.Proofs.YtgeieafamocnhaaGreatDoor
open Go Go.Ab Go.Proofs
open Nat (reduceEqDiff reduceAdd reduceLeDiff reduceLT)
set_option linter.unusedVariables false
set_option linter.unusedSimpArgs false
set_option maxRecDepth 20000
set_option maxHeartbeats 4000000 in
theorem w54 (p : Pr) (v : AV) (nm : Nm) (ps : AV) (rs : Int) (bo out : AV) (op : Int) (ex : AV) (n : Nm) (t : Tm) (j : Nat) (a : Ar) (z : Int) (hl : p.arrays.length ≤ 20) (hwa : ∀ a ∈ p.arrays, wfA a = true) (e1 : arI p n = (j : Int)) (hj : p.arrays[j]? = some a) (hq : (plW p)[j]? = some z) (hz0 : 0 ≤ z) (hz1 : z ≤ 1000000000)
    (c : Nat) (h : Heap) (nx : Nat) (gc : hget h c = some (.cells (mkr p v nm ps rs bo out op ex))) (hcn : c < nx) :
    AC Tryz.prog 54 [.op c 0, .str n, .agg (tmE t)] h nx fun y h' n' => y = .ret (.agg (tmE (elT z a t))) ∧ h' = h ∧ nx ≤ n' := by
  refine AC_keep (AC.go mixed is54 (by simp) ?_)
  obtain ⟨hw, hl1, hl2⟩ := wfA_at (hwa a (List.mem_of_getElem? hj))
  have c53 := w53 p n (by omega)
  rw [e1, prE_eq] at c53
  have c26 := w26 p hl hwa
  rw [prE_eq] at c26
  have ix := ars_idx hj
  have ae := arE_eq a
  have iq := ins_idx hq
  have ie : inE z = [.int .i64 z] := rfl
  have f1 : IntKind.i64.wrap (a.len - 1) = a.len - 1 := by rw [w64 (by omega) (by omega)]
  have f2 : IntKind.u64.wrap (a.len - 1) = a.len - 1 := wu64 (by omega) (by omega)
  have f3 : IntKind.u64.wrap z = z := wu64 hz0 hz1
  have b1 : (nx = c) = False := eq_false (by omega)
  have b2 : (nx + 1 = c) = False := eq_false (by omega)
  have a3 : (nx + 1 = nx) = False := eq_false (by omega)
  simp only [mkr] at gc
  simp -implicitDefEqProofs only [RR, RE, RP, RG, takeV, reduceEqDiff, ↓reduceIte, reduceCtorEq, reduceAdd, reduceLeDiff, reduceLT, Nat.reduceBEq, A54, A54p, gc, b1, b2, a3]
  refine c53.use fun n2 hn2 => ?_
  have a1 : (n2 = nx) = False := eq_false (by omega)
  have a2 : (n2 = nx + 1) = False := eq_false (by omega)
  have a4 : (n2 = c) = False := eq_false (by omega)
  have key : ∀ (sv : Int), a.width / 16 = sv → tmE (elT z a t) = tmE (nodT 5 32 [numT 32 z, nodT 11 32 [nodT 8 32 [t, numT 32 (a.len - 1)], numT 32 sv]]) := fun sv e => by rw [← e]; rfl
  rcases hw with e | e | e
  have d1 : (a.width = 16) = False := eq_false (by omega)
  have d2 : (a.width = 32) = False := eq_false (by omega)
  rw [key 0 (by rw [e]; rfl)]
  rotate_left
  have d1 : (a.width = 16) = True := eq_true e
  have d2 : (a.width = 32) = False := eq_false (by omega)
  rw [key 1 (by rw [e]; rfl)]
  rotate_left
  have d1 : (a.width = 16) = False := eq_false (by omega)
  have d2 : (a.width = 32) = True := eq_true e
  rw [key 2 (by rw [e]; rfl)]
  rotate_left
  all_goals
    simp -implicitDefEqProofs only [RR, RE, RP, RG, takeV, reduceEqDiff, ↓reduceIte, reduceCtorEq, reduceAdd, reduceLeDiff, reduceLT, Nat.reduceBEq, gc, ix, ae, tm_len, tm_take, f1, f2, a1, a2, a3, a4, b1, b2, d1, d2]
    refine (w50 32 (a.len - 1)).use fun n3 hn3 => ?_
    intro _
    simp -implicitDefEqProofs only [RR, RE, RP, RG, takeV, reduceEqDiff, ↓reduceIte, reduceCtorEq, reduceAdd, reduceLeDiff, reduceLT, Nat.reduceBEq, List.nil_append, gc, tm_len, tm_take, a1, a2, a3, a4, b1, b2]
    refine (w52 8 32 [t, numT 32 (a.len - 1)]).use fun n4 hn4 => ?_
    intro _
    have a5 : (n4 = n2) = False := eq_false (by omega)
    have a6 : (n4 = nx + 1) = False := eq_false (by omega)
    have a7 : (n4 = nx) = False := eq_false (by omega)
    have a8 : (n4 = c) = False := eq_false (by omega)
    simp -implicitDefEqProofs only [RR, RE, RP, RG, takeV, reduceEqDiff, ↓reduceIte, reduceCtorEq, reduceAdd, reduceLeDiff, reduceLT, Nat.reduceBEq, List.nil_append, gc, tm_len, tm_take, a1, a2, a3, a4, a5, a6, a7, a8, b1, b2]
    refine c26.use fun n5 hn5 => ?_
    simp -implicitDefEqProofs only [RR, RE, RP, RG, takeV, reduceEqDiff, ↓reduceIte, reduceCtorEq, reduceAdd, reduceLeDiff, reduceLT, Nat.reduceBEq, gc, tm_len, tm_take, a1, a2, a3, a4, a5, a6, a7, a8, b1, b2, iq, ie, f3]
    refine (w50 32 z).use fun n6 hn6 => ?_
    simp -implicitDefEqProofs only [RR, RE, RP, RG, takeV, reduceEqDiff, ↓reduceIte, reduceCtorEq, reduceAdd, reduceLeDiff, reduceLT, Nat.reduceBEq, gc, tm_len, tm_take, a1, a2, a3, a4, a5, a6, a7, a8, b1, b2]
    refine (w50 32 _).use fun n7 hn7 => ?_
    simp -implicitDefEqProofs only [RR, RE, RP, RG, takeV, reduceEqDiff, ↓reduceIte, reduceCtorEq, reduceAdd, reduceLeDiff, reduceLT, Nat.reduceBEq, gc, tm_len, tm_take, a1, a2, a3, a4, a5, a6, a7, a8, b1, b2]
    refine (w52 11 32 [nodT 8 32 [t, numT 32 (a.len - 1)], numT 32 _]).use fun n8 hn8 => ?_
    simp -implicitDefEqProofs only [RR, RE, RP, RG, takeV, reduceEqDiff, ↓reduceIte, reduceCtorEq, reduceAdd, reduceLeDiff, reduceLT, Nat.reduceBEq, gc, tm_len, tm_take, a1, a2, a3, a4, a5, a6, a7, a8, b1, b2]
    refine (w52 5 32 [numT 32 z, nodT 11 32 [nodT 8 32 [t, numT 32 (a.len - 1)], numT 32 _]]).use fun n9 hn9 => ?_
    simp -implicitDefEqProofs only [RR, RE, RP, RG, takeV, reduceEqDiff, ↓reduceIte, reduceCtorEq, reduceAdd, reduceLeDiff, reduceLT, Nat.reduceBEq, gc, tm_len, tm_take, a1, a2, a3, a4, a5, a6, a7, a8, b1, b2, R54]
    intro b o hb ho
    repeat rw [if_neg (by omega)]
    exact ho
set_option maxHeartbeats 8000000 in
theorem w24 (p : Pr) (o : OkP p) (hck : ckE p = 0) (v : AV) (nm : Nm) (ps : AV) (rs : Int) (bo out : AV) (mo : Int) (ex : AV) (kn : List Pm) (c : Nat) (hl : kn.length ≤ 1000000) : ∀ (m : Nat) (x : Ex), nodes x ≤ m → nodes x ≤ 1000000 → wfE x = true → (exW p kn x).1 = 0 → ∀ (h : Heap) (nx : Nat), hget h c = some (.cells (mkr p v nm ps rs bo out mo ex)) → c < nx → Rd h nx v kn →
    AC Tryz.prog 24 [.op c 0, .agg (exE x)] h nx fun y h' n' => y = .ret (.agg (tmE (exT p kn x))) ∧ h' = h ∧ nx ≤ n' := by
  intro m
  induction m with
  | zero => intro x hx; have := nodes_pos x; omega
  | succ m ih =>
    rintro ⟨k, w, b, n, op, s⟩ hm hB hwf hex h nx gc hcn hv
    obtain ⟨hk, hsl7, hs2⟩ := wf_kind hwf
    have hsl := wf_len hwf
    have hsub := wf_sub hwf
    have hes := (exW_sub hex).1
    simp only [nodes] at hm hB
    have hlen := nodesL_len s
    have oal := o.al
    refine AC_keep (AC.frz (AC.go mixed is24 (by simp) ?_))
    have lv := exs_len s
    rw [ex_mk]
    have n1 : (nx + 1 = nx) = False := eq_false (by omega)
    simp -implicitDefEqProofs only [RR, RE, RP, RG, takeV, reduceEqDiff, ↓reduceIte, reduceCtorEq, reduceAdd, reduceLeDiff, reduceLT, Nat.reduceBEq, A24, A24p, lv, n1, ↓c_exs, ↓p_exs]
    refine go_roundsF (fun q st => ∃ (i : Nat) (z : AV), q = s.length - i ∧ i ≤ s.length ∧ eget st.env 0 = some (.op c 0) ∧ eget st.env 3 = some (.op nx 0) ∧ eget st.env 4 = some (.op (nx + 1) 0) ∧ eget st.env 5 = some z ∧ eget st.env 6 = some (.int .i64 i) ∧ OwnSl 34 6 st.heap st.nx z (((s.take i).map (exT p kn)).map tmE) ∧ (∀ b, blkOf z = some b → nx + 1 < b) ∧ hget st.heap nx = some (.cells [.int .u8 k, .int .i64 w, .int .u64 b, .str n, .int .u8 op, exsA s]) ∧ hget st.heap (nx + 1) = some (.cells [.int .u8 0, .int .i64 0, .int .u64 0, .str [], .int .i64 0, .nilS]) ∧ (∀ b o, b < nx → hget h b = some o → hget st.heap b = some o) ∧ nx + 1 < st.nx ∧ st.dm = []) 0
      (fun st => ∃ (z : AV), eget st.env 0 = some (.op c 0) ∧ eget st.env 3 = some (.op nx 0) ∧ eget st.env 4 = some (.op (nx + 1) 0) ∧ eget st.env 5 = some z ∧ OwnSl 34 6 st.heap st.nx z ((s.map (exT p kn)).map tmE) ∧ (∀ b, blkOf z = some b → nx + 1 < b) ∧ hget st.heap nx = some (.cells [.int .u8 k, .int .i64 w, .int .u64 b, .str n, .int .u8 op, exsA s]) ∧ hget st.heap (nx + 1) = some (.cells [.int .u8 0, .int .i64 0, .int .u64 0, .str [], .int .i64 0, .nilS]) ∧ (∀ b o, b < nx → hget h b = some o → hget st.heap b = some o) ∧ nx + 1 < st.nx ∧ st.dm = []) (n := s.length) mixed
      ⟨0, .nilS, rfl, by omega, by simp [eget], by simp [eget], by simp [eget], by simp [eget], by simp [eget], .inl ⟨rfl, by simp⟩, by simp [blkOf], by simp [hget], by simp [hget], fun b o hb ho => by rw [hget_cons, if_neg (by omega), hget_cons, if_neg (by omega)]; exact ho, by simp, rfl⟩ ?_ ?_
    · rintro q ⟨env, heap, nx', dm⟩ ⟨i, z, rfl, hi, g0, g3, g4, g5, g6, ho, hzb, gx, gt, gk, hnx, hdm⟩
      simp only at g0 g3 g4 g5 g6 ho gx gt gk hnx hdm
      subst hdm
      have f1 : IntKind.i64.wrap ((i : Int) + 1) = ((i + 1 : Nat) : Int) := by rw [w64 (by omega) (by omega)]; omega
      by_cases hc : (i : Int) < (s.length : Int)
      case pos =>
        have hr := List.getElem?_eq_getElem (show i < s.length by omega)
        generalize s[i] = r at hr
        have ix := exs_idx hr
        have hmem := List.mem_of_getElem? hr
        have m1 := nodesL_memb hmem
        have gc2 := gk c _ hcn gc
        have hv2 := hv.keep (nx' := nx') (by omega) gk
        have rl := ex_len r
        have rt := ex_take r
        simp -implicitDefEqProofs only [RR, RE, RP, RG, takeV, reduceEqDiff, ↓reduceIte, reduceCtorEq, reduceAdd, reduceLeDiff, reduceLT, Nat.reduceBEq, exitJ_e, exitJ_r, exitJ_p, exitJ_n, A24l0, A24l0p, g0, g3, g4, g5, g6, gx, lv, hc, ix, rl, rt]
        refine (ih r (by omega) (by omega) (hsub r hmem) (hes r hmem) heap nx' gc2 (by omega) hv2).mono ?_
        rintro y h2 n3 ⟨rfl, rfl, hn3⟩
        have hlt : (s.take i).length ≤ s.length := by rw [List.length_take]; omega
        obtain ⟨z', h3, n4, ea, ow, hn4, hk3, hb3⟩ := (ho.mono hn3).grw (bytes := 72) (ns := [tmE (exT p kn r)]) (tmE_all _) (by simp [tm_len]) (by simp only [List.length_map, List.length_cons, List.length_nil]; omega) (by simp only [List.length_map, List.length_cons, List.length_nil, maxLen]; omega)
        have hz1 : blkOf z ≠ some nx := fun e => by have := hzb nx e; omega
        have hz2 : blkOf z ≠ some (nx + 1) := fun e => by have := hzb _ e; omega
        have gx3 := hk3 nx _ (by omega) gx hz1
        have gt3 := hk3 (nx + 1) _ (by omega) gt hz2
        simp -implicitDefEqProofs only [RR, RE, RP, RG, takeV, reduceEqDiff, ↓reduceIte, reduceCtorEq, reduceAdd, reduceLeDiff, reduceLT, Nat.reduceBEq, exitJ_e, exitJ_r, exitJ_p, exitJ_n, g0, g3, g4, g5, g6, tm_len, tm_take, ea, f1]
        have how : OwnSl 34 6 h3 n4 z' (((s.take (i + 1)).map (exT p kn)).map tmE) := by
          rw [take_succ hr, List.map_append, List.map_append]; exact ow
        have hzb2 : ∀ b, blkOf z' = some b → nx + 1 < b := fun b hb => by
          rcases hb3 b hb with h | h
          · omega
          · exact hzb b h
        have gk3 : ∀ b o, b < nx → hget h b = some o → hget h3 b = some o := fun b o hb hg => hk3 b o (by omega) (gk b o hb hg) fun e => by have := hzb b e; omega
        refine ⟨s.length - (i + 1), by omega, i + 1, z', ?_⟩
        repeat' (first | exact how | exact gk3 | apply And.intro)
        all_goals first | assumption | rfl | omega | (simp [eget, *]; done)
      rw [show s.take i = s from List.take_of_length_le (by omega)] at ho
      simp -implicitDefEqProofs only [RR, RE, RP, RG, takeV, reduceEqDiff, ↓reduceIte, reduceCtorEq, reduceAdd, reduceLeDiff, reduceLT, Nat.reduceBEq, exitJ_e, exitJ_r, exitJ_p, exitJ_n, A24l0, A24l0p, g0, g3, g4, g5, g6, gx, lv, hc]
      repeat' (first | exact ho | exact gk | apply And.intro)
      all_goals first | assumption | rfl | omega | (simp [eget, *]; done)
    rintro ⟨env, hp0, nx', dm⟩ ⟨z, g0, g3, g4, g5, ho, hzb, gx0, gt0, gk0, hnx, hdm⟩
    simp only at g0 g3 g4 g5 ho gx0 gt0 gk0 hnx hdm
    subst hdm
    obtain ⟨heap, hfz, hk4⟩ := ho.frz2 (tmE_all _)
    have gk : ∀ b o, b < nx → hget h b = some o → hget heap b = some o := fun b o hb hg => hk4 b o (gk0 b o hb hg) fun y e => by
      have := hzb b (by rw [e]; rfl)
      omega
    have gx := hk4 nx _ gx0 fun y e => by
      have := hzb nx (by rw [e]; rfl)
      omega
    have gt := hk4 (nx + 1) _ gt0 fun y e => by
      have := hzb _ (by rw [e]; rfl)
      omega
    have gc2 := gk c _ hcn gc
    have hv2 := hv.keep (nx' := nx') (by omega) gk
    have fin : ∀ cs : List AV, ∀ b o, b < nx → hget h b = some o → hget ((nx + 1, AO.cells cs) :: heap) b = some o := fun cs b o hb hg => by rw [hget_cons, if_neg (by omega)]; exact gk b o hb hg
    refine ⟨5, z, tmsA (s.map (exT p kn)), heap, g5, hfz, ?_⟩
    have hte : exT p kn (.mk k w b n op s) = exTk p kn k w b n op (s.map (exT p kn)) := by rw [exT, exTL_map]
    rw [hte]
    have hll : (s.map (exT p kn)).length = s.length := List.length_map ..
    generalize s.map (exT p kn) = l at hll
    unfold exTk
    rcases hk with rfl | rfl | rfl | rfl | rfl | rfl | rfl | rfl
    · simp only [if_true]
      simp -implicitDefEqProofs only [RR, RE, RP, RG, takeV, reduceEqDiff, ↓reduceIte, reduceCtorEq, reduceAdd, reduceLeDiff, reduceLT, Nat.reduceBEq, g0, g3, g4, gx, gt, Int.reduceEq]
      refine (w50 w b).use fun n3 hn3 => ?_
      simp -implicitDefEqProofs only [RR, RE, RP, RG, takeV, reduceEqDiff, ↓reduceIte, reduceCtorEq, reduceAdd, reduceLeDiff, reduceLT, Nat.reduceBEq, g4, gt, tm_len, tm_take, n1, R24]
      exact ⟨_, _, .refl _ _, rfl, fin _⟩
    · simp only [Int.reduceEq, if_true, if_false]
      simp -implicitDefEqProofs only [RR, RE, RP, RG, takeV, reduceEqDiff, ↓reduceIte, reduceCtorEq, reduceAdd, reduceLeDiff, reduceLT, Nat.reduceBEq, g0, g3, g4, gx, gt, Int.reduceEq]
      refine (w51 p v nm ps rs bo out mo ex kn c n heap nx' gc2 hv2 hl).mono ?_
      rintro y h2 n3 ⟨rfl, rfl, hn3⟩
      simp -implicitDefEqProofs only [RR, RE, RP, RG, takeV, reduceEqDiff, ↓reduceIte, reduceCtorEq, reduceAdd, reduceLeDiff, reduceLT, Nat.reduceBEq, g0, g3, g4, gx, gt, n1, R24]
      exact ⟨_, _, Frz.agg (varFC _ _ _), rfl, fin _⟩
    · simp only [Int.reduceEq, if_true, if_false]
      obtain ⟨t0, rfl⟩ : ∃ t0, l = [t0] := List.length_eq_one_iff.1 (by have := hsl.1 (.inl rfl); omega)
      obtain ⟨j, a, e1, e2, e3⟩ := arI_at (exW_3 hex)
      have hwa := ck_arr hck
      obtain ⟨zz, e4, hz0, hz1⟩ := plW_at o.al hwa e2
      rw [arAt_at e1 e2, plAt_at e1 e4, e3, show hdT [t0] = t0 from rfl]
      have c53 := w53 p n (by omega)
      rw [e1, prE_eq] at c53
      have ix := ars_idx e2
      have ae := arE_eq a
      have i0 := tms_ix0 t0 []
      rw [← tmE_eq] at i0
      have gc3 := gc2
      simp only [mkr] at gc3
      simp -implicitDefEqProofs only [RR, RE, RP, RG, takeV, reduceEqDiff, ↓reduceIte, reduceCtorEq, reduceAdd, reduceLeDiff, reduceLT, Nat.reduceBEq, g0, g3, g4, gx, gt, gc3, i0, tm_len, tm_take, Int.reduceEq]
      refine c53.use fun n3 hn3 => ?_
      simp -implicitDefEqProofs only [RR, RE, RP, RG, takeV, reduceEqDiff, ↓reduceIte, reduceCtorEq, reduceAdd, reduceLeDiff, reduceLT, Nat.reduceBEq, g0, g3, g4, gx, gt, gc3, i0, tm_len, tm_take, ix, ae]
      refine (w54 p v nm ps rs bo out mo ex n t0 j a zz o.al hwa e1 e2 e4 hz0 hz1 c heap n3 gc2 (by omega)).mono ?_
      rintro y h2 n4 ⟨rfl, rfl, hn4⟩
      simp -implicitDefEqProofs only [RR, RE, RP, RG, takeV, reduceEqDiff, ↓reduceIte, reduceCtorEq, reduceAdd, reduceLeDiff, reduceLT, Nat.reduceBEq, g0, g3, g4, gx, gt, gc3, tm_len, tm_take]
      refine (w52 24 a.width [elT zz a t0]).use fun n5 hn5 => ?_
      simp -implicitDefEqProofs only [RR, RE, RP, RG, takeV, reduceEqDiff, ↓reduceIte, reduceCtorEq, reduceAdd, reduceLeDiff, reduceLT, Nat.reduceBEq, g4, gt, tm_len, tm_take, n1, R24]
      exact ⟨_, _, .refl _ _, rfl, fin _⟩
    · simp only [Int.reduceEq, if_true, if_false]
      obtain ⟨t0, rfl⟩ : ∃ t0, l = [t0] := List.length_eq_one_iff.1 (by have := hsl.1 (.inr (.inl rfl)); omega)
      rw [show hdT [t0] = t0 from rfl]
      have i0 := tms_ix0 t0 []
      simp -implicitDefEqProofs only [RR, RE, RP, RG, takeV, reduceEqDiff, ↓reduceIte, reduceCtorEq, reduceAdd, reduceLeDiff, reduceLT, Nat.reduceBEq, g0, g3, g4, gx, gt, i0, Int.reduceEq]
      rw [← tmE_eq]
      refine (w52 4 t0.width [t0]).use fun n5 hn5 => ?_
      simp -implicitDefEqProofs only [RR, RE, RP, RG, takeV, reduceEqDiff, ↓reduceIte, reduceCtorEq, reduceAdd, reduceLeDiff, reduceLT, Nat.reduceBEq, g4, gt, tm_len, tm_take, n1, R24]
      exact ⟨_, _, .refl _ _, rfl, fin _⟩
    · simp only [Int.reduceEq, if_true, if_false]
      obtain ⟨t0, rfl⟩ : ∃ t0, l = [t0] := List.length_eq_one_iff.1 (by have := hsl.1 (.inr (.inr rfl)); omega)
      rw [show hdT [t0] = t0 from rfl]
      have i0 := tms_ix0 t0 []
      simp -implicitDefEqProofs only [RR, RE, RP, RG, takeV, reduceEqDiff, ↓reduceIte, reduceCtorEq, reduceAdd, reduceLeDiff, reduceLT, Nat.reduceBEq, g0, g3, g4, gx, gt, i0, Int.reduceEq]
      rw [← tmE_eq]
      refine (w52 3 t0.width [t0]).use fun n5 hn5 => ?_
      simp -implicitDefEqProofs only [RR, RE, RP, RG, takeV, reduceEqDiff, ↓reduceIte, reduceCtorEq, reduceAdd, reduceLeDiff, reduceLT, Nat.reduceBEq, g4, gt, tm_len, tm_take, n1, R24]
      exact ⟨_, _, .refl _ _, rfl, fin _⟩
    · simp only [Int.reduceEq, if_true, if_false]
      obtain ⟨t0, t1, rfl⟩ : ∃ t0 t1, l = [t0, t1] := by
        have := hsl.2 rfl
        match l, (by omega : l.length = 2) with
        | [a, b], _ => exact ⟨a, b, rfl⟩
      rw [show hdT [t0, t1] = t0 from rfl]
      have i0 := tms_ix0 t0 [t1]
      have i1 := tms_ix1 t0 t1 []
      rcases dec_cases ((16 : Int) ≤ op) with ⟨d1', d1⟩ | ⟨d1', d1⟩
      · rw [if_pos d1']
        simp -implicitDefEqProofs only [RR, RE, RP, RG, takeV, reduceEqDiff, ↓reduceIte, reduceCtorEq, reduceAdd, reduceLeDiff, reduceLT, Nat.reduceBEq, g0, g3, g4, gx, gt, i0, i1, d1, Int.reduceEq]
        rw [← tmE_eq, ← tmE_eq]
        refine (w52 op 1 [t0, t1]).use fun n5 hn5 => ?_
        simp -implicitDefEqProofs only [RR, RE, RP, RG, takeV, reduceEqDiff, ↓reduceIte, reduceCtorEq, reduceAdd, reduceLeDiff, reduceLT, Nat.reduceBEq, g4, gt, tm_len, tm_take, n1, R24]
        exact ⟨_, _, .refl _ _, rfl, fin _⟩
      · rw [if_neg d1']
        simp -implicitDefEqProofs only [RR, RE, RP, RG, takeV, reduceEqDiff, ↓reduceIte, reduceCtorEq, reduceAdd, reduceLeDiff, reduceLT, Nat.reduceBEq, g0, g3, g4, gx, gt, i0, i1, d1, Int.reduceEq]
        rw [← tmE_eq, ← tmE_eq]
        refine (w52 op t0.width [t0, t1]).use fun n5 hn5 => ?_
        simp -implicitDefEqProofs only [RR, RE, RP, RG, takeV, reduceEqDiff, ↓reduceIte, reduceCtorEq, reduceAdd, reduceLeDiff, reduceLT, Nat.reduceBEq, g4, gt, tm_len, tm_take, n1, R24]
        exact ⟨_, _, .refl _ _, rfl, fin _⟩
    all_goals
      simp only [Int.reduceEq, if_true, if_false]
      obtain ⟨t0, rfl⟩ : ∃ t0, l = [t0] := List.length_eq_one_iff.1 (by have := hsl7 (by simp); omega)
      rw [show hdT [t0] = t0 from rfl]
      have i0 := tms_ix0 t0 []
      rw [← tmE_eq] at i0
      simp -implicitDefEqProofs only [RR, RE, RP, RG, takeV, reduceEqDiff, ↓reduceIte, reduceCtorEq, reduceAdd, reduceLeDiff, reduceLT, Nat.reduceBEq, g0, g3, g4, gx, gt, i0, tm_len, tm_take, Int.reduceEq]
      refine (w55 t0 w _).use fun n5 hn5 => ?_
      simp -implicitDefEqProofs only [RR, RE, RP, RG, takeV, reduceEqDiff, ↓reduceIte, reduceCtorEq, reduceAdd, reduceLeDiff, reduceLT, Nat.reduceBEq, g4, gt, tm_len, tm_take, n1, R24]
      exact ⟨_, _, .refl _ _, rfl, fin _⟩
end Go.Proofs.YtgeieafamocnhaaGreatDoor
namespace Go.Proofs.YtgeieafamocnhaaGreatDoor
open Go Go.Ab Go.Proofs
open Nat (reduceEqDiff reduceAdd reduceLeDiff reduceLT)
set_option linter.unusedVariables false
set_option linter.unusedSimpArgs false
set_option maxRecDepth 20000
theorem w6 (x : Ex) (hx : szE x ≤ 4000000) : Pure Tryz.prog 6 [.agg (exE x)] (.bool (decide (5000 < szE x))) := by
  refine Pure.of fun nx => AC.go mixed is6 (by simp) ?_
  have rl := ex_len x
  have rt := ex_take x
  have e1 : szEL [x] = szE x := by simp [szEL]
  simp -implicitDefEqProofs only [RR, RE, RP, RG, takeV, reduceEqDiff, ↓reduceIte, reduceCtorEq, reduceAdd, reduceLeDiff, reduceLT, Nat.reduceBEq, A6, A6p, rl, rt]
  refine (w18 _ [x] (Nat.le_refl _) (by omega) _ _).mono ?_
  rintro y h2 n2 ⟨s, rfl, hs, hhe, hn2⟩
  rw [e1] at hs
  have e2 := hs.dec
  simp -implicitDefEqProofs only [RR, RE, RP, RG, takeV, reduceEqDiff, ↓reduceIte, reduceCtorEq, reduceAdd, reduceLeDiff, reduceLT, Nat.reduceBEq, e2, R6]
def zT : Tm := .mk 0 0 0 [] 0 []
def teW (p : Pr) (i : Int) (x : Ex) : Tm × Int := if (wiW p i x).1 = 0 then (exT p (vaW p i).2 x, 0) else (zT, (wiW p i x).1)
theorem zFC (h : Heap) : FrzC h [.int .u8 0, .int .i64 0, .int .u64 0, .str [], .int .i64 0, .nilS] h (tmE zT) := by
  rw [tmE_eq]
  exact .keep rfl (.keep rfl (.keep rfl (.keep rfl (.keep rfl (.cons (.nilS _ 6) rfl (.nil _))))))
theorem wiW_ok {p : Pr} {i : Int} {x : Ex} (o : OkP p) (h : (wiW p i x).1 = 0) : ckE p = 0 ∧ ∃ (j : Nat) (kn : List Pm), i = (j : Int) ∧ (vaW p i).2 = kn ∧ (vsW p)[j]? = some kn ∧ kn.length ≤ 1000000 ∧ wfE x = true ∧ (exW p kn x).1 = 0 ∧ vaW p i = (0, kn) := by
  unfold wiW at h
  by_cases h1 : (vaW p i).1 = 0
  · rw [if_pos h1] at h
    by_cases h2 : big x = true
    · rw [if_pos h2] at h; cases h
    rw [if_neg h2] at h
    by_cases h3 : wfE x = true
    · rw [if_pos h3] at h
      obtain ⟨hck, j, f, rfl, hf, hv⟩ := vaW_at h1
      have hmem := List.mem_of_getElem? hf
      have h4 := @fnW_len p f
      have h5 := o.fp f hmem
      have h6 := o.fb f hmem
      exact ⟨hck, j, (fnW p f).2, rfl, hv, by rw [vsW, List.getElem?_map, hf]; rfl, by omega, h3, by rw [hv] at h; exact h, vaW_ok hck hf⟩
    · rw [if_neg h3] at h; cases h
  · rw [if_neg h1] at h; exact absurd h h1
set_option maxHeartbeats 4000000 in
theorem w7 (p : Pr) (i : Int) (x : Ex) (o : OkP p) (hx : szE x ≤ 5000) : Pure Tryz.prog 7 [.agg (prE p), .int .i64 i, .agg (exE x)] (.tup [.agg (tmE (teW p i x).1), .int .i64 (teW p i x).2]) := by
  refine Pure.frz fun nx => AC.go mixed is7 (by simp) ?_
  have hpe := prE_eq p
  have hnx := nodes_sz x
  have c19 := w19 p i x o hx
  rw [hpe] at c19 ⊢
  have n1 : (nx + 1 = nx) = False := eq_false (by omega)
  have n2 : (nx + 1 + 1 = nx) = False := eq_false (by omega)
  have n3 : (nx + 1 + 1 = nx + 1) = False := eq_false (by omega)
  have rl := ex_len x
  have rt := ex_take x
  unfold teW
  simp -implicitDefEqProofs only [RR, RE, RP, RG, takeV, reduceEqDiff, ↓reduceIte, reduceCtorEq, reduceAdd, reduceLeDiff, reduceLT, Nat.reduceBEq, A7, A7p, n1, n2, n3, rl, rt, ↓c_ars, ↓p_ars, ↓c_fus, ↓p_fus]
  refine c19.use fun m1 hm1 => ?_
  rcases dec_cases ((wiW p i x).1 = 0) with ⟨d1', d1⟩ | ⟨d1', d1⟩
  case inr =>
    simp -implicitDefEqProofs only [RR, RE, RP, RG, takeV, reduceEqDiff, ↓reduceIte, reduceCtorEq, reduceAdd, reduceLeDiff, reduceLT, Nat.reduceBEq, d1, n1, n2, n3, rl, rt, R7]
    exact ⟨_, _, rfl, Frz.head (Frz.agg (zFC _))⟩
  obtain ⟨hck, j, kn, rfl, hv, hvs, hkl, hwf, hex, _⟩ := wiW_ok o d1'
  have c20 := w20 p o hck
  have c21 := w21 p o hck j kn hvs hkl _ x (Nat.le_refl _) (by omega) hwf hex
  rw [hpe] at c20
  rw [hv]
  simp -implicitDefEqProofs only [RR, RE, RP, RG, takeV, reduceEqDiff, ↓reduceIte, reduceCtorEq, reduceAdd, reduceLeDiff, reduceLT, Nat.reduceBEq, d1, n1, n2, n3, rl, rt]
  refine c20.use fun m2 hm2 => ?_
  simp -implicitDefEqProofs only [RR, RE, RP, RG, takeV, reduceEqDiff, ↓reduceIte, reduceCtorEq, reduceAdd, reduceLeDiff, reduceLT, Nat.reduceBEq, n1, n2, n3, rl, rt]
  refine c21.use fun m3 hm3 => ?_
  simp -implicitDefEqProofs only [RR, RE, RP, RG, takeV, reduceEqDiff, ↓reduceIte, reduceCtorEq, reduceAdd, reduceLeDiff, reduceLT, Nat.reduceBEq, n1, n2, n3, rl, rt, tm_len, tm_take, R7]
  exact ⟨_, _, rfl, .refl _ _⟩
set_option maxHeartbeats 4000000 in
theorem w8 (p : Pr) (i : Int) (x : Ex) (o : OkP p) (hx : szE x ≤ 5000) : Pure Tryz.prog 8 [.agg (prE p), .int .i64 i, .agg (exE x)] (.tup [.agg (tmE (teW p i x).1), .int .i64 (teW p i x).2]) := by
  refine Pure.frz fun nx => AC.go mixed is8 (by simp) ?_
  have hpe := prE_eq p
  have hnx := nodes_sz x
  have c22 := w22 p i x o hx
  rw [hpe] at c22 ⊢
  have n1 : (nx + 1 = nx) = False := eq_false (by omega)
  have n2 : (nx + 1 + 1 = nx) = False := eq_false (by omega)
  have n3 : (nx + 1 + 1 = nx + 1) = False := eq_false (by omega)
  have rl := ex_len x
  have rt := ex_take x
  unfold teW
  simp -implicitDefEqProofs only [RR, RE, RP, RG, takeV, reduceEqDiff, ↓reduceIte, reduceCtorEq, reduceAdd, reduceLeDiff, reduceLT, Nat.reduceBEq, A8, A8p, n1, n2, n3, rl, rt, ↓c_ars, ↓p_ars, ↓c_fus, ↓p_fus]
  refine c22.use fun m1 hm1 => ?_
  rcases dec_cases ((wiW p i x).1 = 0) with ⟨d1', d1⟩ | ⟨d1', d1⟩
  case inr =>
    simp -implicitDefEqProofs only [RR, RE, RP, RG, takeV, reduceEqDiff, ↓reduceIte, reduceCtorEq, reduceAdd, reduceLeDiff, reduceLT, Nat.reduceBEq, d1, n1, n2, n3, rl, rt, R8]
    exact ⟨_, _, rfl, Frz.head (Frz.agg (zFC _))⟩
  obtain ⟨hck, j, kn, rfl, hv, hvs, hkl, hwf, hex, hva⟩ := wiW_ok o d1'
  have c23 := w23' p j o
  rw [hpe, hva] at c23
  rw [hv]
  simp -implicitDefEqProofs only [RR, RE, RP, RG, takeV, reduceEqDiff, ↓reduceIte, reduceCtorEq, reduceAdd, reduceLeDiff, reduceLT, Nat.reduceBEq, d1, n1, n2, n3, rl, rt]
  refine c23.use fun m2 hm2 => ?_
  have n4 : (m2 = nx) = False := eq_false (by omega)
  have n5 : (m2 = nx + 1) = False := eq_false (by omega)
  have n6 : (m2 = nx + 1 + 1) = False := eq_false (by omega)
  simp -implicitDefEqProofs only [RR, RE, RP, RG, takeV, reduceEqDiff, ↓reduceIte, reduceCtorEq, reduceAdd, reduceLeDiff, reduceLT, Nat.reduceBEq, n1, n2, n3, n4, n5, n6, rl, rt, ↓c_pms, ↓p_pms, ↓c_ars, ↓p_ars, ↓c_fus, ↓p_fus]
  refine (w24 p o hck (pmsA kn) [] .nilS 0 .nilS .nilS 0 .nilS kn m2 hkl _ x (Nat.le_refl _) (by omega) hwf hex _ _ (by simp [hget, mkr]) (by omega) (.inl rfl)).mono ?_
  rintro y h2 m3 ⟨rfl, rfl, hm3⟩
  simp -implicitDefEqProofs only [RR, RE, RP, RG, takeV, reduceEqDiff, ↓reduceIte, reduceCtorEq, reduceAdd, reduceLeDiff, reduceLT, Nat.reduceBEq, n1, n2, n3, n4, n5, n6, rl, rt, tm_len, tm_take, R8]
  exact ⟨_, _, rfl, .refl _ _⟩
def pcW (p : Pr) : List Int × Int := if ckE p = 0 then (plW p, 0) else ([], ckE p)
theorem w9 (p : Pr) (o : OkP p) : Pure Tryz.prog 9 [.agg (prE p)] (.tup [insA (pcW p).1, .int .i64 (pcW p).2]) := by
  refine Pure.frz fun nx => AC.go mixed is9 (by simp) ?_
  unfold pcW
  rcases dec_cases (ckE p = 0) with ⟨d1', d1⟩ | ⟨d1', d1⟩
  · have c20 := w20 p o d1'
    simp only [unE] at c20
    rw [prE_eq] at c20 ⊢
    rw [if_pos d1']
    simp -implicitDefEqProofs only [RR, RE, RP, RG, takeV, reduceEqDiff, ↓reduceIte, reduceCtorEq, reduceAdd, reduceLeDiff, reduceLT, Nat.reduceBEq, A9, A9p, ↓c_ars, ↓p_ars, ↓c_fus, ↓p_fus]
    refine c20.use fun m2 hm2 => ?_
    simp -implicitDefEqProofs only [RR, RE, RP, RG, takeV, reduceEqDiff, ↓reduceIte, reduceCtorEq, reduceAdd, reduceLeDiff, reduceLT, Nat.reduceBEq, R9]
    exact ⟨_, _, rfl, .refl _ _⟩
  · have c20 := w20e p o d1'
    rw [prE_eq] at c20 ⊢
    rw [if_neg d1']
    simp -implicitDefEqProofs only [RR, RE, RP, RG, takeV, reduceEqDiff, ↓reduceIte, reduceCtorEq, reduceAdd, reduceLeDiff, reduceLT, Nat.reduceBEq, A9, A9p, ↓c_ars, ↓p_ars, ↓c_fus, ↓p_fus]
    refine c20.use fun m2 hm2 => ?_
    simp -implicitDefEqProofs only [RR, RE, RP, RG, takeV, reduceEqDiff, ↓reduceIte, reduceCtorEq, reduceAdd, reduceLeDiff, reduceLT, Nat.reduceBEq, d1, R9]
    exact ⟨_, _, rfl, Frz.head (Frz.nilS _ 1)⟩
theorem w10 (p : Pr) (o : OkP p) : Pure Tryz.prog 10 [.agg (prE p)] (.tup [insA (pcW p).1, .int .i64 (pcW p).2]) := by
  refine Pure.frz fun nx => AC.go mixed is10 (by simp) ?_
  unfold pcW
  have c25 := w25 p o
  rcases dec_cases (ckE p = 0) with ⟨d1', d1⟩ | ⟨d1', d1⟩
  · have c26 := w26 p o.al (ck_arr d1')
    rw [prE_eq] at c25 c26 ⊢
    rw [if_pos d1']
    simp -implicitDefEqProofs only [RR, RE, RP, RG, takeV, reduceEqDiff, ↓reduceIte, reduceCtorEq, reduceAdd, reduceLeDiff, reduceLT, Nat.reduceBEq, A10, A10p, ↓c_ars, ↓p_ars, ↓c_fus, ↓p_fus]
    refine c25.use fun m2 hm2 => ?_
    simp -implicitDefEqProofs only [RR, RE, RP, RG, takeV, reduceEqDiff, ↓reduceIte, reduceCtorEq, reduceAdd, reduceLeDiff, reduceLT, Nat.reduceBEq, d1]
    refine c26.use fun m3 hm3 => ?_
    simp -implicitDefEqProofs only [RR, RE, RP, RG, takeV, reduceEqDiff, ↓reduceIte, reduceCtorEq, reduceAdd, reduceLeDiff, reduceLT, Nat.reduceBEq, R10]
    exact ⟨_, _, rfl, .refl _ _⟩
  · rw [prE_eq] at c25 ⊢
    rw [if_neg d1']
    simp -implicitDefEqProofs only [RR, RE, RP, RG, takeV, reduceEqDiff, ↓reduceIte, reduceCtorEq, reduceAdd, reduceLeDiff, reduceLT, Nat.reduceBEq, A10, A10p, ↓c_ars, ↓p_ars, ↓c_fus, ↓p_fus]
    refine c25.use fun m2 hm2 => ?_
    simp -implicitDefEqProofs only [RR, RE, RP, RG, takeV, reduceEqDiff, ↓reduceIte, reduceCtorEq, reduceAdd, reduceLeDiff, reduceLT, Nat.reduceBEq, d1, R10]
    exact ⟨_, _, rfl, Frz.head (Frz.nilS _ 1)⟩
mutual
def nodesT : Tm → Nat
  | .mk _ _ _ _ _ s => nodesTL s + 1
def nodesTL : List Tm → Nat
  | [] => 0
  | x :: r => nodesT x + nodesTL r
end
mutual
def okT : Tm → Prop
  | .mk _ _ _ _ _ s => s.length ≤ 10 ∧ okTL s
def okTL : List Tm → Prop
  | [] => True
  | x :: r => okT x ∧ okTL r
end
theorem nodesT_mem : ∀ {l : List Tm} {x : Tm}, x ∈ l → nodesT x ≤ nodesTL l
  | [], x, h => by simp at h
  | y :: r, x, h => by
    simp only [nodesTL]
    rcases List.mem_cons.1 h with rfl | h
    · omega
    · have := nodesT_mem h; omega
theorem okT_mem : ∀ {l : List Tm} {x : Tm}, okTL l → x ∈ l → okT x
  | [], x, _, h => by simp at h
  | y :: r, x, ho, h => by
    rcases List.mem_cons.1 h with rfl | h
    · exact ho.1
    · exact okT_mem ho.2 h
theorem okTL_of : ∀ {l : List Tm}, (∀ x ∈ l, okT x) → okTL l
  | [], _ => trivial
  | y :: r, h => ⟨h y (by simp), okTL_of fun x hx => h x (by simp [hx])⟩
theorem nodesT_pos (x : Tm) : 0 < nodesT x := by cases x; simp [nodesT]
theorem okT_num (w b : Int) : okT (numT w b) := ⟨by simp, trivial⟩
theorem okT_nod {k w : Int} {s : List Tm} (hl : s.length ≤ 10) (h : okTL s) : okT (nodT k w s) := ⟨hl, h⟩
theorem okT_el {q : Int} {a : Ar} {t : Tm} (h : okT t) : okT (elT q a t) :=
  okT_nod (by simp) ⟨okT_num _ _, okT_nod (by simp) ⟨okT_nod (by simp) ⟨h, okT_num _ _, trivial⟩, okT_num _ _, trivial⟩, trivial⟩
theorem okT_hd {l : List Tm} (h : okTL l) : okT (hdT l) := by
  cases l with
  | nil => exact okT_num _ _
  | cons a r => exact h.1
theorem okT_rs {t : Tm} {w k : Int} (h : okT t) : okT (rsT t w k) := by
  unfold rsT
  split
  · exact okT_nod (by simp) ⟨h, trivial⟩
  · split
    · exact okT_nod (by simp) ⟨h, trivial⟩
    · exact h
theorem exT_ok (p : Pr) (kn : List Pm) : ∀ (m : Nat) (x : Ex), nodes x ≤ m → wfE x = true → okT (exT p kn x) := by
  intro m
  induction m with
  | zero => intro x hx; have := nodes_pos x; omega
  | succ m ih =>
    rintro ⟨k, w, b, n, op, s⟩ hm hwf
    have h2 := (wf_kind hwf).2.2
    have hsub := wf_sub hwf
    simp only [nodes] at hm
    have hl : okTL (s.map (exT p kn)) := okTL_of fun t ht => by
      obtain ⟨x, hx, rfl⟩ := List.mem_map.1 ht
      exact ih x (by have := nodesL_memb hx; omega) (hsub x hx)
    have hle : (s.map (exT p kn)).length ≤ 10 := by rw [List.length_map]; omega
    rw [exT, exTL_map]
    generalize s.map (exT p kn) = l at hl hle
    unfold exTk
    repeat' split
    all_goals first
      | exact okT_num _ _
      | exact okT_nod (by simp) ⟨okT_el (okT_hd hl), trivial⟩
      | exact okT_nod hle hl
      | exact okT_rs (okT_hd hl)
      | exact ⟨by simp, trivial⟩
set_option maxHeartbeats 4000000 in
theorem w11 : ∀ (m : Nat) (t : Tm), nodesT t ≤ m → okT t → Pure Tryz.prog 11 [.agg (tmE t), .agg (tmE t)] (.bool true) := by
  intro m
  induction m with
  | zero => intro x hx; have := nodesT_pos x; omega
  | succ m ih =>
    rintro ⟨k, w, b, n, lo, s⟩ hm hok
    refine Pure.of fun nx => AC.go mixed is11 (by simp) ?_
    simp only [nodesT] at hm
    have hsl : s.length ≤ 10 := hok.1
    have e0 : tmE (.mk k w b n lo s) = [.int .u8 k, .int .i64 w, .int .u64 b, .str n, .int .i64 lo, tmsA s] := by rw [tmE_eq]; rfl
    rw [e0]
    have lv := tms_len s
    have n1 : (nx + 1 = nx) = False := eq_false (by omega)
    have bn : (n == n) = true := by simp
    simp -implicitDefEqProofs only [RR, RE, RP, RG, takeV, reduceEqDiff, ↓reduceIte, reduceCtorEq, reduceAdd, reduceLeDiff, reduceLT, Nat.reduceBEq, A11, A11p, n1, lv, ↓c_tms, ↓p_tms, b_str, strA, bn]
    refine go_rounds (fun q st => ∃ i : Nat, q = s.length - i ∧ i ≤ s.length ∧ eget st.env 2 = some (.op nx 0) ∧ eget st.env 3 = some (.op (nx + 1) 0) ∧ eget st.env 5 = some (.int .i64 i) ∧ hget st.heap nx = some (.cells [.int .u8 k, .int .i64 w, .int .u64 b, .str n, .int .i64 lo, tmsA s]) ∧ hget st.heap (nx + 1) = some (.cells [.int .u8 k, .int .i64 w, .int .u64 b, .str n, .int .i64 lo, tmsA s]) ∧ st.dm = []) (n := s.length) mixed
      ⟨0, rfl, by omega, by simp [eget], by simp [eget], by simp [eget], by simp [hget], by simp [hget], rfl⟩ ?_
    rintro q ⟨env, heap, nx', dm⟩ ⟨i, rfl, hi, g2, g3, g5, gx, gy, hdm⟩
    simp only at g2 g3 g5 gx gy hdm
    subst hdm
    have f1 : IntKind.i64.wrap ((i : Int) + 1) = ((i + 1 : Nat) : Int) := by rw [w64 (by omega) (by omega)]; omega
    by_cases hc : (i : Int) < (s.length : Int)
    case neg =>
      simp -implicitDefEqProofs only [RR, RE, RP, RG, takeV, reduceEqDiff, ↓reduceIte, reduceCtorEq, reduceAdd, reduceLeDiff, reduceLT, Nat.reduceBEq, A11l0, A11l0p, g2, g3, g5, gx, gy, lv, hc, R11]
    have hr := List.getElem?_eq_getElem (show i < s.length by omega)
    generalize s[i] = r at hr
    have hmem := List.mem_of_getElem? hr
    have m1 := nodesT_mem hmem
    have ix := tms_idx hr
    simp -implicitDefEqProofs only [RR, RE, RP, RG, takeV, reduceEqDiff, ↓reduceIte, reduceCtorEq, reduceAdd, reduceLeDiff, reduceLT, Nat.reduceBEq, A11l0, A11l0p, g2, g3, g5, gx, gy, lv, hc, ix, tm_len, tm_take]
    refine (ih r (by omega) (okT_mem hok.2 hmem)).use fun n3 hn3 => ?_
    simp -implicitDefEqProofs only [RR, RE, RP, RG, takeV, reduceEqDiff, ↓reduceIte, reduceCtorEq, reduceAdd, reduceLeDiff, reduceLT, Nat.reduceBEq, g2, g3, g5, gx, gy, unA, f1]
    refine ⟨s.length - (i + 1), by omega, i + 1, ?_⟩
    repeat' apply And.intro
    all_goals first | assumption | rfl | omega | (simp [eget, *]; done)
set_option maxHeartbeats 8000000 in
theorem w3 (p : Pr) (i : Int) (x : Ex) (hB : szP p ≤ 4000000) (hx : szE x ≤ 4000000) : Pure Tryz.prog 3 [.agg (prE p), .int .i64 i, .agg (exE x)] (.bool true) := by
  refine Pure.of fun nx => AC.go mixed is3 (by simp) ?_
  have hpe := prE_eq p
  have c5 := w5 p hB
  have c6 := w6 x hx
  rw [hpe] at c5 ⊢
  have rl := ex_len x
  have rt := ex_take x
  have n1 : (nx + 1 = nx) = False := eq_false (by omega)
  simp -implicitDefEqProofs only [RR, RE, RP, RG, takeV, reduceEqDiff, ↓reduceIte, reduceCtorEq, reduceAdd, reduceLeDiff, reduceLT, Nat.reduceBEq, A3, A3p, n1, rl, rt, ↓c_ars, ↓p_ars, ↓c_fus, ↓p_fus]
  refine c5.use fun n2 hn2 => ?_
  cases hg : grP p with
  | true =>
    simp -implicitDefEqProofs only [RR, RE, RP, RG, takeV, reduceEqDiff, ↓reduceIte, reduceCtorEq, reduceAdd, reduceLeDiff, reduceLT, Nat.reduceBEq, R3]
  | false =>
  have o := grP_ok hg
  simp -implicitDefEqProofs only [RR, RE, RP, RG, takeV, reduceEqDiff, ↓reduceIte, reduceCtorEq, reduceAdd, reduceLeDiff, reduceLT, Nat.reduceBEq, rl, rt]
  refine c6.use fun n3 hn3 => ?_
  rcases dec_cases (5000 < szE x) with ⟨d1', d1⟩ | ⟨d1', d1⟩
  case inl =>
    simp -implicitDefEqProofs only [RR, RE, RP, RG, takeV, reduceEqDiff, ↓reduceIte, reduceCtorEq, reduceAdd, reduceLeDiff, reduceLT, Nat.reduceBEq, d1, R3]
  have hx2 : szE x ≤ 5000 := by omega
  have hnx := nodes_sz x
  have c7 := w7 p i x o hx2
  have c8 := w8 p i x o hx2
  have c9 := w9 p o
  have c10 := w10 p o
  rw [hpe] at c7 c8 c9 c10
  simp -implicitDefEqProofs only [RR, RE, RP, RG, takeV, reduceEqDiff, ↓reduceIte, reduceCtorEq, reduceAdd, reduceLeDiff, reduceLT, Nat.reduceBEq, d1, n1, rl, rt]
  refine c7.use fun n4 hn4 => ?_
  have a1 : (n4 = nx) = False := eq_false (by omega)
  have a2 : (n4 = nx + 1) = False := eq_false (by omega)
  have a3 : (nx + 1 = n4) = False := eq_false (by omega)
  have a4 : (nx = n4) = False := eq_false (by omega)
  simp -implicitDefEqProofs only [RR, RE, RP, RG, takeV, reduceEqDiff, ↓reduceIte, reduceCtorEq, reduceAdd, reduceLeDiff, reduceLT, Nat.reduceBEq, n1, rl, rt, tm_len, tm_take, a1, a2, a3, a4]
  refine c8.use fun n5 hn5 => ?_
  have b1 : (n5 = nx) = False := eq_false (by omega)
  have b2 : (n5 = nx + 1) = False := eq_false (by omega)
  have b3 : (n5 = n4) = False := eq_false (by omega)
  simp -implicitDefEqProofs only [RR, RE, RP, RG, takeV, reduceEqDiff, ↓reduceIte, reduceCtorEq, reduceAdd, reduceLeDiff, reduceLT, Nat.reduceBEq, n1, rl, rt, tm_len, tm_take, a1, a2, a3, a4, b1, b2, b3]
  refine c9.use fun n6 hn6 => ?_
  simp -implicitDefEqProofs only [RR, RE, RP, RG, takeV, reduceEqDiff, ↓reduceIte, reduceCtorEq, reduceAdd, reduceLeDiff, reduceLT, Nat.reduceBEq, n1, rl, rt, tm_len, tm_take, a1, a2, a3, a4, b1, b2, b3]
  refine c10.use fun n7 hn7 => ?_
  have lv := ins_len (pcW p).1
  have hpl : (pcW p).1.length ≤ 20 := by
    unfold pcW
    split
    · rw [plW, plL_len]; exact o.al
    · simp
  have hT : okT (teW p i x).1 := by
    unfold teW
    split
    · rename_i h0
      obtain ⟨_, j, kn, _, hv, _, _, hwf, _, _⟩ := wiW_ok o h0
      exact exT_ok p _ _ x (Nat.le_refl _) hwf
    · exact ⟨by simp, trivial⟩
  generalize (teW p i x).2 = e1
  generalize (pcW p).2 = e2
  generalize (pcW p).1 = l at lv hpl
  generalize (teW p i x).1 = T at hT
  simp -implicitDefEqProofs only [RR, RE, RP, RG, takeV, reduceEqDiff, ↓reduceIte, reduceCtorEq, reduceAdd, reduceLeDiff, reduceLT, Nat.reduceBEq, n1, rl, rt, lv]
  refine go_rounds (fun q st => ∃ i : Nat, q = l.length - i ∧ i ≤ l.length ∧ eget st.env 7 = some (.op n4 0) ∧ eget st.env 8 = some (.int .i64 e1) ∧ eget st.env 9 = some (.op n5 0) ∧ eget st.env 10 = some (.int .i64 e1) ∧ eget st.env 11 = some (insA l) ∧ eget st.env 12 = some (.int .i64 e2) ∧ eget st.env 13 = some (insA l) ∧ eget st.env 14 = some (.int .i64 e2) ∧ eget st.env 15 = some (.bool true) ∧ eget st.env 16 = some (.int .i64 i) ∧ hget st.heap n4 = some (.cells (tmE T)) ∧ hget st.heap n5 = some (.cells (tmE T)) ∧ st.dm = []) (n := l.length) mixed
    ⟨0, rfl, by omega, by simp [eget], by simp [eget], by simp [eget], by simp [eget], by simp [eget], by simp [eget], by simp [eget], by simp [eget], by simp [eget], by simp [eget], by simp [hget, b3], by simp [hget], rfl⟩ ?_
  rintro q ⟨env, heap, nx', dm⟩ ⟨i, rfl, hi, g7, g8, g9, g10, g11, g12, g13, g14, g15, g16, gx, gy, hdm⟩
  simp only at g7 g8 g9 g10 g11 g12 g13 g14 g15 g16 gx gy hdm
  subst hdm
  have f1 : IntKind.i64.wrap ((i : Int) + 1) = ((i + 1 : Nat) : Int) := by rw [w64 (by omega) (by omega)]; omega
  by_cases hc : (i : Int) < (l.length : Int)
  case pos =>
    have hr := List.getElem?_eq_getElem (show i < l.length by omega)
    generalize l[i] = r at hr
    have ix := ins_idx hr
    have ie : inE r = [.int .i64 r] := rfl
    have q1 : (r = r) = True := eq_true rfl
    simp -implicitDefEqProofs only [RR, RE, RP, RG, takeV, reduceEqDiff, ↓reduceIte, reduceCtorEq, reduceAdd, reduceLeDiff, reduceLT, Nat.reduceBEq, A3l0, A3l0p, g7, g8, g9, g10, g11, g12, g13, g14, g15, g16, lv, hc, ix, ie, q1, f1]
    refine ⟨l.length - (i + 1), by omega, i + 1, ?_⟩
    repeat' apply And.intro
    all_goals first | assumption | rfl | omega | (simp [eget, *]; done)
  have q1 : (e1 = e1) = True := eq_true rfl
  have q2 : (e2 = e2) = True := eq_true rfl
  simp -implicitDefEqProofs only [RR, RE, RP, RG, takeV, reduceEqDiff, ↓reduceIte, reduceCtorEq, reduceAdd, reduceLeDiff, reduceLT, Nat.reduceBEq, A3l0, A3l0p, g7, g8, g9, g10, g11, g12, g13, g14, g15, g16, gx, gy, lv, hc, tm_len, tm_take]
  refine (w11 _ T (Nat.le_refl _) hT).use fun n8 hn8 => ?_
  simp -implicitDefEqProofs only [RR, RE, RP, RG, takeV, reduceEqDiff, ↓reduceIte, reduceCtorEq, reduceAdd, reduceLeDiff, reduceLT, Nat.reduceBEq, g8, g10, g12, g14, q1, q2, R3]
end Go.Proofs.YtgeieafamocnhaaGreatDoor
