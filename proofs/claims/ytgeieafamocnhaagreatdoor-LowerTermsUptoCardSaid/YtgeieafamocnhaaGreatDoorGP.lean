/- Terms: constants, nodes, lookups. -/
import Derived.Test.YtgeieafamocnhaaGreatDoorGO
namespace Go.Proofs.YtgeieafamocnhaaGreatDoor
open Go Go.Ab Go.Proofs
open Nat (reduceEqDiff reduceAdd reduceLeDiff reduceLT)
set_option linter.unusedVariables false
set_option linter.unusedSimpArgs false
set_option maxRecDepth 20000
inductive Tm where
  | mk (kind width bits : Int) (name : Nm) (low : Int) (sub : List Tm)
def Tm.kind : Tm → Int | .mk k _ _ _ _ _ => k
def Tm.width : Tm → Int | .mk _ w _ _ _ _ => w
def Tm.bits : Tm → Int | .mk _ _ b _ _ _ => b
def Tm.name : Tm → Nm | .mk _ _ _ n _ _ => n
def Tm.low : Tm → Int | .mk _ _ _ _ l _ => l
def Tm.sub : Tm → List Tm | .mk _ _ _ _ _ s => s
mutual
def tmE : Tm → List AV
  | .mk k w b n l s => [.int .u8 k, .int .i64 w, .int .u64 b, .str n, .int .i64 l, .lst 6 (tmsE s)]
def tmsE : List Tm → List (List AV)
  | [] => []
  | x :: r => tmE x :: tmsE r
end
theorem tmsE_map : ∀ l : List Tm, tmsE l = l.map tmE
  | [] => by simp [tmsE]
  | x :: r => by simp [tmsE, tmsE_map r]
def tmsA (l : List Tm) : AV := .lst 6 (l.map tmE)
theorem tmE_eq (x : Tm) : tmE x = [.int .u8 x.kind, .int .i64 x.width, .int .u64 x.bits, .str x.name, .int .i64 x.low, tmsA x.sub] := by
  cases x; simp [tmE, Tm.kind, Tm.width, Tm.bits, Tm.name, Tm.low, Tm.sub, tmsA, tmsE_map]
theorem tms_len (l : List Tm) : lenA (tmsA l) = some l.length := by simp [tmsA, len_map]
theorem tms_idx {l : List Tm} {n : Nat} {r : Tm} (h : l[n]? = some r) : idxA 6 (tmsA l) (n : Int) = some (.fp (tmE r)) := idxA_map h
theorem tm_len (x : Tm) : (tmE x).length = 6 := by rw [tmE_eq]; rfl
theorem tm_take (x : Tm) : (tmE x).take 6 = tmE x := List.take_of_length_le (by rw [tm_len]; omega)
theorem tmE_all (l : List Tm) : ∀ z ∈ l.map tmE, z.length = 6 := fun z hz => by
  obtain ⟨r, _, rfl⟩ := List.mem_map.1 hz; exact tm_len r
def numT (w b : Int) : Tm := .mk 1 w b [] 0 []
def nodT (k w : Int) (s : List Tm) : Tm := .mk k w 0 [] 0 s
theorem num_eq (w b : Int) : tmE (numT w b) = [.int .u8 1, .int .i64 w, .int .u64 b, .str [], .int .i64 0, .lst 6 []] := by simp [numT, tmE, tmsE]
theorem nod_eq (k w : Int) (s : List Tm) : tmE (nodT k w s) = [.int .u8 k, .int .i64 w, .int .u64 0, .str [], .int .i64 0, tmsA s] := by rw [tmE_eq]; rfl
theorem nilE : (.lst 6 [] : AV) = tmsA [] := rfl
def unE (p : Pr) (q : List Int) (vs : List (List Pm)) : List AV := [arsA p.arrays, fusA p.funcs, insA q, .lst 1 (vs.map fun l => [pmsA l])]
def mkr (p : Pr) (v : AV) (nm : Nm) (ps : AV) (rs : Int) (bo out : AV) (op : Int) (ex : AV) : List AV := [arsA p.arrays, fusA p.funcs, v, .str nm, ps, .int .i64 rs, bo, out, .int .i64 op, ex]
def vaI (l : List Pm) (n : Nm) : Int := fi (fun v => v.1 == n) l 0
theorem kw_at {l : List Pm} {n : Nm} (h : ¬ kw l n = 0) : ∃ (j : Nat) (v : Pm), vaI l n = (j : Int) ∧ l[j]? = some v ∧ v.2 = kw l n := by
  have key : ∀ (l : List Pm) (i : Nat), ¬ kw l n = 0 → ∃ (j : Nat) (v : Pm), fi (fun v : Pm => v.1 == n) l i = ((i + j : Nat) : Int) ∧ l[j]? = some v ∧ v.2 = kw l n := by
    intro l
    induction l with
    | nil => intro i h; exact absurd rfl h
    | cons a r ih =>
      intro i h
      rw [kw] at h ⊢
      rw [fi]
      by_cases ha : (a.1 == n) = true
      · rw [if_pos ha]; exact ⟨0, a, by simp [ha], rfl, by rw [if_pos ha]⟩
      · rw [if_neg ha] at h
        obtain ⟨j, v, e1, e2, e3⟩ := ih (i + 1) h
        rw [if_neg (by simpa using ha), if_neg ha]
        exact ⟨j + 1, v, by rw [e1]; omega, by simpa using e2, e3⟩
  obtain ⟨j, v, e1, e2, e3⟩ := key l 0 h
  exact ⟨j, v, by rw [vaI, e1]; omega, e2, e3⟩
theorem nilFC (h : Heap) (w b : Int) : FrzC h [.int .u8 1, .int .i64 w, .int .u64 b, .str [], .int .i64 0, .nilS] h [.int .u8 1, .int .i64 w, .int .u64 b, .str [], .int .i64 0, .lst 6 []] :=
  .keep rfl (.keep rfl (.keep rfl (.keep rfl (.keep rfl (.cons (.nilS _ 6) rfl (.nil _))))))
theorem w41 (w b : Int) : Pure Tryz.prog 41 [.int .i64 w, .int .u64 b] (.agg (tmE (numT w b))) := by
  refine Pure.frz fun nx => AC.go mixed is41 (by simp) ?_
  rw [num_eq]
  simp -implicitDefEqProofs only [RR, RE, RP, RG, takeV, reduceEqDiff, ↓reduceIte, reduceCtorEq, reduceAdd, reduceLeDiff, reduceLT, Nat.reduceBEq, A41, A41p, R41]
  exact ⟨_, _, rfl, Frz.agg (nilFC _ w b)⟩
theorem w50 (w b : Int) : Pure Tryz.prog 50 [.int .i64 w, .int .u64 b] (.agg (tmE (numT w b))) := by
  refine Pure.frz fun nx => AC.go mixed is50 (by simp) ?_
  rw [num_eq]
  simp -implicitDefEqProofs only [RR, RE, RP, RG, takeV, reduceEqDiff, ↓reduceIte, reduceCtorEq, reduceAdd, reduceLeDiff, reduceLT, Nat.reduceBEq, A50, A50p, R50]
  exact ⟨_, _, rfl, Frz.agg (nilFC _ w b)⟩
theorem c_tms (l : List Tm) : cellsOf (tmsA l) = [tmsA l] := rfl
theorem p_tms (l : List Tm) : (tmsA l).plain = true := rfl
theorem w43 (k w : Int) (s : List Tm) : Pure Tryz.prog 43 [.int .u8 k, .int .i64 w, tmsA s] (.agg (tmE (nodT k w s))) := by
  refine Pure.of fun nx => AC.go mixed is43 (by simp) ?_
  rw [nod_eq]
  simp -implicitDefEqProofs only [RR, RE, RP, RG, takeV, reduceEqDiff, ↓reduceIte, reduceCtorEq, reduceAdd, reduceLeDiff, reduceLT, Nat.reduceBEq, A43, A43p, ↓c_tms, ↓p_tms, R43]
theorem w52 (k w : Int) (s : List Tm) : Pure Tryz.prog 52 [.int .u8 k, .int .i64 w, tmsA s] (.agg (tmE (nodT k w s))) := by
  refine Pure.of fun nx => AC.go mixed is52 (by simp) ?_
  rw [nod_eq]
  simp -implicitDefEqProofs only [RR, RE, RP, RG, takeV, reduceEqDiff, ↓reduceIte, reduceCtorEq, reduceAdd, reduceLeDiff, reduceLT, Nat.reduceBEq, A52, A52p, ↓c_tms, ↓p_tms, R52]
theorem w91 (a : Pm) (n : Nm) (b : Nat) (h : Heap) (nx : Nat) (hb : hget h b = some (.cells [.str n])) (hbn : b < nx) :
    AC Tryz.prog 91 [.agg (pmE a), .op b 0] h nx fun y h' n' => y = .ret (.bool (a.1 == n)) ∧ h' = h ∧ nx ≤ n' := by
  refine AC_keep (AC.go mixed is91 (by simp) ?_)
  have ae : pmE a = [.str a.1, .int .i64 a.2] := rfl
  have nb : (nx = b) = False := eq_false (by omega)
  simp -implicitDefEqProofs only [RR, RE, RP, RG, takeV, reduceEqDiff, ↓reduceIte, reduceCtorEq, reduceAdd, reduceLeDiff, reduceLT, Nat.reduceBEq, A91, A91p, ae, hb, nb, b_str, strA, R91]
  intro k o hk ho
  rw [if_neg (by omega)]; exact ho
theorem w93 (a : Ar) (n : Nm) (b : Nat) (h : Heap) (nx : Nat) (hb : hget h b = some (.cells [.str n])) (hbn : b < nx) :
    AC Tryz.prog 93 [.agg (arE a), .op b 0] h nx fun y h' n' => y = .ret (.bool (a.name == n)) ∧ h' = h ∧ nx ≤ n' := by
  refine AC_keep (AC.go mixed is93 (by simp) ?_)
  have ae := arE_eq a
  have nb : (nx = b) = False := eq_false (by omega)
  simp -implicitDefEqProofs only [RR, RE, RP, RG, takeV, reduceEqDiff, ↓reduceIte, reduceCtorEq, reduceAdd, reduceLeDiff, reduceLT, Nat.reduceBEq, A93, A93p, ae, hb, nb, b_str, strA, R93]
  intro k o hk ho
  rw [if_neg (by omega)]; exact ho
theorem w44 (p : Pr) (q : List Int) (vs : List (List Pm)) (n : Nm) (hl : p.arrays.length ≤ 1000) : Pure Tryz.prog 44 [.fp (unE p q vs), .str n] (.int .i64 (arI p n)) := by
  refine Pure.of fun nx => AC.go mixed is44 (by simp) ?_
  unfold unE
  simp -implicitDefEqProofs only [RR, RE, RP, RG, takeV, reduceEqDiff, ↓reduceIte, reduceCtorEq, reduceAdd, reduceLeDiff, reduceLT, Nat.reduceBEq, A44, A44p]
  refine (w92 (fun a => a.name == n) p.arrays _ _ (by omega) fun x hx m hm => w93 x n nx _ m (by simp [hget]) (by omega)).mono ?_
  rintro y h' n1 ⟨rfl, rfl, hn1⟩
  have e : fi (fun a => a.name == n) p.arrays 0 = arI p n := rfl
  simp -implicitDefEqProofs only [RR, RE, RP, RG, takeV, reduceEqDiff, ↓reduceIte, reduceCtorEq, reduceAdd, reduceLeDiff, reduceLT, Nat.reduceBEq, e, R44]
theorem w42 (p : Pr) (q : List Int) (vs : List (List Pm)) (f : Nat) (kn : List Pm) (n : Nm) (hf : vs[f]? = some kn) (hl : kn.length ≤ 1000000) : Pure Tryz.prog 42 [.fp (unE p q vs), .int .i64 f, .str n] (.int .i64 (vaI kn n)) := by
  refine Pure.of fun nx => AC.go mixed is42 (by simp) ?_
  have ix : idxA 1 (.lst 1 (vs.map fun l => [pmsA l])) (f : Int) = some (.fp [pmsA kn]) := idxA_map (f := fun l => [pmsA l]) hf
  unfold unE
  simp -implicitDefEqProofs only [RR, RE, RP, RG, takeV, reduceEqDiff, ↓reduceIte, reduceCtorEq, reduceAdd, reduceLeDiff, reduceLT, Nat.reduceBEq, A42, A42p, ix]
  refine (w90 (fun a => a.1 == n) kn _ _ (by omega) fun x hx m hm => w91 x n nx _ m (by simp [hget]) (by omega)).mono ?_
  rintro y h' n1 ⟨rfl, rfl, hn1⟩
  have e : fi (fun a => a.1 == n) kn 0 = vaI kn n := rfl
  simp -implicitDefEqProofs only [RR, RE, RP, RG, takeV, reduceEqDiff, ↓reduceIte, reduceCtorEq, reduceAdd, reduceLeDiff, reduceLT, Nat.reduceBEq, e, R42]
end Go.Proofs.YtgeieafamocnhaaGreatDoor
namespace Go.Proofs.YtgeieafamocnhaaGreatDoor
open Go Go.Ab Go.Proofs
open Nat (reduceEqDiff reduceAdd reduceLeDiff reduceLT)
set_option linter.unusedVariables false
set_option linter.unusedSimpArgs false
set_option maxRecDepth 20000
theorem wfA_at {a : Ar} (h : wfA a = true) : (a.width = 8 ∨ a.width = 16 ∨ a.width = 32) ∧ 1 ≤ a.len ∧ a.len ≤ 64 := by
  unfold wfA sized at h
  simp only [Bool.and_eq_true, Bool.or_eq_true, decide_eq_true_eq] at h
  omega
def elT (q : Int) (a : Ar) (t : Tm) : Tm := nodT 5 32 [numT 32 q, nodT 11 32 [nodT 8 32 [t, numT 32 (a.len - 1)], numT 32 (a.width / 16)]]
theorem wu64 {x : Int} (h0 : 0 ≤ x) (h1 : x ≤ 1000000000) : IntKind.u64.wrap x = x := by
  unfold IntKind.wrap; simp only [IntKind.bits, IntKind.signed]; simp; omega
set_option maxHeartbeats 4000000 in
theorem w45 (p : Pr) (q : List Int) (vs : List (List Pm)) (n : Nm) (t : Tm) (j : Nat) (a : Ar) (z : Int) (hl : p.arrays.length ≤ 1000) (e1 : arI p n = (j : Int)) (hj : p.arrays[j]? = some a) (hq : q[j]? = some z) (ha : wfA a = true) (hz0 : 0 ≤ z) (hz1 : z ≤ 1000000000) :
    Pure Tryz.prog 45 [.fp (unE p q vs), .str n, .agg (tmE t)] (.agg (tmE (elT z a t))) := by
  refine Pure.of fun nx => AC.go mixed is45 (by simp) ?_
  obtain ⟨hw, hl1, hl2⟩ := wfA_at ha
  have tl := tm_len t
  have tt := tm_take t
  have c44 := w44 p q vs n hl
  rw [e1] at c44
  have ix := ars_idx hj
  have ae := arE_eq a
  have iq := ins_idx hq
  have ie : inE z = [.int .i64 z] := rfl
  have f1 : IntKind.i64.wrap (a.len - 1) = a.len - 1 := by rw [w64 (by omega) (by omega)]
  have f2 : IntKind.u64.wrap (a.len - 1) = a.len - 1 := wu64 (by omega) (by omega)
  have f3 : IntKind.u64.wrap z = z := wu64 hz0 hz1
  have f4 : IntKind.i64.wrap (a.width.tdiv 16) = a.width / 16 := by rcases hw with e | e | e <;> rw [e] <;> rfl
  have f5 : IntKind.u64.wrap (a.width / 16) = a.width / 16 := wu64 (by omega) (by omega)
  unfold unE at c44 ⊢
  simp -implicitDefEqProofs only [RR, RE, RP, RG, takeV, reduceEqDiff, ↓reduceIte, reduceCtorEq, reduceAdd, reduceLeDiff, reduceLT, Nat.reduceBEq, A45, A45p, tl, tt]
  refine c44.use fun n2 hn2 => ?_
  have a1 : (n2 = nx) = False := eq_false (by omega)
  have a2 : (n2 = nx + 1) = False := eq_false (by omega)
  have a3 : (nx + 1 = nx) = False := eq_false (by omega)
  have a4 : (nx = n2) = False := eq_false (by omega)
  simp -implicitDefEqProofs only [RR, RE, RP, RG, takeV, reduceEqDiff, ↓reduceIte, reduceCtorEq, reduceAdd, reduceLeDiff, reduceLT, Nat.reduceBEq, ix, ae, tm_len, tm_take, f1, f2, a1, a2, a3, a4]
  refine (w41 32 (a.len - 1)).use fun n3 hn3 => ?_
  intro _
  simp -implicitDefEqProofs only [RR, RE, RP, RG, takeV, reduceEqDiff, ↓reduceIte, reduceCtorEq, reduceAdd, reduceLeDiff, reduceLT, Nat.reduceBEq, List.nil_append, tm_len, tm_take, a1, a2, a3, a4]
  refine (w43 8 32 [t, numT 32 (a.len - 1)]).use fun n4 hn4 => ?_
  intro _
  have a5 : (n4 = n2) = False := eq_false (by omega)
  have a6 : (n4 = nx + 1) = False := eq_false (by omega)
  have a7 : (n4 = nx) = False := eq_false (by omega)
  simp -implicitDefEqProofs only [RR, RE, RP, RG, takeV, reduceEqDiff, ↓reduceIte, reduceCtorEq, reduceAdd, reduceLeDiff, reduceLT, Nat.reduceBEq, List.nil_append, tm_len, tm_take, a1, a2, a3, a4, a5, a6, a7, iq, ie, f3, b_quo _ _ 16 (by decide), f4, f5]
  refine (w41 32 z).use fun n5 hn5 => ?_
  simp -implicitDefEqProofs only [RR, RE, RP, RG, takeV, reduceEqDiff, ↓reduceIte, reduceCtorEq, reduceAdd, reduceLeDiff, reduceLT, Nat.reduceBEq, tm_len, tm_take, a1, a2, a3, a4, a5, a6, a7, f4, f5]
  refine (w41 32 (a.width / 16)).use fun n6 hn6 => ?_
  simp -implicitDefEqProofs only [RR, RE, RP, RG, takeV, reduceEqDiff, ↓reduceIte, reduceCtorEq, reduceAdd, reduceLeDiff, reduceLT, Nat.reduceBEq, tm_len, tm_take, a1, a2, a3, a4, a5, a6, a7]
  refine (w43 11 32 [nodT 8 32 [t, numT 32 (a.len - 1)], numT 32 (a.width / 16)]).use fun n7 hn7 => ?_
  simp -implicitDefEqProofs only [RR, RE, RP, RG, takeV, reduceEqDiff, ↓reduceIte, reduceCtorEq, reduceAdd, reduceLeDiff, reduceLT, Nat.reduceBEq, tm_len, tm_take, a1, a2, a3, a4, a5, a6, a7]
  refine (w43 5 32 [numT 32 z, nodT 11 32 [nodT 8 32 [t, numT 32 (a.len - 1)], numT 32 (a.width / 16)]]).use fun n8 hn8 => ?_
  simp -implicitDefEqProofs only [RR, RE, RP, RG, takeV, reduceEqDiff, ↓reduceIte, reduceCtorEq, reduceAdd, reduceLeDiff, reduceLT, Nat.reduceBEq, tm_len, tm_take, a1, a2, a3, a4, a5, a6, a7, R45]
  rfl
end Go.Proofs.YtgeieafamocnhaaGreatDoor
namespace Go.Proofs.YtgeieafamocnhaaGreatDoor
open Go Go.Ab Go.Proofs
open Nat (reduceEqDiff reduceAdd reduceLeDiff reduceLT)
set_option linter.unusedVariables false
set_option linter.unusedSimpArgs false
set_option maxRecDepth 20000
def up4 (x : Int) : Int := (x + 3) / 4 * 4
def arZ (a : Ar) : Int := a.len * a.width / 8
def plL : Int → List Ar → List Int
  | _, [] => []
  | x, a :: r => up4 x :: plL (up4 x + arZ a) r
def plN : Int → List Ar → Int
  | x, [] => x
  | x, a :: r => plN (up4 x + arZ a) r
def plW (p : Pr) : List Int := plL 4096 p.arrays
theorem plL_app : ∀ (l : List Ar) (x : Int) (a : Ar), plL x (l ++ [a]) = plL x l ++ [up4 (plN x l)]
  | [], x, a => rfl
  | b :: l, x, a => by simp only [List.cons_append, plL, plN, plL_app l]
theorem plN_app : ∀ (l : List Ar) (x : Int) (a : Ar), plN x (l ++ [a]) = up4 (plN x l) + arZ a
  | [], x, a => rfl
  | b :: l, x, a => by simp only [List.cons_append, plN, plN_app l]
theorem plL_len : ∀ (l : List Ar) (x : Int), (plL x l).length = l.length
  | [], x => rfl
  | a :: l, x => by simp only [plL, List.length_cons, plL_len l]
theorem arZ_bd {a : Ar} (h : wfA a = true) : 0 ≤ arZ a ∧ arZ a ≤ 256 ∧ a.len * a.width = 8 * arZ a ∧ 0 ≤ a.len * a.width := by
  obtain ⟨hw, h1, h2⟩ := wfA_at h
  unfold arZ
  rcases hw with e | e | e <;> rw [e] <;> omega
theorem up4_bd (x : Int) : x ≤ up4 x ∧ up4 x ≤ x + 3 ∧ up4 x % 4 = 0 := by unfold up4; omega
theorem plN_bd : ∀ (l : List Ar) (x : Int), (∀ a ∈ l, wfA a = true) → x ≤ plN x l ∧ plN x l ≤ x + 260 * l.length
  | [], x, _ => by simp [plN]
  | a :: l, x, h => by
    have h1 := plN_bd l (up4 x + arZ a) fun b hb => h b (List.mem_cons_of_mem _ hb)
    have h2 := arZ_bd (h a List.mem_cons_self)
    have h3 := up4_bd x
    simp only [plN, List.length_cons]
    omega
theorem plL_bd : ∀ (l : List Ar) (x : Int), (∀ a ∈ l, wfA a = true) → ∀ z ∈ plL x l, x ≤ z ∧ z ≤ x + 260 * l.length + 3
  | [], x, _, z, hz => by simp [plL] at hz
  | a :: l, x, h, z, hz => by
    have h2 := arZ_bd (h a List.mem_cons_self)
    have h3 := up4_bd x
    simp only [plL, List.mem_cons, List.length_cons] at hz ⊢
    rcases hz with rfl | hz
    · omega
    · have h1 := plL_bd l (up4 x + arZ a) (fun b hb => h b (List.mem_cons_of_mem _ hb)) z hz
      omega
theorem plW_at {p : Pr} {j : Nat} {a : Ar} (hl : p.arrays.length ≤ 20) (hw : ∀ a ∈ p.arrays, wfA a = true) (hj : p.arrays[j]? = some a) : ∃ z, (plW p)[j]? = some z ∧ 0 ≤ z ∧ z ≤ 1000000000 := by
  have hlt := (List.getElem?_eq_some_iff.1 hj).1
  have hlt2 : j < (plW p).length := by rw [plW, plL_len]; exact hlt
  refine ⟨_, List.getElem?_eq_getElem hlt2, ?_⟩
  have := plL_bd p.arrays 4096 hw _ (List.getElem_mem hlt2)
  omega
set_option maxHeartbeats 4000000 in
theorem w26 (p : Pr) (hl : p.arrays.length ≤ 20) (hw : ∀ a ∈ p.arrays, wfA a = true) : Pure Tryz.prog 26 [.agg (prE p)] (insA (plW p)) := by
  refine Pure.own (e := 3) (inE_all _) fun nx => AC.go mixed is26 (by simp) ?_
  rw [prE_eq]
  have la := ars_len p.arrays
  simp -implicitDefEqProofs only [RR, RE, RP, RG, takeV, reduceEqDiff, ↓reduceIte, reduceCtorEq, reduceAdd, reduceLeDiff, reduceLT, Nat.reduceBEq, A26, A26p, la, ↓c_ars, ↓p_ars, ↓c_fus, ↓p_fus]
  refine go_rounds (fun q st => ∃ (i : Nat) (z : AV), q = p.arrays.length - i ∧ i ≤ p.arrays.length ∧ eget st.env 1 = some (.op nx 0) ∧ eget st.env 3 = some z ∧ eget st.env 4 = some (.int .i64 (plN 4096 (p.arrays.take i))) ∧ eget st.env 5 = some (.int .i64 i) ∧ hget st.heap nx = some (.cells [arsA p.arrays, fusA p.funcs]) ∧ OwnSl 3 1 st.heap st.nx z ((plL 4096 (p.arrays.take i)).map inE) ∧ (∀ b, blkOf z = some b → nx < b) ∧ nx < st.nx ∧ st.dm = []) (n := p.arrays.length) mixed
    ⟨0, .nilS, rfl, by omega, by simp [eget], by simp [eget], by simp [eget, plN], by simp [eget], by simp [hget], .inl ⟨rfl, by simp [plL]⟩, by simp [blkOf], by simp, rfl⟩ ?_
  rintro q ⟨env, heap, nx', dm⟩ ⟨i, z, rfl, hi, g1, g3, g4, g5, gx, ho, hzb, hnx, hdm⟩
  simp only at g1 g3 g4 g5 gx ho hnx hdm
  subst hdm
  have f1 : IntKind.i64.wrap ((i : Int) + 1) = ((i + 1 : Nat) : Int) := by rw [w64 (by omega) (by omega)]; omega
  have hzn : blkOf z ≠ some nx := fun e => by have := hzb nx e; omega
  have hwt : ∀ a ∈ p.arrays.take i, wfA a = true := fun a ha => hw a (List.mem_of_mem_take ha)
  have hbd := plN_bd _ 4096 hwt
  have hlt : (p.arrays.take i).length ≤ p.arrays.length := by rw [List.length_take]; omega
  generalize hX : plN 4096 (p.arrays.take i) = X at g4 hbd
  by_cases hc : (i : Int) < (p.arrays.length : Int)
  case neg =>
    rw [show p.arrays.take i = p.arrays from List.take_of_length_le (by omega)] at ho
    simp -implicitDefEqProofs only [RR, RE, RP, RG, takeV, reduceEqDiff, ↓reduceIte, reduceCtorEq, reduceAdd, reduceLeDiff, reduceLT, Nat.reduceBEq, A26l1, A26l1p, g1, g3, g5, hc, gx, la, R26]
    exact ⟨_, rfl, ho⟩
  have hr := List.getElem?_eq_getElem (show i < p.arrays.length by omega)
  generalize p.arrays[i] = r at hr
  have hu := up4_bd X
  simp -implicitDefEqProofs only [RR, RE, RP, RG, takeV, reduceEqDiff, ↓reduceIte, reduceCtorEq, reduceAdd, reduceLeDiff, reduceLT, Nat.reduceBEq, A26l1, A26l1p, g1, g3, g4, g5, gx, la, hc]
  refine go_rounds (fun q st => ∃ (x : Int), q = (up4 X - x).toNat ∧ X ≤ x ∧ x ≤ up4 X ∧ eget st.env 1 = some (.op nx 0) ∧ eget st.env 3 = some z ∧ eget st.env 4 = some (.int .i64 x) ∧ eget st.env 5 = some (.int .i64 i) ∧ st.heap = heap ∧ st.nx = nx' ∧ st.dm = []) (n := (up4 X - X).toNat) mixed
    ⟨X, rfl, by omega, by omega, by simp [eget, g1], by simp [eget, g3], by simp [eget, g4], by simp [eget, g5], rfl, rfl, rfl⟩ ?_
  clear g1 g3 g4 g5
  rintro q ⟨env, heap2, nx2, dm⟩ ⟨x, rfl, hx1, hx2, g1, g3, g4, g5, gh, gn, hdm⟩
  simp only at g1 g3 g4 g5 gh gn hdm
  subst hdm; subst gh; subst gn
  have r1 : x.tmod 4 = x % 4 := Int.tmod_eq_emod_of_nonneg (by omega)
  rcases dec_cases (x % 4 = 0) with ⟨d1', d1⟩ | ⟨d1', d1⟩
  case inr =>
    have f2 : IntKind.i64.wrap (x + 1) = x + 1 := by rw [w64 (by omega) (by omega)]
    simp -implicitDefEqProofs only [RR, RE, RP, RG, takeV, reduceEqDiff, ↓reduceIte, reduceCtorEq, reduceAdd, reduceLeDiff, reduceLT, Nat.reduceBEq, A26l0, A26l0p, g1, g3, g4, g5, b_rem _ _ 4 (by decide), r1, d1, f2]
    refine ⟨(up4 X - (x + 1)).toNat, by omega, x + 1, ?_⟩
    repeat' apply And.intro
    all_goals first | assumption | rfl | omega | (simp [eget, *]; done)
  obtain rfl : x = up4 X := by unfold up4 at hx2 ⊢; omega
  have ix := ars_idx hr
  have ae := arE_eq r
  have hrw := hw r (List.mem_of_getElem? hr)
  have hz := arZ_bd hrw
  have t1 : IntKind.i64.wrap (r.len * r.width) = r.len * r.width := by rw [w64 (by omega) (by omega)]
  have t2 : IntKind.i64.wrap ((r.len * r.width).tdiv 8) = arZ r := by rw [Int.tdiv_eq_ediv_of_nonneg (by omega), w64 (by omega) (by omega)]; rfl
  have t3 : IntKind.i64.wrap (up4 X + arZ r) = up4 X + arZ r := by rw [w64 (by omega) (by omega)]
  have hpl := plL_len (p.arrays.take i) 4096
  obtain ⟨z', h3, n4, ea, ow, hn4, hk3, hb3⟩ := ho.grw (bytes := 8) (ns := [inE (up4 X)]) (inE_all _) (by simp [inE]) (by simp only [List.length_map, List.length_cons, List.length_nil]; omega) (by simp only [List.length_map, List.length_cons, List.length_nil, maxLen]; omega)
  have ea' : appA 3 1 8 heap2 nx2 z (.lst 1 [[.int .i64 (up4 X)]]) = some (z', h3, n4) := ea
  have gx2 := hk3 nx _ hnx gx hzn
  simp -implicitDefEqProofs only [RR, RE, RP, RG, takeV, reduceEqDiff, ↓reduceIte, reduceCtorEq, reduceAdd, reduceLeDiff, reduceLT, Nat.reduceBEq, A26l0, A26l0p, g1, g3, g4, g5, b_rem _ _ 4 (by decide), r1, d1, gx2, ea', ix, ae, b_quo _ _ 8 (by decide), t1, t2, t3, f1]
  have how : OwnSl 3 1 h3 n4 z' ((plL 4096 (p.arrays.take (i + 1))).map inE) := by
    rw [take_succ hr, plL_app, hX, List.map_append]; exact ow
  have hpn : plN 4096 (p.arrays.take (i + 1)) = up4 X + arZ r := by rw [take_succ hr, plN_app, hX]
  have hzb2 : ∀ b, blkOf z' = some b → nx < b := fun b hb => by
    rcases hb3 b hb with h | h
    · omega
    · exact hzb b h
  refine ⟨p.arrays.length - (i + 1), by omega, i + 1, z', ?_⟩
  rw [hpn]
  repeat' (first | exact how | apply And.intro)
  all_goals first | assumption | rfl | omega | (simp [eget, *]; done)
theorem w51 (p : Pr) (v : AV) (nm : Nm) (ps : AV) (rs : Int) (bo out : AV) (op : Int) (ex : AV) (kn : List Pm) (c : Nat) (n : Nm) (h : Heap) (nx : Nat) (gc : hget h c = some (.cells (mkr p v nm ps rs bo out op ex))) (hv : Rd h nx v kn) (hl : kn.length ≤ 1000000) :
    AC Tryz.prog 51 [.op c 0, .str n] h nx fun y h' n' => y = .ret (.int .i64 (kw kn n)) ∧ h' = h ∧ nx ≤ n' := by
  refine AC.go mixed is51 (by simp) ?_
  have lv := hv.len
  simp only [mkr] at gc
  simp -implicitDefEqProofs only [RR, RE, RP, RG, takeV, reduceEqDiff, ↓reduceIte, reduceCtorEq, reduceAdd, reduceLeDiff, reduceLT, Nat.reduceBEq, A51, A51p, gc, lv]
  refine go_rounds (fun q st => ∃ i : Nat, q = kn.length - i ∧ i ≤ kn.length ∧ kw kn n = kw (kn.drop i) n ∧ eget st.env 0 = some (.op c 0) ∧ eget st.env 1 = some (.str n) ∧ eget st.env 5 = some (.int .i64 i) ∧ st.heap = h ∧ nx ≤ st.nx ∧ st.dm = []) (n := kn.length) mixed
    ⟨0, rfl, by omega, by simp, by simp [eget], by simp [eget], by simp [eget], rfl, by simp, rfl⟩ ?_
  rintro q ⟨env, heap, nx', dm⟩ ⟨i, rfl, hi, hk, g0, g1, g5, gh, hnx, hdm⟩
  simp only at g0 g1 g5 gh hnx hdm
  subst hdm; subst gh
  have f1 : IntKind.i64.wrap ((i : Int) + 1) = ((i + 1 : Nat) : Int) := by rw [w64 (by omega) (by omega)]; omega
  by_cases hc : (i : Int) < (kn.length : Int)
  case neg =>
    have : kn.drop i = [] := List.drop_of_length_le (by omega)
    rw [this, kw] at hk
    simp -implicitDefEqProofs only [RR, RE, RP, RG, takeV, reduceEqDiff, ↓reduceIte, reduceCtorEq, reduceAdd, reduceLeDiff, reduceLT, Nat.reduceBEq, A51l0, A51l0p, g0, g5, gc, lv, hc, hk, R51]
    exact hnx
  have hr := List.getElem?_eq_getElem (show i < kn.length by omega)
  generalize kn[i] = r at hr
  obtain ⟨q, q0, q1, r0, r1, i1, i2, i3, i4, i5⟩ := hv.cell hr
  rw [kw_step hr] at hk
  cases hv : (r.1 == n) with
  | true =>
    rw [hv, if_pos rfl] at hk
    simp -implicitDefEqProofs only [RR, RE, RP, RG, takeV, reduceEqDiff, ↓reduceIte, reduceCtorEq, reduceAdd, reduceLeDiff, reduceLT, Nat.reduceBEq, A51l0, A51l0p, g0, g1, g5, gc, lv, hc, i1, i2, i3, i4, i5, b_str, strA, hv, hk, R51]
    exact hnx
  | false =>
    rw [hv, if_neg (by simp)] at hk
    simp -implicitDefEqProofs only [RR, RE, RP, RG, takeV, reduceEqDiff, ↓reduceIte, reduceCtorEq, reduceAdd, reduceLeDiff, reduceLT, Nat.reduceBEq, A51l0, A51l0p, g0, g1, g5, gc, lv, hc, i1, i2, i3, i4, i5, b_str, strA, hv, f1]
    refine ⟨kn.length - (i + 1), by omega, i + 1, ?_⟩
    repeat' apply And.intro
    all_goals first | assumption | rfl | omega | (simp [eget, *]; done)
def rsT (t : Tm) (w k : Int) : Tm := if t.width < w then nodT k w [t] else if w < t.width then nodT 21 w [t] else t
theorem w55 (t : Tm) (w k : Int) : Pure Tryz.prog 55 [.agg (tmE t), .int .i64 w, .int .u8 k] (.agg (tmE (rsT t w k))) := by
  refine Pure.of fun nx => AC.go mixed is55 (by simp) ?_
  have n1 : (nx + 1 = nx) = False := eq_false (by omega)
  rw [tmE_eq t]
  unfold rsT
  rcases dec_cases (t.width < w) with ⟨d1', d1⟩ | ⟨d1', d1⟩
  · rw [if_pos d1']
    simp -implicitDefEqProofs only [RR, RE, RP, RG, takeV, reduceEqDiff, ↓reduceIte, reduceCtorEq, reduceAdd, reduceLeDiff, reduceLT, Nat.reduceBEq, A55, A55p, n1, d1, ↓c_tms, ↓p_tms]
    rw [← tmE_eq t]
    refine (w52 k w [t]).use fun n2 hn2 => ?_
    rw [nod_eq]
    simp -implicitDefEqProofs only [RR, RE, RP, RG, takeV, reduceEqDiff, ↓reduceIte, reduceCtorEq, reduceAdd, reduceLeDiff, reduceLT, Nat.reduceBEq, n1, ↓c_tms, ↓p_tms, R55]
  rw [if_neg d1']
  rcases dec_cases (w < t.width) with ⟨d2', d2⟩ | ⟨d2', d2⟩
  · rw [if_pos d2']
    simp -implicitDefEqProofs only [RR, RE, RP, RG, takeV, reduceEqDiff, ↓reduceIte, reduceCtorEq, reduceAdd, reduceLeDiff, reduceLT, Nat.reduceBEq, A55, A55p, n1, d1, d2, ↓c_tms, ↓p_tms]
    rw [← tmE_eq t]
    refine (w52 21 w [t]).use fun n2 hn2 => ?_
    rw [nod_eq]
    simp -implicitDefEqProofs only [RR, RE, RP, RG, takeV, reduceEqDiff, ↓reduceIte, reduceCtorEq, reduceAdd, reduceLeDiff, reduceLT, Nat.reduceBEq, n1, ↓c_tms, ↓p_tms, R55]
  rw [if_neg d2', tmE_eq t]
  simp -implicitDefEqProofs only [RR, RE, RP, RG, takeV, reduceEqDiff, ↓reduceIte, reduceCtorEq, reduceAdd, reduceLeDiff, reduceLT, Nat.reduceBEq, A55, A55p, n1, d1, d2, ↓c_tms, ↓p_tms, R55]
end Go.Proofs.YtgeieafamocnhaaGreatDoor
namespace Go.Proofs.YtgeieafamocnhaaGreatDoor
open Go Go.Ab Go.Proofs
open Nat (reduceEqDiff reduceAdd reduceLeDiff reduceLT)
set_option linter.unusedVariables false
set_option linter.unusedSimpArgs false
set_option maxRecDepth 20000
theorem w36' (p : Pr) (i : Int) (o : OkP p) : Pure Tryz.prog 36 [.agg (prE p), .int .i64 i] (.tup [pmsA (vaW p i).2, .int .i64 (vaW p i).1]) :=
  Pure.frz fun nx => (w36 p i o [] nx).mono fun y h' n' ⟨vv, e, ho, _, _⟩ => by
    obtain ⟨h2, hf⟩ := ho.frz (pmE_all _)
    exact ⟨_, h2, e, hf.head⟩
theorem w23' (p : Pr) (i : Int) (o : OkP p) : Pure Tryz.prog 23 [.agg (prE p), .int .i64 i] (.tup [pmsA (vaW p i).2, .int .i64 (vaW p i).1]) :=
  Pure.frz fun nx => (w23 p i o [] nx).mono fun y h' n' ⟨vv, e, ho, _, _⟩ => by
    obtain ⟨h2, hf⟩ := ho.frz (pmE_all _)
    exact ⟨_, h2, e, hf.head⟩
def vsW (p : Pr) : List (List Pm) := p.funcs.map fun f => (fnW p f).2
theorem vaW_ok {p : Pr} {j : Nat} {f : Fu} (h : ckE p = 0) (hf : p.funcs[j]? = some f) : vaW p (j : Int) = (0, (fnW p f).2) := by
  have hlt := (List.getElem?_eq_some_iff.1 hf).1
  rw [vaW, if_pos h, if_pos (by omega)]; simp [hf]
theorem ck_arr {p : Pr} (h : ckE p = 0) : ∀ a ∈ p.arrays, wfA a = true := by
  unfold ckE at h
  split at h
  · omega
  split at h
  · rename_i hw
    unfold wfR at hw
    simp only [Bool.and_eq_true] at hw
    exact List.all_eq_true.1 hw.1.1
  · omega
theorem an3 {x : Int} (h0 : 0 ≤ x) (h1 : x ≤ 1000000000) : bitsA .andNot .i64 x 3 = some (x / 4 * 4) := by
  obtain ⟨m, rfl⟩ := Int.eq_ofNat_of_zero_le h0
  have e : (BitVec.ofInt 64 (m : Int) &&& ~~~(BitVec.ofInt 64 3)).toNat = m / 4 * 4 := by
    apply Nat.eq_of_testBit_eq
    intro i
    have e4 : m / 4 * 4 = m / 2 ^ 2 * 2 ^ 2 := rfl
    have e3 : BitVec.ofInt 64 3 = BitVec.ofNat 64 3 := rfl
    rw [BitVec.testBit_toNat, BitVec.ofInt_natCast, e3, e4, Nat.testBit_mul_two_pow, Nat.testBit_div_two_pow]
    simp only [BitVec.getLsbD_and, BitVec.getLsbD_not, BitVec.getLsbD_ofNat]
    have hm : 64 ≤ i → m.testBit i = false := fun h => Nat.testBit_lt_two_pow (Nat.lt_of_lt_of_le (show m < 2 ^ 64 by omega) (Nat.pow_le_pow_right (by omega) h))
    have h3 : 2 ≤ i → Nat.testBit 3 i = false := fun h => Nat.testBit_lt_two_pow (Nat.lt_of_lt_of_le (show 3 < 2 ^ 2 by omega) (Nat.pow_le_pow_right (by omega) h))
    by_cases h2 : 2 ≤ i
    · have : i - 2 + 2 = i := by omega
      by_cases h6 : i < 64
      · simp [h2, h6, h3 h2, this]
      · simp [h2, h6, hm (by omega), this]
    · have : i = 0 ∨ i = 1 := by omega
      rcases this with rfl | rfl <;> simp (config := { decide := true })
  show some (IntKind.i64.wrap ((BitVec.ofInt 64 (m : Int) &&& ~~~(BitVec.ofInt 64 3)).toNat : Int)) = _
  rw [e, w64 (by omega) (by omega)]
  simp
def plE (l : List Pm) : List AV := [pmsA l]
theorem plE_all (l : List (List Pm)) : ∀ z ∈ l.map plE, z.length = 1 := fun z hz => by
  obtain ⟨r, _, rfl⟩ := List.mem_map.1 hz; rfl
theorem w20e (p : Pr) (o : OkP p) (h : ¬ ckE p = 0) : Pure Tryz.prog 20 [.agg (prE p)] (.tup [.nilP, .int .i64 (ckE p)]) := by
  refine Pure.of fun nx => AC.go mixed is20 (by simp) ?_
  have c40 := w40 p o
  have d1 := eq_false h
  rw [prE_eq] at c40 ⊢
  simp -implicitDefEqProofs only [RR, RE, RP, RG, takeV, reduceEqDiff, ↓reduceIte, reduceCtorEq, reduceAdd, reduceLeDiff, reduceLT, Nat.reduceBEq, A20, A20p, ↓c_ars, ↓p_ars, ↓c_fus, ↓p_fus]
  refine c40.use fun n2 hn2 => ?_
  simp -implicitDefEqProofs only [RR, RE, RP, RG, takeV, reduceEqDiff, ↓reduceIte, reduceCtorEq, reduceAdd, reduceLeDiff, reduceLT, Nat.reduceBEq, d1, R20]
set_option maxHeartbeats 4000000 in
theorem w20 (p : Pr) (o : OkP p) (h : ckE p = 0) : Pure Tryz.prog 20 [.agg (prE p)] (.tup [.fp (unE p (plW p) (vsW p)), .int .i64 0]) := by
  refine Pure.frz fun nx => AC.go mixed is20 (by simp) ?_
  have c40 := w40 p o
  have oal := o.al
  have ofl := o.fl
  have hwa := ck_arr h
  rw [h] at c40
  have c36 : ∀ (j : Nat) (f : Fu), p.funcs[j]? = some f → Pure Tryz.prog 36 [.agg [arsA p.arrays, fusA p.funcs], .int .i64 j] (.tup [pmsA (fnW p f).2, .int .i64 0]) := fun j f hf => by
    have := w36' p j o
    rw [vaW_ok h hf, prE_eq] at this; exact this
  rw [prE_eq] at c40 ⊢
  have la := ars_len p.arrays
  have lf := fus_len p.funcs
  simp -implicitDefEqProofs only [RR, RE, RP, RG, takeV, reduceEqDiff, ↓reduceIte, reduceCtorEq, reduceAdd, reduceLeDiff, reduceLT, Nat.reduceBEq, A20, A20p, la, lf, ↓c_ars, ↓p_ars, ↓c_fus, ↓p_fus]
  refine c40.use fun n2 hn2 => ?_
  have nn : (n2 = nx) = False := eq_false (by omega)
  have nn' : (nx = n2) = False := eq_false (by omega)
  simp -implicitDefEqProofs only [RR, RE, RP, RG, takeV, reduceEqDiff, ↓reduceIte, reduceCtorEq, reduceAdd, reduceLeDiff, reduceLT, Nat.reduceBEq, la, lf, nn, nn', ↓c_ars, ↓p_ars, ↓c_fus, ↓p_fus]
  refine go_rounds (fun q st => ∃ (i : Nat) (z : AV), q = p.arrays.length - i ∧ i ≤ p.arrays.length ∧ eget st.env 1 = some (.op nx 0) ∧ eget st.env 5 = some (.op n2 0) ∧ eget st.env 6 = some (.int .i64 (plN 4096 (p.arrays.take i))) ∧ eget st.env 21 = some (arsA p.arrays) ∧ eget st.env 22 = some (.int .i64 p.arrays.length) ∧ eget st.env 23 = some (.int .i64 i) ∧ hget st.heap nx = some (.cells [arsA p.arrays, fusA p.funcs]) ∧ hget st.heap n2 = some (.cells [arsA p.arrays, fusA p.funcs, z, .nilS]) ∧ OwnSl 3 1 st.heap st.nx z ((plL 4096 (p.arrays.take i)).map inE) ∧ (∀ b, blkOf z = some b → n2 < b) ∧ n2 < st.nx ∧ st.dm = []) (n := p.arrays.length) mixed
    ⟨0, .nilS, rfl, by omega, by simp [eget], by simp [eget], by simp [eget, plN], by simp [eget], by simp [eget], by simp [eget], by simp [hget, nn], by simp [hget], .inl ⟨rfl, by simp [plL]⟩, by simp [blkOf], by simp, rfl⟩ ?_
  rintro q ⟨env, heap, nx', dm⟩ ⟨i, z, rfl, hi, g1, g5, g6, g21, g22, g23, gx, gc, ho, hzb, hnx, hdm⟩
  simp only at g1 g5 g6 g21 g22 g23 gx gc ho hnx hdm
  subst hdm
  have f1 : IntKind.i64.wrap ((i : Int) + 1) = ((i + 1 : Nat) : Int) := by rw [w64 (by omega) (by omega)]; omega
  by_cases hc : (i : Int) < (p.arrays.length : Int)
  case pos =>
    have hr := List.getElem?_eq_getElem (show i < p.arrays.length by omega)
    generalize p.arrays[i] = r at hr
    have ix := ars_idx hr
    have ae := arE_eq r
    have a1 : (nx' = nx) = False := eq_false (by omega)
    have a2 : (nx' = n2) = False := eq_false (by omega)
    have hwt : ∀ a ∈ p.arrays.take i, wfA a = true := fun a ha => hwa a (List.mem_of_mem_take ha)
    have hbd := plN_bd _ 4096 hwt
    have hlt : (p.arrays.take i).length ≤ p.arrays.length := by rw [List.length_take]; omega
    generalize hX : plN 4096 (p.arrays.take i) = X at g6 hbd
    have hu := up4_bd X
    have hz := arZ_bd (hwa r (List.mem_of_getElem? hr))
    have t0 : IntKind.i64.wrap (X + 3) = X + 3 := by rw [w64 (by omega) (by omega)]
    have t4 : bitsA .andNot .i64 (X + 3) 3 = some (up4 X) := an3 (by omega) (by omega)
    have t1 : IntKind.i64.wrap (r.len * r.width) = r.len * r.width := by rw [w64 (by omega) (by omega)]
    have t2 : IntKind.i64.wrap ((r.len * r.width).tdiv 8) = arZ r := by rw [Int.tdiv_eq_ediv_of_nonneg (by omega), w64 (by omega) (by omega)]; rfl
    have t3 : IntKind.i64.wrap (up4 X + arZ r) = up4 X + arZ r := by rw [w64 (by omega) (by omega)]
    have hpl := plL_len (p.arrays.take i) 4096
    have gk2 : ∀ b o, b < nx' → hget heap b = some o → hget ((nx', AO.cells [.str r.name, .int .i64 r.width, .int .i64 r.len]) :: (nx', .cells [.str [], .int .i64 0, .int .i64 0]) :: heap) b = some o := fun b o hb ho => by rw [hget_cons, if_neg (by omega), hget_cons, if_neg (by omega)]; exact ho
    have ho2 : OwnSl 3 1 ((nx', AO.cells [.str r.name, .int .i64 r.width, .int .i64 r.len]) :: (nx', .cells [.str [], .int .i64 0, .int .i64 0]) :: heap) (nx' + 1) z ((plL 4096 (p.arrays.take i)).map inE) := ho.keep (by omega) fun b o hb hg => gk2 b o (ho.blk hb).2.2 hg
    obtain ⟨z', h3, n4, ea, ow, hn4, hk3, hb3⟩ := ho2.grw (bytes := 8) (ns := [inE (up4 X)]) (inE_all _) (by simp [inE]) (by simp only [List.length_map, List.length_cons, List.length_nil]; omega) (by simp only [List.length_map, List.length_cons, List.length_nil, maxLen]; omega)
    have ea' : appA 3 1 8 ((nx', AO.cells [.str r.name, .int .i64 r.width, .int .i64 r.len]) :: (nx', .cells [.str [], .int .i64 0, .int .i64 0]) :: heap) (nx' + 1) z (.lst 1 [[.int .i64 (up4 X)]]) = some (z', h3, n4) := ea
    have hz1 : blkOf z ≠ some nx := fun e => by have := hzb nx e; omega
    have hz2 : blkOf z ≠ some n2 := fun e => by have := hzb n2 e; omega
    have hz3 : blkOf z ≠ some nx' := fun e => by have := (ho.blk e).2.2; omega
    have gx3 := hk3 nx _ (by omega) (gk2 nx _ (by omega) gx) hz1
    have gc3 := hk3 n2 _ (by omega) (gk2 n2 _ (by omega) gc) hz2
    have gr3 := hk3 nx' (AO.cells [.str r.name, .int .i64 r.width, .int .i64 r.len]) (by omega) (by simp [hget]) hz3
    have hzb2 : ∀ b, blkOf z' = some b → n2 < b := fun b hb => by
      rcases hb3 b hb with h | h
      · omega
      · exact hzb b h
    have how : OwnSl 3 1 ((n2, .cells [arsA p.arrays, fusA p.funcs, z', .nilS]) :: h3) n4 z' ((plL 4096 (p.arrays.take (i + 1))).map inE) := by
      rw [take_succ hr, plL_app, hX, List.map_append]
      exact ow.keep (Nat.le_refl _) fun b o hb hg => by have := hzb2 b hb; rw [hget_cons, if_neg (by omega)]; exact hg
    have hpn : plN 4096 (p.arrays.take (i + 1)) = up4 X + arZ r := by rw [take_succ hr, plN_app, hX]
    obtain ⟨q1, q2⟩ := own_plain ow
    have a3 : (n2 = nx') = False := eq_false (by omega)
    simp -implicitDefEqProofs only [RR, RE, RP, RG, takeV, reduceEqDiff, ↓reduceIte, reduceCtorEq, reduceAdd, reduceLeDiff, reduceLT, Nat.reduceBEq, A20l0, A20l0p, g1, g5, g6, g21, g22, g23, gx, gc, hc, ix, ae, a1, a2, t0, b_andNot, t4, Option.map_some, ea', gc3, gr3, gx3, t1, b_quo _ _ 8 (by decide), t2, t3, f1, q1, q2, a3, nn]
    refine ⟨p.arrays.length - (i + 1), by omega, i + 1, z', ?_⟩
    rw [hpn]
    repeat' (first | exact how | apply And.intro)
    all_goals first | assumption | rfl | omega | (simp [eget, *]; done)
  rw [show p.arrays.take i = p.arrays from List.take_of_length_le (by omega)] at ho
  have ho1 : OwnSl 3 1 heap nx' z ((plW p).map inE) := ho
  simp -implicitDefEqProofs only [RR, RE, RP, RG, takeV, reduceEqDiff, ↓reduceIte, reduceCtorEq, reduceAdd, reduceLeDiff, reduceLT, Nat.reduceBEq, A20l0, A20l0p, g1, g5, g22, g23, gx, gc, hc, la, lf]
  obtain ⟨B, hB⟩ : ∃ B, B = nx' := ⟨_, rfl⟩
  have hzB : ∀ b, blkOf z = some b → b < B := fun b hb => by rw [hB]; exact (ho1.blk hb).2.2
  refine go_rounds (fun q st => ∃ (i : Nat) (y : AV), q = p.funcs.length - i ∧ i ≤ p.funcs.length ∧ eget st.env 1 = some (.op nx 0) ∧ eget st.env 5 = some (.op n2 0) ∧ eget st.env 50 = some (fusA p.funcs) ∧ eget st.env 51 = some (.int .i64 p.funcs.length) ∧ eget st.env 52 = some (.int .i64 i) ∧ hget st.heap nx = some (.cells [arsA p.arrays, fusA p.funcs]) ∧ hget st.heap n2 = some (.cells [arsA p.arrays, fusA p.funcs, z, y]) ∧ OwnSl 3 1 st.heap st.nx z ((plW p).map inE) ∧ OwnSl 59 1 st.heap st.nx y ((p.funcs.take i).map fun f => [pmsA (fnW p f).2]) ∧ (∀ b, blkOf y = some b → B ≤ b) ∧ B ≤ st.nx ∧ st.dm = []) (n := p.funcs.length) mixed
    ⟨0, .nilS, rfl, by omega, by simp [eget, g1], by simp [eget, g5], by simp [eget], by simp [eget], by simp [eget], gx, gc, ho1, .inl ⟨rfl, by simp⟩, by simp [blkOf], by simp [hB], rfl⟩ ?_
  clear g1 g5 g6 g21 g22 g23 gx gc ho ho1 hc f1 hi i
  rintro q ⟨env, heap, nx1, dm⟩ ⟨i, y, rfl, hi, g1, g5, g50, g51, g52, gx, gc, ho, hoy, hyb, hnx1, hdm⟩
  simp only at g1 g5 g50 g51 g52 gx gc ho hoy hnx1 hdm
  subst hdm
  have f1 : IntKind.i64.wrap ((i : Int) + 1) = ((i + 1 : Nat) : Int) := by rw [w64 (by omega) (by omega)]; omega
  by_cases hc : (i : Int) < (p.funcs.length : Int)
  case pos =>
    have hr := List.getElem?_eq_getElem (show i < p.funcs.length by omega)
    generalize p.funcs[i] = r at hr
    simp -implicitDefEqProofs only [RR, RE, RP, RG, takeV, reduceEqDiff, ↓reduceIte, reduceCtorEq, reduceAdd, reduceLeDiff, reduceLT, Nat.reduceBEq, A20l1, A20l1p, g1, g5, g50, g51, g52, gx, gc, hc]
    refine (c36 i r hr).use fun n3 hn3 => ?_
    have hlt : (p.funcs.take i).length ≤ p.funcs.length := by rw [List.length_take]; omega
    have hll : ∀ z ∈ (p.funcs.take i).map (fun f => [pmsA (fnW p f).2]), z.length = 1 := fun z hz => by
      obtain ⟨r, _, rfl⟩ := List.mem_map.1 hz; rfl
    obtain ⟨y', h3, n4, ea, ow, hn4, hk3, hb3⟩ := (hoy.mono hn3).grw (bytes := 24) (ns := [[pmsA (fnW p r).2]]) hll (by simp) (by simp only [List.length_map, List.length_cons, List.length_nil]; omega) (by simp only [List.length_map, List.length_cons, List.length_nil, maxLen]; omega)
    have hy1 : blkOf y ≠ some nx := fun e => by have := hyb nx e; omega
    have hy2 : blkOf y ≠ some n2 := fun e => by have := hyb n2 e; omega
    have gx3 := hk3 nx _ (by omega) gx hy1
    have gc3 := hk3 n2 _ (by omega) gc hy2
    obtain ⟨q1, q2⟩ := own_plain ow
    have hyb2 : ∀ b, blkOf y' = some b → B ≤ b := fun b hb => by
      rcases hb3 b hb with h | h
      · omega
      · exact hyb b h
    have how : OwnSl 59 1 ((n2, .cells [arsA p.arrays, fusA p.funcs, z, y']) :: h3) n4 y' ((p.funcs.take (i + 1)).map fun f => [pmsA (fnW p f).2]) := by
      rw [take_succ hr, List.map_append]
      exact ow.keep (Nat.le_refl _) fun b o hb hg => by have := hyb2 b hb; rw [hget_cons, if_neg (by omega)]; exact hg
    have hoz : OwnSl 3 1 ((n2, .cells [arsA p.arrays, fusA p.funcs, z, y']) :: h3) n4 z ((plW p).map inE) := ho.keep (by omega) fun b o hb hg => by
      have h1 := hzB b hb
      have h2 := hzb b hb
      rw [hget_cons, if_neg (by omega)]
      exact hk3 b o (by omega) hg fun e => by have := hyb b e; omega
    simp -implicitDefEqProofs only [RR, RE, RP, RG, takeV, reduceEqDiff, ↓reduceIte, reduceCtorEq, reduceAdd, reduceLeDiff, reduceLT, Nat.reduceBEq, g1, g5, g50, g51, g52, gx, gc, ↓c_pms, ↓p_pms, ea, gc3, gx3, f1, q1, q2, nn]
    refine ⟨p.funcs.length - (i + 1), by omega, i + 1, y', ?_⟩
    repeat' (first | exact how | exact hoz | apply And.intro)
    all_goals first | assumption | rfl | omega | (simp [eget, *]; done)
  rw [show p.funcs.take i = p.funcs from List.take_of_length_le (by omega)] at hoy
  simp -implicitDefEqProofs only [RR, RE, RP, RG, takeV, reduceEqDiff, ↓reduceIte, reduceCtorEq, reduceAdd, reduceLeDiff, reduceLT, Nat.reduceBEq, A20l1, A20l1p, g1, g5, g51, g52, hc, R20]
  have hvs : (p.funcs.map fun f => [pmsA (fnW p f).2]) = (vsW p).map fun l => [pmsA l] := by simp [vsW]
  rw [hvs] at hoy
  have hlv : ∀ z ∈ (vsW p).map (fun l => [pmsA l]), z.length = 1 := fun z hz => by
    obtain ⟨r, _, rfl⟩ := List.mem_map.1 hz; rfl
  have oz : OwnSl 3 1 (hdel heap n2) nx1 z ((plW p).map inE) := ho.keep (Nat.le_refl _) fun b o hb hg => by have := hzb b hb; rw [hget_hdel, if_neg (by omega)]; exact hg
  have oy : OwnSl 59 1 (hdel heap n2) nx1 y ((vsW p).map fun l => [pmsA l]) := hoy.keep (Nat.le_refl _) fun b o hb hg => by have := hyb b hb; rw [hget_hdel, if_neg (by omega)]; exact hg
  obtain ⟨h1, fz1, k1⟩ := oz.frz2 (inE_all _)
  have oy1 : OwnSl 59 1 h1 nx1 y ((vsW p).map fun l => [pmsA l]) := oy.keep (Nat.le_refl _) fun b o hb hg => k1 b o hg fun x e => by
    have := hyb b hb
    have := hzB b (by rw [e]; rfl)
    omega
  obtain ⟨h2, fz2⟩ := oy1.frz hlv
  exact ⟨_, h2, rfl, Frz.head (Frz.pt gc (.keep rfl (.keep rfl (.cons fz1 rfl (.cons fz2 rfl (.nil _))))))⟩
end Go.Proofs.YtgeieafamocnhaaGreatDoor
