/- slices.Delete of one element, on an own slice. -/
import Derived.Test.YtdmjloieldhlnaaGreatDoorGH
namespace Go.Proofs.YtdmjloieldhlnaaGreatDoor
open Go Go.Ab Go.Proofs
open Nat (reduceEqDiff reduceAdd reduceLeDiff reduceLT)
set_option linter.unusedVariables false
set_option linter.unusedSimpArgs false
set_option maxRecDepth 20000
theorem mixed : Tryz.prog.follows .mixedOrders = true := by kernel_rfl
theorem flat_len {es : List (List AV)} (hs : ∀ z ∈ es, z.length = 2) : es.flatten.length = es.length * 2 := flatten_length es hs
theorem flat_take : ∀ {es : List (List AV)}, (∀ z ∈ es, z.length = 2) → ∀ k, es.flatten.take (k * 2) = (es.take k).flatten
  | [], _, k => by simp
  | e :: es, hs, 0 => by simp
  | e :: es, hs, k + 1 => by
    have h0 := hs e (by simp)
    rw [List.flatten_cons, List.take_append, h0, show (k + 1) * 2 - 2 = k * 2 by omega, flat_take (fun z hz => hs z (by simp [hz])) k, List.take_of_length_le (by omega)]
    simp
theorem flat_drop : ∀ {es : List (List AV)}, (∀ z ∈ es, z.length = 2) → ∀ k, es.flatten.drop (k * 2) = (es.drop k).flatten
  | [], _, k => by simp
  | e :: es, hs, 0 => by simp
  | e :: es, hs, k + 1 => by
    have h0 := hs e (by simp)
    rw [List.flatten_cons, List.drop_append, h0, show (k + 1) * 2 - 2 = k * 2 by omega, flat_drop (fun z hz => hs z (by simp [hz])) k, List.drop_eq_nil_of_le (by omega)]
    simp
theorem del_app {b k q c nx : Nat} {es : List (List AV)} (hs : ∀ z ∈ es, z.length = 2) (hn : es.length = q + 1) (hk : k ≤ q) (hc : q + 1 ≤ c) {h : Heap} (hb : hget h b = some (.cells es.flatten)) :
    ∃ h1 rest, appA 35 2 16 h nx (.oc b 0 35 2 k c) (.oc b ((k + 1) * 2) 35 2 (q - k) (c - (k + 1))) = some (.oc b 0 35 2 q c, h1, nx) ∧ hget h1 b = some (.cells ((es.eraseIdx k).flatten ++ rest)) ∧ rest.length = 2 ∧ ∀ d, d ≠ b → hget h1 d = hget h d := by
  have hfl := flat_len hs
  have he : es.eraseIdx k = es.take k ++ es.drop (k + 1) := List.eraseIdx_eq_take_drop_succ ..
  have hs1 : ∀ z ∈ es.drop (k + 1), z.length = 2 := fun z hz => hs z (List.mem_of_mem_drop hz)
  have hdl : (es.drop (k + 1)).flatten.length = (q - k) * 2 := by rw [flat_len hs1, List.length_drop, hn]; congr 1; omega
  have hsc : sliceCells h (.oc b ((k + 1) * 2) 35 2 (q - k) (c - (k + 1))) = some (q - k, (es.drop (k + 1)).flatten) := by
    simp only [sliceCells, hb]
    rw [if_pos (by rw [hfl, hn]; omega), flat_drop hs, List.take_of_length_le (by omega)]
  have hsz : slSz (.oc b ((k + 1) * 2) 35 2 (q - k) (c - (k + 1))) 2 = true := by simp [slSz]
  by_cases hkq : k = q
  · subst hkq
    refine ⟨h, es.flatten.drop (k * 2), ?_, ?_, by rw [List.length_drop, hfl, hn]; omega, fun _ _ => rfl⟩
    · simp only [appA, hsc, hsz, if_true, hb]
      rw [if_pos ⟨trivial, trivial, trivial, by omega, by rw [hfl, hn]; omega⟩, if_pos (by omega)]
    · rw [hb, he, List.drop_of_length_le (by omega), List.append_nil, ← flat_take hs, List.take_append_drop]
  · refine ⟨hset h b (.cells (splice es.flatten (k * 2) (es.drop (k + 1)).flatten)), es.flatten.drop (q * 2), ?_, ?_, by rw [List.length_drop, hfl, hn]; omega, fun d hd => by rw [hget_hset, if_neg (fun e => hd e.symm)]⟩
    · simp only [appA, hsc, hsz, if_true, hb]
      rw [if_pos ⟨trivial, trivial, trivial, by omega, by rw [hfl, hn]; omega⟩, if_neg (by omega)]
      simp only [show k + (q - k) = q by omega]
    · rw [hget_hset, if_pos rfl, splice, hdl, show k * 2 + (q - k) * 2 = q * 2 by omega, flat_take hs, he, List.flatten_append, List.append_assoc]
theorem w16 (b k q : Nat) (es : List (List AV)) (hs : ∀ z ∈ es, z.length = 2) (hn : es.length = q + 1) (hk : k ≤ q) (hl : q ≤ 5000) (h : Heap) (nx : Nat) (hb : hget h b = some (.cells es.flatten)) :
    AC Tryz.prog 34 [.os b 0 35 2 (q + 1), .int .i64 (k : Int), .int .i64 ((k + 1 : Nat) : Int)] h nx fun y h' n' => y = .ret (.os b 0 35 2 q) ∧ n' = nx ∧ (∀ c, c ≠ b → hget h' c = hget h c) ∧ hget h' b = some (.cells (es.eraseIdx k).flatten) := by
  refine AC.oc [] _ (by simp [maxLen]; omega) fun c hc1 hc2 => AC.frz (AC.go mixed is16 (by simp) ?_)
  have hne : ((k : Int) = ((k + 1 : Nat) : Int)) = False := eq_false (by omega)
  have p0 : ∀ m : Nat, (0 ≤ (m : Int)) = True := fun m => eq_true (by omega)
  have p1 : (k ≤ k + 1) = True := eq_true (by omega)
  have p2 : (k ≤ q) = True := eq_true (by omega)
  have p3 : (q + 1 ≤ c) = True := eq_true (by omega)
  have p4 : (k ≤ c) = True := eq_true (by omega)
  have p5 : (q ≤ q + 1) = True := eq_true (by omega)
  have p6 : (k + 1 ≤ q + 1) = True := eq_true (by omega)
  obtain ⟨h1, rest, ea, hb1, hr, hfr⟩ := del_app (nx := nx) hs hn hk hc1 hb
  have z1 : q + 1 - (k + 1) = q - k := by omega
  have z2 : q + 1 - q = 1 := by omega
  have hel : (es.eraseIdx k).flatten.length = q * 2 := by
    rw [flat_len (fun z hz => hs z (List.mem_of_mem_eraseIdx hz)), List.length_eraseIdx, if_pos (by omega), hn]; rfl
  have ec : clearA [AV.int .u64 0, AV.int .u8 0] h1 (.oc b (q * 2) 35 2 1 (c - q)) = some (hset h1 b (.cells ((es.eraseIdx k).flatten ++ [AV.int .u64 0, AV.int .u8 0]))) := by
    simp only [clearA, hb1]
    rw [if_pos ⟨rfl, by omega, by decide, by rw [List.length_append, hel, hr]; simp⟩]
    simp only [splice, ← hel, List.take_left]
    rw [List.drop_of_length_le (by simp [hr])]
    simp
  simp -implicitDefEqProofs only [RR, RE, takeV, reduceEqDiff, ↓reduceIte, reduceCtorEq, reduceAdd, reduceLeDiff, reduceLT, Nat.reduceBEq, A16, hne, lenA, p0, p1, p2, p3, p4, p5, p6, bnd, slcA, Int.toNat_natCast, if_true, true_and, and_true, Nat.zero_le, Nat.zero_mul, Nat.zero_add, Nat.sub_zero, ea, ec, z1, z2, R16]
  refine ⟨_, _, (Frz.short (cs := (es.eraseIdx k).flatten) (rest := [AV.int .u64 0, AV.int .u8 0]) (by rw [hget_hset, if_pos rfl]) _).trans Frz.oc, rfl, fun d hd => ?_, by rw [hget_hset, if_pos rfl]⟩
  rw [hget_hset, if_neg (fun e => hd e.symm), hget_hset, if_neg (fun e => hd e.symm), hfr d hd]
end Go.Proofs.YtdmjloieldhlnaaGreatDoor
namespace Go.Proofs.YtdmjloieldhlnaaGreatDoor
open Go Go.Ab Go.Proofs
open Nat (reduceEqDiff reduceAdd reduceLeDiff reduceLT)
set_option linter.unusedVariables false
set_option linter.unusedSimpArgs false
set_option maxRecDepth 20000
theorem take_pre {α : Type} (l r : List α) {n : Nat} (h : l.length = n) : (l ++ r).take n = l := by subst h; exact List.take_left
theorem drop_pre {α : Type} (l r : List α) {n : Nat} (h : l.length = n) : (l ++ r).drop n = r := by subst h; exact List.drop_left
theorem src_os {h : Heap} {vb most : Nat} {x : List AV} (hx : x.length = 2) (hv : hget h vb = some (.cells x)) (hm : 0 < most) : srcCells 2 h (.os vb 0 35 2 1) most = some (1, x) := by
  have hsc : sliceCells h (.os vb 0 35 2 1) = some (1, x) := by
    simp only [sliceCells, hv]
    rw [if_pos (by omega)]
    simp [List.take_of_length_le, hx]
  simp only [srcCells, hsc]
  rw [if_pos (by simp [slSz]), show min 1 most = 1 by omega, List.take_of_length_le (by omega)]
theorem src_oc {h : Heap} {b off m c most k : Nat} {cs : List AV} (hb : hget h b = some (.cells cs)) (hk : min m most = k) (hle : off + k * 2 ≤ cs.length) : srcCells 2 h (.oc b off 35 2 m c) most = some (k, (cs.drop off).take (k * 2)) := by
  simp only [srcCells, hb, hk]
  rw [if_pos ⟨trivial, hle⟩]
theorem cp_os {h : Heap} {b off dl k : Nat} {cs news : List AV} {x : AV} (hs : srcCells 2 h x dl = some (k, news)) (hb : hget h b = some (.cells cs)) (hk : 0 < k) (hle : off + k * 2 ≤ cs.length) : copyA 2 h (.os b off 35 2 dl) x = some (k, hset h b (.cells (splice cs off news))) := by
  simp only [copyA, hs, hb]
  rw [if_pos ⟨trivial, hle, hk⟩]
theorem cp_oc {h : Heap} {b off dl k c : Nat} {cs news : List AV} {x : AV} (hs : srcCells 2 h x dl = some (k, news)) (hb : hget h b = some (.cells cs)) (hk : 0 < k) (hle : off ≤ cs.length) : copyA 2 h (.oc b off 35 2 dl c) x = some (k, hset h b (.cells (splice cs off news))) := by
  simp only [copyA, hs, hb]
  rw [if_pos ⟨trivial, hle, hk⟩]
def insE (es : List (List AV)) (k : Nat) (x : List AV) : List (List AV) := es.take k ++ x :: es.drop k
theorem insE_flat (es : List (List AV)) (k : Nat) (x : List AV) : (insE es k x).flatten = (es.take k).flatten ++ (x ++ (es.drop k).flatten) := by simp [insE]
theorem ins_grow {b k n c vb nx : Nat} {es : List (List AV)} {x : List AV} (hs : ∀ z ∈ es, z.length = 2) (hn : es.length = n) (hk : k < n) (hx : x.length = 2) {h : Heap} (hb : hget h b = some (.cells es.flatten)) (hv : hget h vb = some (.cells x)) (hbn : b ≠ nx) (hvn : vb ≠ nx) :
    ∃ h1 h2, copyA 2 ((nx, .cells ((es.take k).flatten ++ (List.replicate (n + 1 - k) [AV.int .u64 0, AV.int .u8 0]).flatten)) :: h) (.os nx (k * 2) 35 2 (n + 1 - k)) (.os vb 0 35 2 1) = some (1, h1) ∧
      copyA 2 h1 (.os nx ((k + 1) * 2) 35 2 (n - k)) (.oc b (k * 2) 35 2 (n - k) (c - k)) = some (n - k, h2) ∧ hget h2 nx = some (.cells (insE es k x).flatten) ∧ ∀ d, d ≠ nx → hget h2 d = hget h d := by
  have hfl := flat_len hs
  have htl : (es.take k).flatten.length = k * 2 := by rw [flat_len (fun z hz => hs z (List.mem_of_mem_take hz)), List.length_take, Nat.min_eq_left (by omega)]
  have hdl : (es.drop k).flatten.length = (n - k) * 2 := by rw [flat_len (fun z hz => hs z (List.mem_of_mem_drop hz)), List.length_drop, hn]
  have hzl : (List.replicate (n + 1 - k) [AV.int .u64 0, AV.int .u8 0]).flatten.length = (n + 1 - k) * 2 := by simp
  generalize (List.replicate (n + 1 - k) [AV.int .u64 0, AV.int .u8 0]).flatten = Z at hzl
  generalize hA : (es.take k).flatten = A at htl
  have g0 : hget ((nx, .cells (A ++ Z)) :: h) nx = some (.cells (A ++ Z)) := by rw [hget_cons, if_pos rfl]
  have g1 : hget ((nx, .cells (A ++ Z)) :: h) vb = some (.cells x) := by rw [hget_cons, if_neg (fun e => hvn e.symm)]; exact hv
  have c1 := cp_os (b := nx) (off := k * 2) (dl := n + 1 - k) (src_os hx g1 (by omega)) g0 (by omega) (by rw [List.length_append, htl, hzl]; omega)
  have s1 : splice (A ++ Z) (k * 2) x = A ++ (x ++ Z.drop 2) := by
    rw [splice, take_pre A Z htl, hx, ← List.drop_drop, drop_pre A Z htl]
  rw [s1] at c1
  have g2 : hget (hset ((nx, .cells (A ++ Z)) :: h) nx (.cells (A ++ (x ++ Z.drop 2)))) nx = some (.cells (A ++ (x ++ Z.drop 2))) := by rw [hget_hset, if_pos rfl]
  have g3 : hget (hset ((nx, .cells (A ++ Z)) :: h) nx (.cells (A ++ (x ++ Z.drop 2)))) b = some (.cells es.flatten) := by rw [hget_hset, if_neg (fun e => hbn e.symm), hget_cons, if_neg (fun e => hbn e.symm)]; exact hb
  have c2 := cp_os (b := nx) (off := (k + 1) * 2) (dl := n - k) (src_oc (off := k * 2) (m := n - k) (c := c - k) (most := n - k) (k := n - k) g3 (by omega) (by rw [hfl, hn]; omega)) g2 (by omega) (by simp only [List.length_append, List.length_drop, htl, hx, hzl]; omega)
  refine ⟨_, _, c1, c2, ?_, fun d hd => by rw [hget_hset, if_neg (fun e => hd e.symm), hget_hset, if_neg (fun e => hd e.symm), hget_cons, if_neg (fun e => hd e.symm)]⟩
  rw [hget_hset, if_pos rfl, insE_flat, hA, flat_drop hs, List.take_of_length_le (by omega)]
  have hAx : (A ++ x).length = (k + 1) * 2 := by rw [List.length_append, htl, hx]; omega
  have e5 : A ++ (x ++ Z.drop 2) = (A ++ x) ++ Z.drop 2 := by rw [List.append_assoc]
  have e6 : ((A ++ x) ++ Z.drop 2).drop ((k + 1) * 2 + (es.drop k).flatten.length) = [] := List.drop_of_length_le (by simp only [List.length_append, List.length_drop, htl, hx, hzl, hdl]; omega)
  rw [splice, e5, take_pre (A ++ x) _ hAx, e6, List.append_nil, List.append_assoc]
theorem ins_room {b k n c vb : Nat} {es : List (List AV)} {x : List AV} (hs : ∀ z ∈ es, z.length = 2) (hn : es.length = n) (hk : k < n) (hx : x.length = 2) {h : Heap} (hb : hget h b = some (.cells es.flatten)) (hv : hget h vb = some (.cells x)) (hbv : vb ≠ b) :
    ∃ h1 h2, copyA 2 h (.oc b ((k + 1) * 2) 35 2 (n - k) (c - (k + 1))) (.oc b (k * 2) 35 2 (n + 1 - k) (c - k)) = some (n - k, h1) ∧
      copyA 2 h1 (.oc b (k * 2) 35 2 (n + 1 - k) (c - k)) (.os vb 0 35 2 1) = some (1, h2) ∧ hget h2 b = some (.cells (insE es k x).flatten) ∧ ∀ d, d ≠ b → hget h2 d = hget h d := by
  have hfl := flat_len hs
  have htl : (es.take k).flatten.length = k * 2 := by rw [flat_len (fun z hz => hs z (List.mem_of_mem_take hz)), List.length_take, Nat.min_eq_left (by omega)]
  have htl1 : (es.take (k + 1)).flatten.length = (k + 1) * 2 := by rw [flat_len (fun z hz => hs z (List.mem_of_mem_take hz)), List.length_take, Nat.min_eq_left (by omega)]
  have hdl : (es.drop k).flatten.length = (n - k) * 2 := by rw [flat_len (fun z hz => hs z (List.mem_of_mem_drop hz)), List.length_drop, hn]
  have c1 := cp_oc (b := b) (off := (k + 1) * 2) (dl := n - k) (c := c - (k + 1)) (src_oc (off := k * 2) (m := n + 1 - k) (c := c - k) (most := n - k) (k := n - k) hb (by omega) (by rw [hfl, hn]; omega)) hb (by omega) (by rw [hfl, hn]; omega)
  have s1 : splice es.flatten ((k + 1) * 2) ((es.flatten.drop (k * 2)).take ((n - k) * 2)) = (es.take (k + 1)).flatten ++ (es.drop k).flatten := by
    have e6 : es.flatten.drop ((k + 1) * 2 + (es.drop k).flatten.length) = [] := List.drop_of_length_le (by rw [hfl, hn, hdl]; omega)
    rw [flat_drop hs, List.take_of_length_le (by omega), splice, flat_take hs, e6, List.append_nil]
  rw [s1] at c1
  generalize hC : (es.take (k + 1)).flatten ++ (es.drop k).flatten = C at c1
  have g1 : hget (hset h b (.cells C)) b = some (.cells C) := by rw [hget_hset, if_pos rfl]
  have g2 : hget (hset h b (.cells C)) vb = some (.cells x) := by rw [hget_hset, if_neg (fun e => hbv e.symm)]; exact hv
  have hCl : C.length = (k + 1) * 2 + (n - k) * 2 := by rw [← hC, List.length_append, htl1, hdl]
  have c2 := cp_oc (b := b) (off := k * 2) (dl := n + 1 - k) (c := c - k) (src_os hx g2 (by omega)) g1 (by omega) (by omega)
  refine ⟨_, _, c1, c2, ?_, fun d hd => by rw [hget_hset, if_neg (fun e => hd e.symm), hget_hset, if_neg (fun e => hd e.symm)]⟩
  rw [hget_hset, if_pos rfl, insE_flat, splice, hx, show k * 2 + 2 = (k + 1) * 2 by omega]
  have e1 : C.drop ((k + 1) * 2) = (es.drop k).flatten := by rw [← hC]; exact drop_pre _ _ htl1
  have e2 : C.take (k * 2) = (es.take k).flatten := by
    rw [← hC, List.take_append_of_le_length (by omega), flat_take (fun z hz => hs z (List.mem_of_mem_take hz)), List.take_take, Nat.min_eq_left (by omega)]
  rw [e1, e2]
theorem w17a (b k n vb : Nat) (es : List (List AV)) (x : List AV) (hs : ∀ z ∈ es, z.length = 2) (hn : es.length = n) (hk : k < n) (hl : n ≤ 5000) (hx : x.length = 2) (h : Heap) (nx : Nat) (hb : hget h b = some (.cells es.flatten)) (hv : hget h vb = some (.cells x)) (hbv : vb ≠ b) (hbn : b < nx) (hvn : vb < nx) :
    AC Tryz.prog 35 [.os b 0 35 2 n, .int .i64 (k : Int), .os vb 0 35 2 1] h nx fun y h' n' => ∃ b', y = .ret (.os b' 0 35 2 (n + 1)) ∧ nx ≤ n' ∧ b' < n' ∧ (b' = b ∨ nx ≤ b') ∧ hget h' b' = some (.cells (insE es k x).flatten) ∧ ∀ d, d < nx → d ≠ b → hget h' d = hget h d := by
  refine AC.oc [] _ (by simp [maxLen]; omega) fun c hc1 hc2 => AC.frz (AC.go mixed is17 (by simp) ?_)
  have hfl := flat_len hs
  have p0 : ∀ m : Nat, (0 ≤ (m : Int)) = True := fun m => eq_true (by omega)
  have p1 : (k ≤ n) = True := eq_true (by omega)
  have p2 : (n ≤ c) = True := eq_true (by omega)
  have p5 : (k ≤ c) = True := eq_true (by omega)
  have p3 : ((k : Int) = (n : Int)) = False := eq_false (by omega)
  have p4 : (((1 : Nat) : Int) = 0) = False := eq_false (by omega)
  have f1 : IntKind.i64.wrap ((n : Int) + ((1 : Nat) : Int)) = ((n + 1 : Nat) : Int) := by rw [w64 (by omega) (by omega)]; omega
  have f2 : IntKind.i64.wrap (((n + 1 : Nat) : Int) - (k : Int)) = ((n + 1 - k : Nat) : Int) := by rw [w64 (by omega) (by omega)]; omega
  have f3 : IntKind.i64.wrap ((k : Int) + ((1 : Nat) : Int)) = ((k + 1 : Nat) : Int) := by rw [w64 (by omega) (by omega)]; omega
  by_cases hr : n + 1 > c
  · have q1 : ((c : Int) < ((n + 1 : Nat) : Int)) = True := eq_true (by omega)
    obtain ⟨h1, h2, c1, c2, hg, hfr⟩ := ins_grow (c := c) (nx := nx) hs hn hk hx hb hv (by omega) (by omega)
    have q2 : (0 < ((n + 1 - k : Nat) : Int) ∧ (c : Int) < (k : Int) + ((n + 1 - k : Nat) : Int) ∧ k * 2 ≤ es.flatten.length ∧ (n + 1) * 16 ≤ 140737488355328 ∧ n + 1 ≤ maxLen) = True := eq_true (by rw [hfl, hn]; simp [maxLen]; omega)
    have q3 : k + (n + 1 - k) = n + 1 := by omega
    have q4 : (k ≤ n + 1) = True := eq_true (by omega)
    have q5 : (k + 1 ≤ n + 1) = True := eq_true (by omega)
    have q6 : n + 1 - (k + 1) = n - k := by omega
    simp -implicitDefEqProofs only [RR, RE, takeV, reduceEqDiff, ↓reduceIte, reduceCtorEq, reduceAdd, reduceLeDiff, reduceLT, Nat.reduceBEq, A17, lenA, p0, p1, p2, p3, p4, p5, f1, f2, f3, q1, q2, q3, q4, q5, q6, flat_take hs, bnd, slcA, Int.toNat_natCast, if_true, true_and, and_true, Nat.zero_le, Nat.zero_mul, Nat.zero_add, Nat.sub_zero, hb, c1, c2, R17]
    refine ⟨h2, _, Frz.refl _ _, nx, rfl, by omega, by omega, .inr (by omega), hg, fun d hd _ => hfr d (by omega)⟩
  · have q1 : ((c : Int) < ((n + 1 : Nat) : Int)) = False := eq_false (by omega)
    obtain ⟨h1, h2, c1, c2, hg, hfr⟩ := ins_room (c := c) hs hn hk hx hb hv hbv
    have q3 : (n + 1 ≤ c) = True := eq_true (by omega)
    have q4 : (k ≤ n + 1) = True := eq_true (by omega)
    have q5 : (k + 1 ≤ n + 1) = True := eq_true (by omega)
    have q6 : n + 1 - (k + 1) = n - k := by omega
    have q7 : (k + 1 ≤ n) = True := eq_true (by omega)
    have q8 : (k ≤ n + 1 ∧ n + 1 ≤ c) = True := eq_true (by omega)
    have ov : ovA h (.os vb 0 35 2 1) (.oc b ((k + 1) * 2) 35 2 (n - k) (c - (k + 1))) = true := by
      simp only [ovA, slBlk]
      rw [if_pos (by omega), if_pos (by omega)]
      simp [hb, hv, hbv]
    simp -implicitDefEqProofs only [RR, RE, takeV, reduceEqDiff, ↓reduceIte, reduceCtorEq, reduceAdd, reduceLeDiff, reduceLT, Nat.reduceBEq, A17, lenA, p0, p1, p2, p3, p4, p5, f1, f2, f3, q1, q3, q4, q5, q6, q7, bnd, slcA, Int.toNat_natCast, if_true, true_and, and_true, Nat.zero_le, Nat.zero_mul, Nat.zero_add, Nat.sub_zero, ov, unA, c1, c2, R17]
    exact ⟨h2, _, Frz.oc, b, rfl, hbn, .inl rfl, hg, fun d _ hd => hfr d hd⟩
end Go.Proofs.YtdmjloieldhlnaaGreatDoor
namespace Go.Proofs.YtdmjloieldhlnaaGreatDoor
open Go Go.Ab Go.Proofs
open Nat (reduceEqDiff reduceAdd reduceLeDiff reduceLT)
set_option linter.unusedVariables false
set_option linter.unusedSimpArgs false
set_option maxRecDepth 20000
theorem own_slc {h : Heap} {nx n : Nat} {s : AV} {es : List (List AV)} (ho : OwnSl 35 2 h nx s es) (hn : es.length = n) : ∃ r, slcA 2 s n n none = some r := by
  rcases ho with ⟨rfl, rfl⟩ | ⟨b, rfl, _, _⟩
  · simp at hn; subst hn; exact ⟨.nilS, by simp [slcA]⟩
  · subst hn; exact ⟨.os b (0 + es.length * 2) 35 2 (es.length - es.length), by simp only [slcA]; rw [if_pos ⟨Nat.le_refl _, Nat.le_refl _, trivial⟩]⟩
theorem w17b (s : AV) (n vb : Nat) (es : List (List AV)) (x : List AV) (hs : ∀ z ∈ es, z.length = 2) (hn : es.length = n) (hl : n ≤ 5000) (hx : x.length = 2) (h : Heap) (nx : Nat) (ho : OwnSl 35 2 h nx s es) (hv : hget h vb = some (.cells x)) :
    AC Tryz.prog 35 [s, .int .i64 (n : Int), .os vb 0 35 2 1] h nx fun y h' n' => ∃ v', y = .ret v' ∧ Grw 35 2 h nx s h' n' v' (es ++ [x]) := by
  refine AC.go mixed is17 (by simp) ?_
  obtain ⟨v', h', n', ea, gr⟩ := ho.grw (bytes := 16) (ns := [x]) hs (by intro z hz; simp at hz; subst hz; exact hx) (by simp; omega) (by simp [maxLen]; omega)
  have hsc : sliceCells h (.os vb 0 35 2 1) = some (1, x) := by
    simp only [sliceCells, hv]
    rw [if_pos (by omega)]
    simp [List.take_of_length_le, hx]
  have ea' : appA 35 2 16 h nx s (.os vb 0 35 2 1) = some (v', h', n') := by
    rw [← ea]
    have e1 : sliceCells h (.lst 2 [x]) = some (1, x) := by simp [sliceCells]
    simp only [appA, hsc, e1]
    rfl
  obtain ⟨r, hr⟩ := own_slc ho hn
  have hln : lenA s = some n := by rw [ho.len, hn]
  have hlv : lenA (.os vb 0 35 2 1) = some 1 := rfl
  have p0 : ∀ m : Nat, (0 ≤ (m : Int)) = True := fun m => eq_true (by omega)
  have p4 : (((1 : Nat) : Int) = 0) = False := eq_false (by omega)
  simp -implicitDefEqProofs only [RR, RE, takeV, reduceEqDiff, ↓reduceIte, reduceCtorEq, reduceAdd, reduceLeDiff, reduceLT, Nat.reduceBEq, A17, hln, hlv, hr, p0, p4, bnd, Int.toNat_natCast, if_true, ea', R17]
  exact ⟨_, rfl, gr⟩
theorem w17 (s : AV) (k n vb : Nat) (es : List (List AV)) (x : List AV) (hs : ∀ z ∈ es, z.length = 2) (hn : es.length = n) (hk : k ≤ n) (hl : n ≤ 5000) (hx : x.length = 2) (h : Heap) (nx : Nat) (ho : OwnSl 35 2 h nx s es) (hv : hget h vb = some (.cells x)) (hbv : blkOf s ≠ some vb) (hvn : vb < nx) :
    AC Tryz.prog 35 [s, .int .i64 (k : Int), .os vb 0 35 2 1] h nx fun y h' n' => ∃ v', y = .ret v' ∧ Grw 35 2 h nx s h' n' v' (insE es k x) := by
  by_cases hkn : k = n
  · subst hkn
    have e : insE es k x = es ++ [x] := by rw [insE, List.take_of_length_le (by omega), List.drop_of_length_le (by omega)]
    rw [e]
    exact w17b s k vb es x hs hn hl hx h nx ho hv
  · rcases ho with ⟨_, rfl⟩ | ⟨b, rfl, hb, hbn⟩
    · simp at hn; omega
    · rw [hn]
      refine (w17a b k n vb es x hs hn (by omega) hl hx h nx hb hv (fun e => hbv (by rw [e]; rfl)) hbn hvn).mono ?_
      rintro y h' n' ⟨b', rfl, hle, hlt, hor, hg, hfr⟩
      refine ⟨_, rfl, .inr ⟨b', ?_, hg, hlt⟩, hle, fun c o hc ho hb' => by rw [hfr c hc (fun e => hb' (by rw [e]; rfl))]; exact ho, fun c hc => ?_⟩
      · have : (insE es k x).length = n + 1 := by simp [insE]; omega
        rw [this]
      · simp only [blkOf, Option.some.injEq] at hc
        subst hc
        rcases hor with h | h
        · exact .inr (by rw [h]; rfl)
        · exact .inl h
end Go.Proofs.YtdmjloieldhlnaaGreatDoor
namespace Go.Proofs.YtdmjloieldhlnaaGreatDoor
open Go Go.Ab Go.Proofs
open Nat (reduceEqDiff reduceAdd reduceLeDiff reduceLT)
set_option linter.unusedVariables false
set_option linter.unusedSimpArgs false
set_option maxRecDepth 20000
def cellE (r : Int × Int) : List AV := [.int .u64 r.1, .int .u8 r.2]
def cellsA (l : List (Int × Int)) : AV := .lst 2 (l.map cellE)
theorem cells_len (l : List (Int × Int)) : lenA (cellsA l) = some l.length := by simp [cellsA, len_map]
theorem cells_idx {l : List (Int × Int)} {n : Nat} {r : Int × Int} (h : l[n]? = some r) : idxA 2 (cellsA l) (n : Int) = some (.fp (cellE r)) := idxA_map h
theorem cellE_len (l : List (Int × Int)) : ∀ z ∈ l.map cellE, z.length = 2 := fun z hz => by
  obtain ⟨r, _, rfl⟩ := List.mem_map.1 hz; rfl
def RdC (h : Heap) (x : AV) (l : List (Int × Int)) : Prop := x = cellsA l ∨ ∃ e nx, OwnSl e 2 h nx x (l.map cellE)
theorem RdC.len {h : Heap} {x : AV} {l : List (Int × Int)} (hr : RdC h x l) : lenA x = some l.length := by
  rcases hr with rfl | ⟨e, nx, ho⟩
  · exact cells_len l
  · rw [ho.len, List.length_map]
theorem RdC.row {h : Heap} {x : AV} {l : List (Int × Int)} (hr : RdC h x l) {i : Nat} {r : Int × Int} (hi : l[i]? = some r) : ∃ p, idxA 2 x (i : Int) = some p ∧ reload h 2 true p = some (.agg (cellE r)) := by
  rcases hr with rfl | ⟨e, nx, ho⟩
  · exact ⟨_, cells_idx hi, by simp [reload, ptrCells, takeV, cellE]⟩
  · have hat : (l.map cellE)[i]? = some (cellE r) := by rw [List.getElem?_map, hi]; rfl
    obtain ⟨b, o, cs, h1, h2, h3⟩ := ho.row (cellE_len l) hat
    refine ⟨_, h1, ?_⟩
    have hl : 2 ≤ cs.length := by
      have := congrArg List.length h3
      rw [List.length_take] at this
      simp [cellE] at this; omega
    simp [reload, h2, takeV, hl, h3]
theorem dLK2_some {P : Program} {own : Nat → Nat → Bool} {ro : Option Nat} {N : Nat} {F : List Fr} {Q : AX → ASt → Prop} (d : DStep) (r : List DStep) (pd : Pend) (st : ASt) (sz : Nat) (ag : Bool) (p x : AV) :
    dLK2 P own ro N F Q d r pd st sz ag p (some x) = dg P own ro N F Q r (if p.isFp = true then pd else (d.i, sz, ag, p, x) :: pd) { st with env := setE d.s.dst x st.env } := rfl
theorem w7 (x y : AV) (a b : List (Int × Int)) (h : Heap) (nx : Nat) (hx : RdC h x a) (hy : RdC h y b) (hla : a.length ≤ 9000) (hlb : b.length ≤ 9000) :
    AC Tryz.prog 18 [x, y] h nx fun z h' n' => z = .ret (.bool (decide (a = b))) ∧ h' = h ∧ nx ≤ n' := by
  refine AC.go mixed is7 (by simp) ?_
  have hlx := hx.len
  have hly := hy.len
  by_cases hl : (a.length : Int) = (b.length : Int)
  case neg =>
    have hne : ¬ a = b := fun e => hl (by rw [e])
    simp -implicitDefEqProofs only [RA, takeV, reduceEqDiff, ↓reduceIte, reduceCtorEq, reduceAdd, reduceLeDiff, reduceLT, Nat.reduceBEq, A7, hlx, hly, hl, hne, R7]
  simp -implicitDefEqProofs only [RA, takeV, reduceEqDiff, ↓reduceIte, reduceCtorEq, reduceAdd, reduceLeDiff, reduceLT, Nat.reduceBEq, A7, hlx, hly, hl]
  refine go_rounds (fun q st => ∃ i : Nat, q = a.length - i ∧ i ≤ a.length ∧ (∀ j, j < i → a[j]? = b[j]?) ∧ eget st.env 0 = some x ∧ eget st.env 1 = some y ∧ eget st.env 5 = some (.int .i64 i) ∧ st.dm = [] ∧ st.heap = h ∧ nx ≤ st.nx) (n := a.length) mixed
    ⟨0, rfl, by omega, fun j hj => by omega, by simp [eget], by simp [eget], by simp [eget], rfl, rfl, Nat.le_refl _⟩ ?_
  rintro q ⟨env, heap, nx', dm⟩ ⟨i, rfl, hi, he, h0, h1, h5, hdm, hh, hnx⟩
  simp only at h0 h1 h5 hdm hh hnx
  subst hdm; subst hh
  by_cases hc : (i : Int) < (a.length : Int)
  case neg =>
    have heq : a = b := by
      apply List.ext_getElem?
      intro j
      rcases Nat.lt_or_ge j a.length with h | h
      · exact he j (by omega)
      · rw [List.getElem?_eq_none h, List.getElem?_eq_none (by omega)]
    simp -implicitDefEqProofs only [RA, takeV, reduceEqDiff, ↓reduceIte, reduceCtorEq, reduceAdd, reduceLeDiff, reduceLT, Nat.reduceBEq, A7l0, h0, h5, hlx, hc, eq_true heq, R7]
    exact hnx
  have hra := List.getElem?_eq_getElem (show i < a.length by omega)
  have hrb := List.getElem?_eq_getElem (show i < b.length by omega)
  generalize a[i] = ra at hra
  generalize b[i] = rb at hrb
  obtain ⟨p, hp1, hp2⟩ := hx.row hra
  obtain ⟨p', hp1', hp2'⟩ := hy.row hrb
  have f1 : IntKind.i64.wrap ((i : Int) + 1) = ((i + 1 : Nat) : Int) := by rw [w64 (by omega) (by omega)]; omega
  by_cases hab : ra = rb
  · have heq : eqL [.int, .int] (cellE ra) (cellE rb) = some true := by subst hab; simp [eqL, eqC, cellE]
    simp -implicitDefEqProofs only [RR, RE, RG, takeV, reduceEqDiff, ↓reduceIte, reduceCtorEq, reduceAdd, reduceLeDiff, reduceLT, Nat.reduceBEq, A7l0, h0, h1, h5, hlx, hc, hp1, hp1', hp2, hp2', dLK2_some, heq, f1]
    refine ⟨a.length - (i + 1), by omega, i + 1, rfl, by omega, fun j hj => ?_, rfl, hnx⟩
    rcases Nat.lt_or_ge j i with h | h
    · exact he j h
    · obtain rfl : j = i := by omega
      rw [hra, hrb, hab]
  · have heq : eqL [.int, .int] (cellE ra) (cellE rb) = some false := by
      have : ¬ (ra.1 = rb.1 ∧ ra.2 = rb.2) := fun h => hab (Prod.ext h.1 h.2)
      simp only [eqL, eqC, cellE]
      by_cases h1 : ra.1 = rb.1 <;> by_cases h2 : ra.2 = rb.2 <;> simp [h1, h2] at this ⊢
    have hne : ¬ a = b := fun e => by rw [e, hrb] at hra; injection hra with hra; exact hab hra.symm
    simp -implicitDefEqProofs only [RR, RE, RG, takeV, reduceEqDiff, ↓reduceIte, reduceCtorEq, reduceAdd, reduceLeDiff, reduceLT, Nat.reduceBEq, A7l0, h0, h1, h5, hlx, hc, hp1, hp1', hp2, hp2', dLK2_some, heq, hne, R7]
    exact hnx
theorem w13 (l : List (Int × Int)) (hl : l.length ≤ 4200) (nx : Nat) : AC Tryz.prog 31 [cellsA l] [] nx fun y h' n' => ∃ v, y = .ret v ∧ OwnSl 35 2 h' n' v (l.map cellE) := by
  have hm : (l.map cellE).length ≤ 4200 := by simpa using hl
  have ow0 : ∀ n, OwnSl 35 2 [(n, AO.cells [])] (n + 1) (.os n 0 35 2 0) [] := fun n => .inr ⟨n, rfl, by simp [hget], by omega⟩
  cases l with
  | nil =>
    refine AC.split0 (sz := 2) [] [] ?_ ?_
    · refine AC.go mixed is13 (by simp) ?_
      simp -implicitDefEqProofs only [RA, takeV, reduceEqDiff, ↓reduceIte, reduceCtorEq, reduceAdd, reduceLeDiff, reduceLT, Nat.reduceBEq, A13, nilA, Bool.false_eq_true, R13]
      exact ⟨_, rfl, .inl ⟨rfl, rfl⟩⟩
    · refine AC.go mixed is13 (by simp) ?_
      have ea : ∀ n, appA 35 2 16 [(n, AO.cells [])] (n + 1) (.os n 0 35 2 0) .ne0 = some (.os n 0 35 2 0, [(n, AO.cells [])], n + 1) := by
        intro n; simp [appA, sliceCells, slSz, hget, maxLen]
      simp -implicitDefEqProofs only [RA, takeV, reduceEqDiff, ↓reduceIte, reduceCtorEq, reduceAdd, reduceLeDiff, reduceLT, Nat.reduceBEq, A13, nilA, Bool.false_eq_true, List.flatten_nil, ea, R13]
      exact ⟨_, rfl, ow0 nx⟩
  | cons r l =>
    refine AC.go mixed is13 (by simp) ?_
    obtain ⟨v, h', n', ea, ow, hle, _⟩ := (ow0 nx).app (bytes := 16) (ns := (r :: l).map cellE) (fun z hz => by simp at hz) (cellE_len _) (by simp at hm ⊢; omega) (by simp [maxLen] at hm ⊢; omega)
    have ea2 : appA 35 2 16 [(nx, AO.cells [])] (nx + 1) (.os nx 0 35 2 0) (.lst 2 (cellE r :: List.map cellE l)) = some (v, h', n') := ea
    simp -implicitDefEqProofs only [RA, takeV, reduceEqDiff, ↓reduceIte, reduceCtorEq, reduceAdd, reduceLeDiff, reduceLT, Nat.reduceBEq, A13, cellsA, nilA, Bool.false_eq_true, List.map_cons, List.flatten_nil, ea2, R13]
    exact ⟨_, rfl, by simpa using ow⟩
def cmpC (r : Int × Int) (d : Int) : Int := if r.1 < d then -1 else if d < r.1 then 1 else 0
theorem w15 (r : Int × Int) (d : Int) : Pure Tryz.prog 33 [.agg (cellE r), .int .u64 d] (.int .i64 (cmpC r d)) := by
  refine Pure.of fun nx => AC.go mixed is15 (by simp) ?_
  by_cases c1 : r.1 < d
  · simp -implicitDefEqProofs only [RA, takeV, reduceEqDiff, ↓reduceIte, reduceCtorEq, reduceAdd, reduceLeDiff, reduceLT, Nat.reduceBEq, A15, cellE, c1, cmpC, R15]
  by_cases c2 : d < r.1
  · simp -implicitDefEqProofs only [RA, takeV, reduceEqDiff, ↓reduceIte, reduceCtorEq, reduceAdd, reduceLeDiff, reduceLT, Nat.reduceBEq, A15, cellE, c1, c2, cmpC, R15]
  · simp -implicitDefEqProofs only [RA, takeV, reduceEqDiff, ↓reduceIte, reduceCtorEq, reduceAdd, reduceLeDiff, reduceLT, Nat.reduceBEq, A15, cellE, c1, c2, cmpC, R15]
end Go.Proofs.YtdmjloieldhlnaaGreatDoor
namespace Go.Proofs.YtdmjloieldhlnaaGreatDoor
open Go Go.Ab Go.Proofs
open Nat (reduceEqDiff reduceAdd reduceLeDiff reduceLT)
set_option linter.unusedVariables false
set_option linter.unusedSimpArgs false
set_option maxRecDepth 20000
theorem RdC.row2 {h : Heap} {x : AV} {l : List (Int × Int)} (hr : RdC h x l) {i : Nat} {r : Int × Int} (hi : l[i]? = some r) : ∃ p cs, idxA 2 x (i : Int) = some p ∧ ptrCells h p = some cs ∧ (2 ≤ cs.length) = True ∧ cs.take 2 = cellE r := by
  obtain ⟨p, h1, h2⟩ := hr.row hi
  unfold reload at h2
  split at h2
  · rename_i cs hp
    simp only [takeV, if_true] at h2
    split at h2
    · rename_i hle
      simp at h2
      exact ⟨p, cs, h1, hp, eq_true hle, h2⟩
    · cases h2
  · cases h2
def Srt (l : List (Int × Int)) : Prop := ∀ (i j : Nat) (p r : Int × Int), i < j → l[i]? = some p → l[j]? = some r → p.1 < r.1
structure At (l : List (Int × Int)) (d : Int) (k : Nat) : Prop where
  le : k ≤ l.length
  lo : ∀ (j : Nat) (r : Int × Int), j < k → l[j]? = some r → r.1 < d
  hi : ∀ (j : Nat) (r : Int × Int), k ≤ j → l[j]? = some r → d ≤ r.1
def Hit (l : List (Int × Int)) (d : Int) (k : Nat) : Prop := ∃ r, l[k]? = some r ∧ r.1 = d
def hitB (l : List (Int × Int)) (d : Int) (k : Nat) : Bool := match l[k]? with
  | some r => decide (r.1 = d)
  | none => false
theorem hitB_iff {l : List (Int × Int)} {d : Int} {k : Nat} : hitB l d k = true ↔ Hit l d k := by
  unfold hitB Hit
  cases h : l[k]? with
  | none => simp
  | some r => simp
theorem hitB_f {l : List (Int × Int)} {d : Int} {k : Nat} (h : ¬ Hit l d k) : hitB l d k = false := by
  cases e : hitB l d k with
  | false => rfl
  | true => exact absurd (hitB_iff.1 e) h
theorem w14 (x : AV) (l : List (Int × Int)) (d : Int) (hl : l.length ≤ 5000) (hs : Srt l) (h : Heap) (nx : Nat) (hx : RdC h x l) : AC Tryz.prog 32 [x, .int .u64 d, .fn (.func 33) []] h nx fun y h' n' => ∃ k, At l d k ∧ y = .ret (.tup [.int .i64 (k : Nat), .bool (hitB l d k)]) ∧ h' = h ∧ nx ≤ n' := by
  refine AC.go mixed is14 (by simp) ?_
  have hlx := hx.len
  simp -implicitDefEqProofs only [RA, takeV, reduceEqDiff, ↓reduceIte, reduceCtorEq, reduceAdd, reduceLeDiff, reduceLT, Nat.reduceBEq, A14, hlx]
  refine go_rounds (fun q st => ∃ lo hi : Nat, q = hi - lo ∧ lo ≤ hi ∧ hi ≤ l.length ∧ (∀ (j : Nat) (r : Int × Int), j < lo → l[j]? = some r → r.1 < d) ∧ (∀ (j : Nat) (r : Int × Int), hi ≤ j → l[j]? = some r → d ≤ r.1) ∧
      eget st.env 0 = some x ∧ eget st.env 1 = some (.int .u64 d) ∧ eget st.env 2 = some (.fn (.func 33) []) ∧ eget st.env 8 = some (.int .i64 l.length) ∧ eget st.env 9 = some (.int .i64 lo) ∧ eget st.env 10 = some (.int .i64 hi) ∧ st.dm = [] ∧ st.heap = h ∧ nx ≤ st.nx) (n := l.length) mixed
    ⟨0, l.length, by omega, by omega, by omega, fun j r hj => by omega, fun j r hj hr => by have := (List.getElem?_eq_some_iff.1 hr).1; omega, by simp [eget], by simp [eget], by simp [eget], by simp [eget], by simp [eget], by simp [eget], rfl, rfl, Nat.le_refl _⟩ ?_
  rintro q ⟨env, heap, nx', dm⟩ ⟨lo, hi, rfl, hlh, hhl, hlo, hhi, g0, g1, g2, g8, g9, g10, hdm, hh, hnx⟩
  simp only at g0 g1 g2 g8 g9 g10 hdm hh hnx
  subst hdm; subst hh
  by_cases hc : (lo : Int) < (hi : Int)
  case neg =>
    obtain rfl : lo = hi := by omega
    by_cases hlt : (lo : Int) < (l.length : Int)
    · obtain ⟨r, hr⟩ : ∃ r, l[lo]? = some r := ⟨l[lo]'(by omega), List.getElem?_eq_getElem (by omega)⟩
      obtain ⟨p, cs, hp1, hp2, hp3, hp4⟩ := hx.row2 hr
      simp -implicitDefEqProofs only [RR, RE, RG, takeV, reduceEqDiff, ↓reduceIte, reduceCtorEq, reduceAdd, reduceLeDiff, reduceLT, Nat.reduceBEq, A14l0, g0, g1, g2, g8, g9, g10, hc, hlt, hp1, hp2, hp3, hp4]
      refine (w15 r d).use fun n1 hn1 => ?_
      have hh : hitB l d lo = decide (cmpC r d = 0) := by
        unfold hitB cmpC
        rw [hr]
        simp only
        by_cases c1 : r.1 < d
        · rw [if_pos c1]; rw [decide_eq_false (show ¬ r.1 = d by omega)]; rfl
        · by_cases c2 : d < r.1
          · rw [if_neg c1, if_pos c2]; rw [decide_eq_false (show ¬ r.1 = d by omega)]; rfl
          · rw [if_neg c1, if_neg c2]; rw [decide_eq_true (show r.1 = d by omega)]; rfl
      simp -implicitDefEqProofs only [RA, takeV, reduceEqDiff, ↓reduceIte, reduceCtorEq, reduceAdd, reduceLeDiff, reduceLT, Nat.reduceBEq, R14]
      exact ⟨lo, ⟨by omega, hlo, hhi⟩, by rw [hh], by omega⟩
    · simp -implicitDefEqProofs only [RA, takeV, reduceEqDiff, ↓reduceIte, reduceCtorEq, reduceAdd, reduceLeDiff, reduceLT, Nat.reduceBEq, A14l0, g0, g1, g2, g8, g9, g10, hc, hlt, R14]
      refine ⟨lo, ⟨by omega, hlo, hhi⟩, ?_, hnx⟩
      have : hitB l d lo = false := hitB_f (by
        rintro ⟨r, hr, _⟩
        have := (List.getElem?_eq_some_iff.1 hr).1; omega)
      rw [this]
  have hm : (lo + hi) / 2 < l.length := by omega
  obtain ⟨r, hr⟩ : ∃ r, l[(lo + hi) / 2]? = some r := ⟨l[(lo + hi) / 2], by simp [hm]⟩
  obtain ⟨p, cs, hp1, hp2, hp3, hp4⟩ := hx.row2 hr
  have s0 : IntKind.i64.wrap ((lo : Int) + (hi : Int)) = ((lo + hi : Nat) : Int) := by rw [w64 (by omega) (by omega)]; omega
  have s1 : IntKind.u64.wrap ((lo + hi : Nat) : Int) = ((lo + hi : Nat) : Int) := wu64 (by omega) (by omega)
  have s2 : ((lo + hi : Nat) : Int).fdiv 2 = (((lo + hi) / 2 : Nat) : Int) := by rw [Int.fdiv_eq_ediv_of_nonneg _ (by omega)]; omega
  have s3 : IntKind.i64.wrap (((lo + hi) / 2 : Nat) : Int) = (((lo + hi) / 2 : Nat) : Int) := w64 (by omega) (by omega)
  have s4 : IntKind.i64.wrap ((((lo + hi) / 2 : Nat) : Int) + 1) = (((lo + hi) / 2 + 1 : Nat) : Int) := by rw [w64 (by omega) (by omega)]; omega
  have s5 : (2 : Int) ^ (min (Int.toNat 1) 64) = 2 := rfl
  simp -implicitDefEqProofs only [RR, RE, RG, takeV, reduceEqDiff, ↓reduceIte, reduceCtorEq, reduceAdd, reduceLeDiff, reduceLT, Nat.reduceBEq, A14l0, g0, g1, g2, g8, g9, g10, hc, s0, s1, b_shr _ _ _ _ (show (0 : Int) ≤ 1 by decide), IntKind.bits, s5, s2, s3, hp1, hp2, hp3, hp4]
  refine (w15 r d).use fun n1 hn1 => ?_
  by_cases c1 : r.1 < d
  · have e1 : (cmpC r d < 0) = True := eq_true (by unfold cmpC; rw [if_pos c1]; decide)
    simp -implicitDefEqProofs only [RA, takeV, reduceEqDiff, ↓reduceIte, reduceCtorEq, reduceAdd, reduceLeDiff, reduceLT, Nat.reduceBEq, e1, g0, g1, g2, g8, g9, g10, s4]
    refine ⟨hi - ((lo + hi) / 2 + 1), by omega, (lo + hi) / 2 + 1, hi, rfl, by omega, by omega, fun j p' hj hp' => ?_, hhi, ?_⟩
    · by_cases e : j = (lo + hi) / 2
      · subst e; rw [hr] at hp'; cases hp'; exact c1
      · have := hs j ((lo + hi) / 2) p' r (by omega) hp' hr; omega
    · repeat' apply And.intro
      all_goals first | assumption | rfl | omega | (simp [eget, *]; done)
  · have e1 : (cmpC r d < 0) = False := eq_false (by unfold cmpC; rw [if_neg c1]; split <;> decide)
    simp -implicitDefEqProofs only [RA, takeV, reduceEqDiff, ↓reduceIte, reduceCtorEq, reduceAdd, reduceLeDiff, reduceLT, Nat.reduceBEq, e1, g0, g1, g2, g8, g9, g10, s4]
    refine ⟨(lo + hi) / 2 - lo, by omega, lo, (lo + hi) / 2, rfl, by omega, by omega, hlo, fun j p' hj hp' => ?_, ?_⟩
    · by_cases e : j = (lo + hi) / 2
      · subst e; rw [hr] at hp'; cases hp'; omega
      · have := hs ((lo + hi) / 2) j r p' (by omega) hr hp'; omega
    · repeat' apply And.intro
      all_goals first | assumption | rfl | omega | (simp [eget, *]; done)
end Go.Proofs.YtdmjloieldhlnaaGreatDoor
namespace Go.Proofs.YtdmjloieldhlnaaGreatDoor
open Go Go.Ab Go.Proofs
open Nat (reduceEqDiff reduceAdd reduceLeDiff reduceLT)
set_option linter.unusedVariables false
set_option linter.unusedSimpArgs false
set_option maxRecDepth 20000
end Go.Proofs.YtdmjloieldhlnaaGreatDoor
namespace Go.Proofs.YtdmjloieldhlnaaGreatDoor
open Go Go.Ab Go.Proofs
open Nat (reduceEqDiff reduceAdd reduceLeDiff reduceLT)
set_option linter.unusedVariables false
set_option linter.unusedSimpArgs false
set_option maxRecDepth 20000
theorem dec_cases (p : Prop) [Decidable p] : (p ∧ p = True) ∨ (¬ p ∧ p = False) := by
  by_cases h : p
  · exact .inl ⟨h, eq_true h⟩
  · exact .inr ⟨h, eq_false h⟩
end Go.Proofs.YtdmjloieldhlnaaGreatDoor
namespace Go.Proofs.YtdmjloieldhlnaaGreatDoor
open Go Go.Ab Go.Proofs
open Nat (reduceEqDiff reduceAdd reduceLeDiff reduceLT)
set_option linter.unusedVariables false
set_option linter.unusedSimpArgs false
set_option maxRecDepth 20000
theorem w11 (x w : Nat) (h1 : 1 ≤ w) (h2 : w ≤ 64) : Pure Tryz.prog 29 [.int .u64 x, .int .i64 w] (.bool (decide (x < 2 ^ w))) := by
  refine Pure.of fun nx => AC.go mixed is11 (by simp) ?_
  have s1 : IntKind.i64.wrap ((w : Int) - 1) = ((w - 1 : Nat) : Int) := by rw [w64 (by omega) (by omega)]; omega
  have s5 : (2 : Int) ^ (min (Int.toNat 1) 64) = 2 := rfl
  have s6 : (x : Int).fdiv 2 = ((x / 2 : Nat) : Int) := by rw [Int.fdiv_eq_ediv_of_nonneg _ (by omega)]; omega
  have s7 : (2 : Int) ^ (min (((w - 1 : Nat) : Int).toNat) 64) = ((2 ^ (w - 1) : Nat) : Int) := by
    rw [Int.toNat_natCast, Nat.min_eq_left (by omega)]; simp
  have s8 : ((x / 2 : Nat) : Int).fdiv ((2 ^ (w - 1) : Nat) : Int) = ((x / 2 / 2 ^ (w - 1) : Nat) : Int) := by
    rw [Int.fdiv_eq_ediv_of_nonneg _ (Int.natCast_nonneg _)]; rfl
  have s9 : x / 2 / 2 ^ (w - 1) = x / 2 ^ w := by
    rw [Nat.div_div_eq_div_mul]
    congr 1
    obtain ⟨v, rfl⟩ : ∃ v, w = v + 1 := ⟨w - 1, by omega⟩
    rw [Nat.pow_succ]; simp [Nat.mul_comm]
  have s10 : (((x / 2 ^ w : Nat) : Int) = 0) = (x < 2 ^ w) := by
    apply propext
    have hp : 0 < 2 ^ w := Nat.pow_pos (by omega)
    constructor
    · intro h
      have h' : x / 2 ^ w = 0 := by omega
      rcases Nat.div_eq_zero_iff.1 h' with h | h
      · omega
      · exact h
    · intro h
      rw [Nat.div_eq_of_lt h]; rfl
  rw [s9] at s8
  generalize ((2 ^ (w - 1) : Nat) : Int) = Y at s7 s8
  simp -implicitDefEqProofs only [RA, takeV, reduceEqDiff, ↓reduceIte, reduceCtorEq, reduceAdd, reduceLeDiff, reduceLT, Nat.reduceBEq, A11, s1, b_shr _ _ _ _ (show (0 : Int) ≤ 1 by decide), b_shr _ _ _ _ (Int.natCast_nonneg (w - 1)), IntKind.bits, s5, s6, s7, s8, R11]
  rw [show decide (((x / 2 ^ w : Nat) : Int) = 0) = decide (x < 2 ^ w) from by rw [decide_eq_decide, s10]]
def intsA (l : List Int) : AV := .lst 1 (l.map fun x => [.int .i64 x])
theorem ints_len (l : List Int) : lenA (intsA l) = some l.length := by simp [intsA, len_map]
theorem ints_idx {l : List Int} {n : Nat} {x : Int} (h : l[n]? = some x) : idxA 1 (intsA l) (n : Int) = some (.fp [.int .i64 x]) := idxA_map (f := fun x => [.int .i64 x]) h
theorem w25 (l : List Int) (v : Int) (hl : l.length ≤ 100) (h : Heap) (nx : Nat) : AC Tryz.prog 56 [intsA l, .int .i64 v] h nx fun y h' n' => (∃ r, y = .ret r ∧ ∃ k, r = .int .i64 k ∧ (0 ≤ k ↔ v ∈ l)) ∧ h' = h ∧ nx ≤ n' := by
  refine AC.pure (AC.go mixed is25 (by simp) ?_) h
  have hlx := ints_len l
  simp -implicitDefEqProofs only [RA, takeV, reduceEqDiff, ↓reduceIte, reduceCtorEq, reduceAdd, reduceLeDiff, reduceLT, Nat.reduceBEq, A25, hlx]
  refine go_rounds (fun q st => ∃ i : Nat, q = l.length - i ∧ i ≤ l.length ∧ (∀ j, j < i → l[j]? ≠ some v) ∧ eget st.env 0 = some (intsA l) ∧ eget st.env 1 = some (.int .i64 v) ∧ eget st.env 7 = some (.int .i64 l.length) ∧ eget st.env 8 = some (.int .i64 i) ∧ st.dm = []) (n := l.length) mixed
    ⟨0, rfl, by omega, fun j hj => by omega, by simp [eget], by simp [eget], by simp [eget], by simp [eget], rfl⟩ ?_
  rintro q ⟨env, heap, nx', dm⟩ ⟨i, rfl, hi, hj, h0, h1, h7, h8, hdm⟩
  simp only at h0 h1 h7 h8 hdm
  subst hdm
  by_cases hc : (i : Int) < (l.length : Int)
  case neg =>
    simp -implicitDefEqProofs only [RA, takeV, reduceEqDiff, ↓reduceIte, reduceCtorEq, reduceAdd, reduceLeDiff, reduceLT, Nat.reduceBEq, A25l0, h0, h1, h7, h8, hc, R25]
    refine ⟨_, rfl, -1, rfl, fun h => by omega, fun hm => ?_⟩
    obtain ⟨j, hj'⟩ := List.getElem?_of_mem hm
    exact absurd hj' (hj j (by have := (List.getElem?_eq_some_iff.1 hj').1; omega))
  obtain ⟨r, hr⟩ : ∃ r, l[i]? = some r := ⟨l[i]'(by omega), List.getElem?_eq_getElem (by omega)⟩
  have hix := ints_idx hr
  have f1 : IntKind.i64.wrap ((i : Int) + 1) = ((i + 1 : Nat) : Int) := by rw [w64 (by omega) (by omega)]; omega
  rcases dec_cases (v = r) with ⟨c1, e1⟩ | ⟨c1, e1⟩
  · simp -implicitDefEqProofs only [RA, takeV, reduceEqDiff, ↓reduceIte, reduceCtorEq, reduceAdd, reduceLeDiff, reduceLT, Nat.reduceBEq, A25l0, h0, h1, h7, h8, hc, hix, e1, R25]
    exact ⟨_, rfl, i, rfl, fun _ => by rw [c1]; exact List.mem_of_getElem? hr, fun _ => by omega⟩
  · simp -implicitDefEqProofs only [RA, takeV, reduceEqDiff, ↓reduceIte, reduceCtorEq, reduceAdd, reduceLeDiff, reduceLT, Nat.reduceBEq, A25l0, h0, h1, h7, h8, hc, hix, e1, f1]
    refine ⟨l.length - (i + 1), by omega, i + 1, rfl, by omega, fun j hji => ?_, ?_⟩
    · by_cases e : j = i
      · subst e; rw [hr]; intro hh; injection hh with hh; exact c1 hh.symm
      · exact hj j (by omega)
    · repeat' apply And.intro
      all_goals first | assumption | rfl | omega | (simp [eget, *]; done)
theorem w12 (l : List Int) (v : Int) (hl : l.length ≤ 100) : Pure Tryz.prog 30 [intsA l, .int .i64 v] (.bool (decide (v ∈ l))) := by
  refine Pure.of fun nx => AC.go mixed is12 (by simp) ?_
  simp -implicitDefEqProofs only [RA, takeV, reduceEqDiff, ↓reduceIte, reduceCtorEq, reduceAdd, reduceLeDiff, reduceLT, Nat.reduceBEq, A12]
  refine (w25 l v hl _ _).mono ?_
  rintro y hh n1 ⟨⟨r, rfl, k, rfl, hk⟩, rfl, hn1⟩
  simp -implicitDefEqProofs only [RA, takeV, reduceEqDiff, ↓reduceIte, reduceCtorEq, reduceAdd, reduceLeDiff, reduceLT, Nat.reduceBEq, R12]
  rw [show decide (0 ≤ k) = decide (v ∈ l) from by rw [decide_eq_decide]; exact hk]
end Go.Proofs.YtdmjloieldhlnaaGreatDoor
namespace Go.Proofs.YtdmjloieldhlnaaGreatDoor
open Go Go.Ab Go.Proofs
open Nat (reduceEqDiff reduceAdd reduceLeDiff reduceLT)
set_option linter.unusedVariables false
set_option linter.unusedSimpArgs false
set_option maxRecDepth 20000
def goodM (l : List (Int × Int)) (n : Nat) : Prop := ∀ i, i < n → ∀ r, l[i]? = some r → r.2 ≠ 0 ∧ (0 < i → ∀ p, l[i - 1]? = some p → p.1 < r.1)
open Classical in
noncomputable def chkM (l : List (Int × Int)) : Int := if l.length ≤ 4096 ∧ goodM l l.length then 0 else 8
theorem chkM_bad {l : List (Int × Int)} {i : Nat} {r : Int × Int} (hr : l[i]? = some r) (h : r.2 = 0 ∨ (0 < i ∧ ∃ p, l[i - 1]? = some p ∧ ¬ p.1 < r.1)) : chkM l = 8 := by
  unfold chkM
  rw [if_neg]
  rintro ⟨_, hg⟩
  have := hg i (List.getElem?_eq_some_iff.1 hr).1 r hr
  rcases h with h | ⟨h1, p, h2, h3⟩
  · exact this.1 h
  · exact h3 (this.2 h1 p h2)
theorem w24 (l : List (Int × Int)) (hl : l.length ≤ 9000) : Pure Tryz.prog 55 [cellsA l] (.int .i64 (chkM l)) := by
  refine Pure.of fun nx => AC.go mixed is24 (by simp) ?_
  have hlx := cells_len l
  by_cases hb : (4096 : Int) < (l.length : Int)
  case pos =>
    simp -implicitDefEqProofs only [RA, takeV, reduceEqDiff, ↓reduceIte, reduceCtorEq, reduceAdd, reduceLeDiff, reduceLT, Nat.reduceBEq, A24, hlx, hb, R24]
    rw [chkM, if_neg (by omega)]
  simp -implicitDefEqProofs only [RA, takeV, reduceEqDiff, ↓reduceIte, reduceCtorEq, reduceAdd, reduceLeDiff, reduceLT, Nat.reduceBEq, A24, hlx, hb]
  refine go_rounds (fun q st => ∃ i : Nat, q = l.length - i ∧ i ≤ l.length ∧ goodM l i ∧ eget st.env 0 = some (cellsA l) ∧ eget st.env 8 = some (cellsA l) ∧ eget st.env 9 = some (.int .i64 l.length) ∧ eget st.env 10 = some (.int .i64 i) ∧ st.dm = []) (n := l.length) mixed
    ⟨0, rfl, by omega, fun j hj => by omega, by simp [eget], by simp [eget], by simp [eget], by simp [eget], rfl⟩ ?_
  rintro q ⟨env, heap, nx', dm⟩ ⟨i, rfl, hi, hg, h0, h8, h9, h10, hdm⟩
  simp only at h0 h8 h9 h10 hdm
  subst hdm
  by_cases hc : (i : Int) < (l.length : Int)
  case neg =>
    simp -implicitDefEqProofs only [RA, takeV, reduceEqDiff, ↓reduceIte, reduceCtorEq, reduceAdd, reduceLeDiff, reduceLT, Nat.reduceBEq, A24l0, h0, h8, h9, h10, hc, R24]
    obtain rfl : i = l.length := by omega
    rw [chkM, if_pos ⟨by omega, hg⟩]
  obtain ⟨r, hr⟩ : ∃ r, l[i]? = some r := ⟨l[i]'(by omega), List.getElem?_eq_getElem (by omega)⟩
  have hix := cells_idx hr
  have f1 : IntKind.i64.wrap ((i : Int) + 1) = ((i + 1 : Nat) : Int) := by rw [w64 (by omega) (by omega)]; omega
  rcases dec_cases (r.2 = 0) with ⟨c1, e1⟩ | ⟨c1, e1⟩
  · simp -implicitDefEqProofs only [RA, takeV, reduceEqDiff, ↓reduceIte, reduceCtorEq, reduceAdd, reduceLeDiff, reduceLT, Nat.reduceBEq, A24l0, h0, h8, h9, h10, hc, hix, cellE, e1, R24]
    rw [chkM_bad hr (.inl c1)]
  have step : (0 < i → ∀ p, l[i - 1]? = some p → p.1 < r.1) → goodM l (i + 1) := by
    intro h j hj r' hr'
    by_cases e : j = i
    · subst e; rw [hr] at hr'; cases hr'; exact ⟨c1, h⟩
    · exact hg j (by omega) r' hr'
  by_cases c2 : 0 < (i : Int)
  · obtain ⟨p, hp⟩ : ∃ p, l[i - 1]? = some p := ⟨l[i - 1]'(by omega), List.getElem?_eq_getElem (by omega)⟩
    have hpx := cells_idx hp
    have f2 : IntKind.i64.wrap ((i : Int) - 1) = ((i - 1 : Nat) : Int) := by rw [w64 (by omega) (by omega)]; omega
    by_cases c3 : r.1 ≤ p.1
    · simp -implicitDefEqProofs only [RA, takeV, reduceEqDiff, ↓reduceIte, reduceCtorEq, reduceAdd, reduceLeDiff, reduceLT, Nat.reduceBEq, A24l0, h0, h8, h9, h10, hc, hix, cellE, e1, c2, f2, hpx, c3, R24]
      rw [chkM_bad hr (.inr ⟨by omega, p, hp, by omega⟩)]
    · simp -implicitDefEqProofs only [RA, takeV, reduceEqDiff, ↓reduceIte, reduceCtorEq, reduceAdd, reduceLeDiff, reduceLT, Nat.reduceBEq, A24l0, h0, h8, h9, h10, hc, hix, cellE, e1, c2, f2, hpx, c3, f1]
      refine ⟨l.length - (i + 1), by omega, i + 1, rfl, by omega, step fun _ p' hp' => by rw [hp] at hp'; cases hp'; omega, ?_⟩
      repeat' apply And.intro
      all_goals first | assumption | rfl | omega | (simp [eget, *]; done)
  · simp -implicitDefEqProofs only [RA, takeV, reduceEqDiff, ↓reduceIte, reduceCtorEq, reduceAdd, reduceLeDiff, reduceLT, Nat.reduceBEq, A24l0, h0, h8, h9, h10, hc, hix, cellE, e1, c2, f1]
    refine ⟨l.length - (i + 1), by omega, i + 1, rfl, by omega, step fun h => by omega, ?_⟩
    repeat' apply And.intro
    all_goals first | assumption | rfl | omega | (simp [eget, *]; done)
end Go.Proofs.YtdmjloieldhlnaaGreatDoor
namespace Go.Proofs.YtdmjloieldhlnaaGreatDoor
open Go Go.Ab Go.Proofs
open Nat (reduceEqDiff reduceAdd reduceLeDiff reduceLT)
set_option linter.unusedVariables false
set_option linter.unusedSimpArgs false
set_option maxRecDepth 20000
def wfC (l : List (Int × Int)) : Prop := ∀ r ∈ l, (0 ≤ r.1 ∧ r.1 < 18446744073709551616) ∧ 0 ≤ r.2 ∧ r.2 < 256
theorem chkM_ok {l : List (Int × Int)} (h : chkM l = 0) : l.length ≤ 4096 ∧ goodM l l.length := by
  unfold chkM at h
  split at h
  · assumption
  · omega
def isM (l : List (Int × Int)) : Prop := chkM l = 0 ∧ ∀ r, l[l.length - 1]? = some r → r.1 ≤ 4294967295
open Classical in
noncomputable def memB (l : List (Int × Int)) : Bool := if isM l then true else false
theorem memB_t {l : List (Int × Int)} (h : isM l) : memB l = true := by unfold memB; rw [if_pos h]
theorem memB_f {l : List (Int × Int)} (h : ¬ isM l) : memB l = false := by unfold memB; rw [if_neg h]
theorem w10 (l : List (Int × Int)) (hl : l.length ≤ 9000) (hw : wfC l) : Pure Tryz.prog 28 [cellsA l] (.bool (memB l)) := by
  refine Pure.of fun nx => AC.go mixed is10 (by simp) ?_
  have hlx := cells_len l
  by_cases hb : (l.length : Int) ≤ 4096
  case neg =>
    have hm : memB l = false := memB_f fun h => hb (by have := (chkM_ok h.1).1; omega)
    simp -implicitDefEqProofs only [RA, takeV, reduceEqDiff, ↓reduceIte, reduceCtorEq, reduceAdd, reduceLeDiff, reduceLT, Nat.reduceBEq, A10, hlx, hb, hm, R10]
  simp -implicitDefEqProofs only [RA, takeV, reduceEqDiff, ↓reduceIte, reduceCtorEq, reduceAdd, reduceLeDiff, reduceLT, Nat.reduceBEq, A10, hlx, hb]
  refine (w24 l hl).use fun n1 hn1 => ?_
  rcases dec_cases (chkM l = 0) with ⟨c1, e1⟩ | ⟨c1, e1⟩
  case inr =>
    have hm : memB l = false := memB_f fun h => c1 h.1
    simp -implicitDefEqProofs only [RA, takeV, reduceEqDiff, ↓reduceIte, reduceCtorEq, reduceAdd, reduceLeDiff, reduceLT, Nat.reduceBEq, e1, hm, R10]
  by_cases hz : (l.length : Int) = 0
  · have hm : memB l = true := memB_t ⟨c1, fun r hr => by have := (List.getElem?_eq_some_iff.1 hr).1; omega⟩
    simp -implicitDefEqProofs only [RA, takeV, reduceEqDiff, ↓reduceIte, reduceCtorEq, reduceAdd, reduceLeDiff, reduceLT, Nat.reduceBEq, e1, hlx, hz, hm, R10]
  obtain ⟨r, hr⟩ : ∃ r, l[l.length - 1]? = some r := ⟨l[l.length - 1]'(by omega), List.getElem?_eq_getElem (by omega)⟩
  have hix := cells_idx hr
  have f2 : IntKind.i64.wrap ((l.length : Int) - 1) = ((l.length - 1 : Nat) : Int) := by rw [w64 (by omega) (by omega)]; omega
  have hrw := hw r (List.mem_of_getElem? hr)
  have hm : memB l = decide (r.1 ≤ 4294967295) := by
    by_cases h : r.1 ≤ 4294967295
    · rw [decide_eq_true h]; exact memB_t ⟨c1, fun r' hr' => by rw [hr] at hr'; cases hr'; exact h⟩
    · rw [decide_eq_false h]; exact memB_f fun hh => h (hh.2 r hr)
  have s7 : (r.1).fdiv (2 ^ (min (Int.toNat 32) 64)) = r.1 / 4294967296 := by rw [show (2 : Int) ^ (min (Int.toNat 32) 64) = 4294967296 from rfl, Int.fdiv_eq_ediv_of_nonneg _ (by omega)]
  have s8 : decide (r.1 / 4294967296 = 0) = decide (r.1 ≤ 4294967295) := by rw [decide_eq_decide]; omega
  simp -implicitDefEqProofs only [RA, takeV, reduceEqDiff, ↓reduceIte, reduceCtorEq, reduceAdd, reduceLeDiff, reduceLT, Nat.reduceBEq, e1, hlx, hz, f2, hix, cellE, b_shr _ _ _ _ (show (0 : Int) ≤ 32 by decide), IntKind.bits, s7, s8, hm, R10]
end Go.Proofs.YtdmjloieldhlnaaGreatDoor
namespace Go.Proofs.YtdmjloieldhlnaaGreatDoor
open Go Go.Ab Go.Proofs
open Nat (reduceEqDiff reduceAdd reduceLeDiff reduceLT)
set_option linter.unusedVariables false
set_option linter.unusedSimpArgs false
set_option maxRecDepth 20000
def putL (l : List (Int × Int)) (d b : Int) : List (Int × Int) := l.takeWhile (fun r => decide (r.1 < d)) ++ (if b = 0 then [] else [(d, b)]) ++ l.filter (fun r => decide (d < r.1))
theorem takeWhile_at {α : Type} (p : α → Bool) : ∀ (l : List α) (k : Nat), k ≤ l.length → (∀ (j : Nat) (r : α), j < k → l[j]? = some r → p r = true) → (∀ r, l[k]? = some r → p r = false) → l.takeWhile p = l.take k
  | [], k, h, _, _ => by simp
  | x :: l, 0, _, _, h2 => by simp [List.takeWhile_cons, h2 x rfl]
  | x :: l, k + 1, h, h1, h2 => by
    have hx := h1 0 x (by omega) rfl
    rw [List.takeWhile_cons, if_pos hx, List.take_succ_cons, takeWhile_at p l k (by simpa using h) (fun j r hj hr => h1 (j + 1) r (by omega) (by simpa using hr)) (fun r hr => h2 r (by simpa using hr))]
end Go.Proofs.YtdmjloieldhlnaaGreatDoor
namespace Go.Proofs.YtdmjloieldhlnaaGreatDoor
open Go Go.Ab Go.Proofs
open Nat (reduceEqDiff reduceAdd reduceLeDiff reduceLT)
set_option linter.unusedVariables false
set_option linter.unusedSimpArgs false
set_option maxRecDepth 20000
theorem putL_len (l : List (Int × Int)) (d b : Int) : (putL l d b).length ≤ l.length + 1 := by
  have h : ∀ l : List (Int × Int), (l.takeWhile (fun r => decide (r.1 < d))).length + (l.filter (fun r => decide (d < r.1))).length ≤ l.length := by
    intro l
    induction l with
    | nil => simp
    | cons x l ih =>
      by_cases c : x.1 < d
      · rw [List.takeWhile_cons, if_pos (decide_eq_true c), List.filter_cons, if_neg (by simp; omega)]
        simp; omega
      · rw [List.takeWhile_cons, if_neg (by simpa using c)]
        have := List.length_filter_le (fun r : Int × Int => decide (d < r.1)) (x :: l)
        simpa using this
  have := h l
  unfold putL
  split <;> simp <;> omega
def nxt (d : Int) : Int := if d = 4294967295 then 0 else d + 1
def stoL : Nat → List (Int × Int) → Int → Nat → List (Int × Int)
  | 0, l, _, _ => l
  | n + 1, l, d, x => stoL n (putL l d ((x % 256 : Nat) : Int)) (nxt d) (x / 256)
def okS (l : List (Int × Int)) (d w : Int) (x : Nat) : Prop := isM l ∧ d ≤ 4294967295 ∧ (w = 8 ∨ w = 16 ∨ w = 32 ∨ w = 64) ∧ (w = 64 ∨ x < 2 ^ w.toNat)
def Sto (l : List (Int × Int)) (d w : Int) (x : Nat) (out : List (Int × Int)) (e : Int) : Prop :=
  (¬ okS l d w x ∧ out = [] ∧ e = 2) ∨ (okS l d w x ∧ 4096 < (stoL (w / 8).toNat l d x).length ∧ out = [] ∧ e = 20) ∨ (okS l d w x ∧ ¬ 4096 < (stoL (w / 8).toNat l d x).length ∧ out = stoL (w / 8).toNat l d x ∧ e = 0)
theorem sto_some (l : List (Int × Int)) (d w : Int) (x : Nat) : ∃ out e, Sto l d w x out e := by
  unfold Sto
  by_cases h1 : okS l d w x
  · by_cases h2 : 4096 < (stoL (w / 8).toNat l d x).length
    · exact ⟨_, _, .inr (.inl ⟨h1, h2, rfl, rfl⟩)⟩
    · exact ⟨_, _, .inr (.inr ⟨h1, h2, rfl, rfl⟩)⟩
  · exact ⟨_, _, .inl ⟨h1, rfl, rfl⟩⟩
end Go.Proofs.YtdmjloieldhlnaaGreatDoor
namespace Go.Proofs.YtdmjloieldhlnaaGreatDoor
open Go Go.Ab Go.Proofs
open Nat (reduceEqDiff reduceAdd reduceLeDiff reduceLT)
set_option linter.unusedVariables false
set_option linter.unusedSimpArgs false
set_option maxRecDepth 20000
theorem At.take {l : List (Int × Int)} {d : Int} {k : Nat} (h : At l d k) : l.takeWhile (fun r => decide (r.1 < d)) = l.take k :=
  takeWhile_at _ l k h.le (fun j r hj hr => decide_eq_true (h.lo j r hj hr)) fun r hr => decide_eq_false (by have := h.hi k r (Nat.le_refl _) hr; omega)
theorem At.take0 {l : List (Int × Int)} {d : Int} {k : Nat} (h : At l d k) : (l.take k).filter (fun r => decide (d < r.1)) = [] := by
  rw [List.filter_eq_nil_iff]
  intro r hr
  obtain ⟨j, hj⟩ := List.getElem?_of_mem hr
  rw [List.getElem?_take] at hj
  split at hj
  · rename_i hlt
    have := h.lo j r hlt hj
    simp; omega
  · cases hj
theorem At.drop {l : List (Int × Int)} {d : Int} {k : Nat} (h : At l d k) (hs : Srt l) : l.filter (fun r => decide (d < r.1)) = l.drop (if hitB l d k = true then k + 1 else k) := by
  conv => lhs; rw [← List.take_append_drop k l]
  rw [List.filter_append, h.take0, List.nil_append]
  split
  · rename_i hh
    obtain ⟨r, hr, hd⟩ := hitB_iff.1 hh
    have hk := (List.getElem?_eq_some_iff.1 hr).1
    have e : l.drop k = r :: l.drop (k + 1) := by
      rw [List.drop_eq_getElem_cons hk]
      have : l[k] = r := (List.getElem?_eq_some_iff.1 hr).2
      rw [this]
    rw [e, List.filter_cons, if_neg (by simp; omega), List.filter_eq_self]
    intro q hq
    obtain ⟨j, hj⟩ := List.getElem?_of_mem hq
    rw [List.getElem?_drop] at hj
    have := hs k (k + 1 + j) r q (by omega) hr hj
    simp; omega
  · rename_i hh
    rw [List.filter_eq_self]
    intro q hq
    obtain ⟨j, hj⟩ := List.getElem?_of_mem hq
    rw [List.getElem?_drop] at hj
    have h1 := h.hi (k + j) q (by omega) hj
    have h2 : q.1 ≠ d := by
      intro e
      by_cases e2 : j = 0
      · subst e2; exact hh (hitB_iff.2 ⟨q, hj, e⟩)
      · obtain ⟨r, hr⟩ : ∃ r, l[k]? = some r := ⟨l[k]'(by have := (List.getElem?_eq_some_iff.1 hj).1; omega), List.getElem?_eq_getElem _⟩
        have h3 := hs k (k + j) r q (by omega) hr hj
        have h4 := h.hi k r (Nat.le_refl _) hr
        omega
    simp; omega
theorem put_hit0 {l : List (Int × Int)} {d : Int} {k : Nat} (h : At l d k) (hs : Srt l) (hh : hitB l d k = true) : putL l d 0 = l.eraseIdx k := by
  rw [putL, h.take, h.drop hs, if_pos hh, if_pos rfl, List.append_nil, List.eraseIdx_eq_take_drop_succ]
theorem put_hit {l : List (Int × Int)} {d b : Int} {k : Nat} (h : At l d k) (hs : Srt l) (hh : hitB l d k = true) (hb : b ≠ 0) : putL l d b = l.set k (d, b) := by
  obtain ⟨r, hr, hd⟩ := hitB_iff.1 hh
  have hk := (List.getElem?_eq_some_iff.1 hr).1
  rw [putL, h.take, h.drop hs, if_pos hh, if_neg hb, List.set_eq_take_append_cons_drop, if_pos hk]
  simp
theorem put_miss0 {l : List (Int × Int)} {d : Int} {k : Nat} (h : At l d k) (hs : Srt l) (hh : hitB l d k = false) : putL l d 0 = l := by
  rw [putL, h.take, h.drop hs, hh]; simp
theorem put_miss {l : List (Int × Int)} {d b : Int} {k : Nat} (h : At l d k) (hs : Srt l) (hh : hitB l d k = false) (hb : b ≠ 0) : putL l d b = l.take k ++ (d, b) :: l.drop k := by
  rw [putL, h.take, h.drop hs, hh]; simp [hb]
theorem put_ins (l : List (Int × Int)) (d b : Int) (k : Nat) : (l.take k ++ (d, b) :: l.drop k).map cellE = insE (l.map cellE) k (cellE (d, b)) := by
  simp [insE, List.map_take, List.map_drop]
theorem good_srt {l : List (Int × Int)} (h : goodM l l.length) : Srt l := by
  have key : ∀ (e i : Nat) (p r : Int × Int), l[i]? = some p → l[i + e + 1]? = some r → p.1 < r.1 := by
    intro e
    induction e with
    | zero =>
      intro i p r hp hr
      exact (h (i + 0 + 1) (List.getElem?_eq_some_iff.1 hr).1 r hr).2 (by omega) p (by simpa using hp)
    | succ e ih =>
      intro i p r hp hr
      have hl := (List.getElem?_eq_some_iff.1 hr).1
      obtain ⟨q, hq⟩ : ∃ q, l[i + e + 1]? = some q := ⟨l[i + e + 1]'(by omega), List.getElem?_eq_getElem _⟩
      have h1 := ih i p q hp hq
      have h2 := (h (i + (e + 1) + 1) hl r hr).2 (by omega) q (by rw [← hq]; congr 1)
      omega
  intro i j p r hij hp hr
  obtain ⟨e, rfl⟩ : ∃ e, j = i + e + 1 := ⟨j - i - 1, by omega⟩
  exact key e i p r hp hr
end Go.Proofs.YtdmjloieldhlnaaGreatDoor
namespace Go.Proofs.YtdmjloieldhlnaaGreatDoor
open Go Go.Ab Go.Proofs
open Nat (reduceEqDiff reduceAdd reduceLeDiff reduceLT)
set_option linter.unusedVariables false
set_option linter.unusedSimpArgs false
set_option maxRecDepth 20000
theorem srt_pw {l : List (Int × Int)} : Srt l ↔ l.Pairwise (fun p r => p.1 < r.1) := by
  rw [List.pairwise_iff_getElem]
  constructor
  · intro h i j hi hj hij
    exact h i j _ _ hij (List.getElem?_eq_getElem hi) (List.getElem?_eq_getElem hj)
  · intro h i j p r hij hp hr
    obtain ⟨hi, rfl⟩ := List.getElem?_eq_some_iff.1 hp
    obtain ⟨hj, rfl⟩ := List.getElem?_eq_some_iff.1 hr
    exact h i j hi hj hij
theorem mem_tw {α : Type} {p : α → Bool} : ∀ {l : List α} {x : α}, x ∈ l.takeWhile p → p x = true
  | [], x, h => by simp at h
  | y :: l, x, h => by
    rw [List.takeWhile_cons] at h
    split at h
    · rename_i hy
      rcases List.mem_cons.1 h with rfl | h
      · exact hy
      · exact mem_tw h
    · simp at h
theorem srt_put {l : List (Int × Int)} {d b : Int} (h : Srt l) : Srt (putL l d b) := by
  rw [srt_pw] at h ⊢
  unfold putL
  have h1 : ∀ x ∈ l.takeWhile (fun r => decide (r.1 < d)), x.1 < d := fun x hx => by have := mem_tw hx; simpa using this
  have h2 : ∀ x ∈ l.filter (fun r => decide (d < r.1)), d < x.1 := fun x hx => by have := (List.mem_filter.1 hx).2; simpa using this
  have h3 : ∀ x ∈ (if b = 0 then [] else [(d, b)] : List (Int × Int)), x.1 = d := by
    intro x hx
    split at hx
    · simp at hx
    · simp at hx; rw [hx]
  rw [List.pairwise_append, List.pairwise_append]
  refine ⟨⟨h.sublist (List.takeWhile_sublist _), ?_, fun a ha c hc => by have := h1 a ha; have := h3 c hc; omega⟩, h.sublist List.filter_sublist, fun a ha c hc => ?_⟩
  · split <;> simp
  · have := h2 c hc
    rcases List.mem_append.1 ha with ha | ha
    · have := h1 a ha; omega
    · have := h3 a ha; omega
end Go.Proofs.YtdmjloieldhlnaaGreatDoor
namespace Go.Proofs.YtdmjloieldhlnaaGreatDoor
open Go Go.Ab Go.Proofs
open Nat (reduceEqDiff reduceAdd reduceLeDiff reduceLT)
set_option linter.unusedVariables false
set_option linter.unusedSimpArgs false
set_option maxRecDepth 20000
def adr (d m : Nat) : Nat := (d + m) % 4294967296
theorem adr_succ {d m : Nat} (hd : d < 4294967296) : nxt (adr d m : Int) = (adr d (m + 1) : Int) := by
  unfold nxt adr
  by_cases h : ((((d + m) % 4294967296 : Nat) : Int) = 4294967295)
  · rw [if_pos h]; omega
  · rw [if_neg h]; omega
theorem and_mask (a : Nat) (ha : a < 18446744073709551616) : a &&& 4294967295 = a % 4294967296 := Nat.and_two_pow_sub_one_eq_mod a 32
theorem byte_step {x m : Nat} : x / 256 ^ m / 256 = x / 256 ^ (m + 1) := by rw [Nat.div_div_eq_div_mul, Nat.pow_succ]
theorem sto_step {l : List (Int × Int)} {d x n m : Nat} (hd : d < 4294967296) (hm : m < n) : stoL (n - m) l (adr d m) (x / 256 ^ m) = stoL (n - (m + 1)) (putL l (adr d m) ((x / 256 ^ m % 256 : Nat) : Int)) (adr d (m + 1)) (x / 256 ^ (m + 1)) := by
  rw [show n - m = (n - (m + 1)) + 1 by omega]
  show stoL (n - (m + 1)) (putL l (adr d m) ((x / 256 ^ m % 256 : Nat) : Int)) (nxt (adr d m)) (x / 256 ^ m / 256) = _
  rw [adr_succ hd, byte_step]
theorem bvn (x : Nat) : (BitVec.ofInt IntKind.u64.bits (x : Int)) = BitVec.ofNat 64 x := by
  simp [IntKind.bits]
theorem band {x y : Nat} (hx : x < 18446744073709551616) (hy : y < 18446744073709551616) : bitsA .and .u64 (x : Int) (y : Int) = some ((x &&& y : Nat) : Int) := by
  simp only [bitsA, bvn]
  congr 1
  have h1 : (BitVec.ofNat 64 x &&& BitVec.ofNat 64 y).toNat = x &&& y := by
    rw [BitVec.toNat_and, BitVec.toNat_ofNat, BitVec.toNat_ofNat, Nat.mod_eq_of_lt (by omega), Nat.mod_eq_of_lt (by omega)]
  show IntKind.u64.wrap (((BitVec.ofNat 64 x &&& BitVec.ofNat 64 y).toNat : Nat) : Int) = _
  rw [h1]
  have : x &&& y ≤ x := Nat.and_le_left
  exact wu64 (by omega) (by omega)
theorem band_lit {a : Nat} (ha : a < 18446744073709551616) : bitsA .and .u64 (a : Int) 4294967295 = some ((a % 4294967296 : Nat) : Int) := by
  have := band ha (show 4294967295 < 18446744073709551616 by decide)
  rw [and_mask a ha] at this
  exact this
end Go.Proofs.YtdmjloieldhlnaaGreatDoor
