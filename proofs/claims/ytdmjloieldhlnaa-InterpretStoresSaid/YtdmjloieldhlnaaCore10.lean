/- The model's operations do what the abstract ones do: the rest, and all of them. -/
import Derived.Test.YtdmjloieldhlnaaCore9
import Derived.Laws.BytesArg
import Derived.Lib.AppendZeros
import Derived.Lib.Overlaps
namespace Go.Ab
open Go.RowKit
set_option linter.unusedVariables false
set_option linter.unusedSimpArgs false

section
variable {P : Program} {o : Oper}

theorem snd_eqB {neg : Bool} {t t' : TypeId} {x y : Operand} (ho : o.op = .binOp (if neg then .neq else .eql) t x y t') (hu : P.underlying t = some .bool) : Snd P o (.eqB neg x y) := by
  intro w0 K h nx env a out h' nx' g he hev
  simp only [opEv] at hev
  split at hev
  · rename_i p q hx hy
    cases hev
    have hvx := oev_sound he hx
    have hvy := oev_sound he hy
    generalize hcx : a.eval x = cx at hvx
    generalize hcy : a.eval y = cy at hvy
    cases hvx; cases hvy
    refine snd_val g (v := .bool (if neg then !(p == q) else p == q)) ?_ (.bool _)
    rw [execOp, ho]
    show (do let v ← (do eqGuard (if neg then .neq else .eql) t x y (a.eval x) (a.eval y); binOp (if neg then .neq else .eql) t (a.eval x) (a.eval y) : Sem Value); pure (Next.value v)).run P K.w = _
    rw [hcx, hcy, Sem.run_bind, eqn_core (fun op => eqGuard_plain op t x y K.w (by intro c; simp) (by simp)) rfl rfl (fun d => run_equalIn_bool K.w d t p q hu)]
    rfl
  · cases hev

theorem snd_un {op : UnOp} {t : TypeId} {x : Operand} (ho : o.op = .unOp op t x) : Snd P o (.un op x) := by
  intro w0 K h nx env a out h' nx' g he hev
  simp only [opEv] at hev
  split at hev
  · rename_i y hy
    split at hev
    · rename_i r hr
      cases hev
      have hv := oev_sound he hy
      generalize hcx : a.eval x = cx at hv
      unfold unA at hr
      split at hr
      · cases hr
        cases hv
        exact snd_val g (v := .int _ _) (by simp [execOp, ho, hcx, Op.unary, Op.intArith]) (.int _ _)
      · rename_i k n
        cases hv
        simp only [bitsA, Option.map_some, Option.some.injEq] at hr
        subst hr
        exact snd_val g (v := .int _ _) (by simp [execOp, ho, hcx, Op.unary, Op.intBits]) (.int _ _)
      · cases hr
        cases hv
        exact snd_val g (v := .bool _) (by simp [execOp, ho, hcx, Op.unary]) (.bool _)
      · cases hr
    · cases hev
  · cases hev

theorem snd_conv {src dst : TypeId} {k : IntKind} {d : TypeDesc} {x : Operand} (ho : o.op = .convert src dst x) (hs : P.underlying src = some d) (hd : P.underlying dst = some (.int k)) : Snd P o (.conv k x) := by
  intro w0 K h nx env a out h' nx' g he hev
  simp only [opEv] at hev
  split at hev
  · rename_i k' n hx
    cases hev
    have hv := oev_sound he hx
    generalize hcx : a.eval x = cx at hv
    cases hv
    refine snd_val g (v := .int k (k.wrap n)) ?_ (.int _ _)
    simp [execOp, ho, hcx, convert, run_underlying hs, run_underlying hd, Conv.intToInt]
  · cases hev

theorem bytesOf_sound {K : Wd} {nx : Nat} : ∀ {cs : List AV} {bs : List UInt8} {c : List Value}, bytesOf cs = some bs → CR K nx cs c → ∃ ns : List Int, c = ns.map (Value.int .u8) ∧ bs = ns.map fun n => UInt8.ofNat n.toNat
  | [], bs, c, h, hc => by
    simp only [bytesOf, Option.some.injEq] at h; subst h
    have := hc.len
    exact ⟨[], by simpa using this, rfl⟩
  | x :: cs, bs, c, h, hc => by
    cases c with
    | nil => have := hc.len; simp at this
    | cons v c =>
      have hv := hc.at_ 0 x v rfl rfl
      have hr : CR K nx cs c := by simpa using hc.drop 1
      unfold bytesOf at h
      split at h
      case h_1 => rename_i he; cases he
      case h_3 => cases h
      rename_i n r he
      cases he
      obtain ⟨bs', hb, rfl⟩ := Option.map_eq_some_iff.1 h
      obtain ⟨ns, h1, h2⟩ := bytesOf_sound hb hr
      cases hv
      exact ⟨n :: ns, by rw [h1]; rfl, by rw [h2]; rfl⟩
theorem snd_convBS {src dst e : TypeId} {x : Operand} (ho : o.op = .convert src dst x) (hs : P.underlying src = some (.slice e)) (he : P.underlying e = some (.int .u8)) (hd : P.underlying dst = some .string) : Snd P o (.convBS x) := by
  intro w0 K h nx env a out h' nx' g hr hev
  simp only [opEv] at hev
  split at hev
  case h_2 => cases hev
  rename_i s hs0
  split at hev
  case isFalse => cases hev
  rename_i hsz
  split at hev
  case h_2 => cases hev
  rename_i m cs hcs
  split at hev
  case h_2 => cases hev
  rename_i bs hbs
  cases hev
  have hv := oev_sound hr hs0
  generalize hcx : a.eval x = cx at hv
  obtain ⟨A, cap, c, rfl, hmc, hmm, hcr, hnl, hcell, hA⟩ := sliceCells_sound g hcs hsz hv
  obtain ⟨ns, rfl, rfl⟩ := bytesOf_sound hbs hcr
  have hlen : ns.length = m := by have := hcr.len; simp at this; omega
  rcases Nat.eq_zero_or_pos m with h0 | h0
  · have : ns = [] := List.length_eq_zero_iff.1 (by omega)
    subst this; subst h0
    cases A with
    | none => exact snd_val g (v := .string ByteArray.empty) (by have := run_convert_bytes_nil (w := K.w) (P := P) src e hs he 0 cap dst hd; simp [execOp, ho, hcx, this]) (.str _ _ rfl)
    | some b =>
      have hl : (loadCells b 0).run P K.w = .ok (([] : List Int).map (Value.int .u8)).toArray K.w := by simp [loadCells, loadCellsFrom]
      have := run_bytesToString K.w b 0 cap [] hl
      exact snd_val g (v := .string ByteArray.empty) (by simp [execOp, ho, hcx, run_convert_bytes_string K.w src dst e (some b) 0 cap hs he hd, this]) (.str _ _ rfl)
  · obtain ⟨b, rfl, hc⟩ := hcell h0
    have hl : (loadCells b m).run P K.w = .ok (ns.map (Value.int .u8)).toArray K.w := by
      have := run_loadCells_list (P := P) K.w b (ns.map (Value.int .u8)) hc
      simpa [hlen] using this
    have hb := run_bytesToString K.w b m cap ns hl
    rw [foldl_push_bytes] at hb
    refine snd_val g (v := .string ⟨ByteArray.empty.data ++ (ns.map fun n => UInt8.ofNat n.toNat).toArray⟩) ?_ (.str _ _ ?_)
    · have hr1 : (convert src dst (.slice (some b) m cap)).run P K.w = _ := (run_convert_bytes_string K.w src dst e (some b) m cap hs he hd).trans hb
      simp only [execOp, ho, hcx, Sem.run_bind, hr1, Result.andThen_ok, Sem.run_pure]
    · simp [ByteArray.empty, ByteArray.emptyWithCapacity]
      rfl

theorem snd_convS {src dst : TypeId} {x : Operand} (ho : o.op = .convert src dst x) (hs : P.underlying src = some .string) (hd : P.underlying dst = some .string) : Snd P o (.convS x) := by
  intro w0 K h nx env a out h' nx' g he hev
  simp only [opEv] at hev
  split at hev
  · rename_i s hx
    cases hev
    have hv := oev_sound he hx
    generalize hcx : a.eval x = cx at hv
    cases hv with
    | str _ q hq => exact snd_val g (v := .string q) (by simp [execOp, ho, hcx, convert, run_underlying hs, run_underlying hd]) (.str _ q hq)
  · cases hev

theorem snd_mkif {t : TypeId} {d : TypeDesc} {x : Operand} (ho : o.op = .makeInterface t x) (ht : P.underlying t = some d) (hd : ∀ ms, d ≠ .interface ms) : Snd P o (.mkif t x) := by
  intro w0 K h nx env a out h' nx' g he hev
  simp only [opEv] at hev
  split at hev
  · rename_i y hy
    cases hev
    refine snd_val g (v := .iface t (a.eval x)) ?_ (.ifc _ _ _ (oev_sound he hy))
    simp only [execOp, ho, Instr.makeInterface, Sem.run_bind, run_underlying ht, Result.andThen_ok]
    cases d <;> first | rfl | (rename_i ms; exact absurd rfl (hd ms))
  · cases hev

theorem oevs_sound {K : Wd} {nx : Nat} {env : Env} {a : Act} (he : EnvR K nx env a.tmps) : ∀ (xs : List Operand) (ys : List AV), oevs env xs = some ys → ys.length = xs.length ∧ ∀ (i : Nat) (y : AV) (v : Value), ys[i]? = some y → (xs.map a.eval)[i]? = some v → VR K nx y v
  | [], ys, h => by
    simp only [oevs, Option.some.injEq] at h; subst h
    exact ⟨rfl, fun i y v h => by simp at h⟩
  | x :: xs, ys, h => by
    simp only [oevs] at h
    split at h
    · rename_i y zs hy hzs
      simp only [Option.some.injEq] at h; subst h
      obtain ⟨h1, h2⟩ := oevs_sound he xs zs hzs
      refine ⟨by simp [h1], fun i y' v hi hv => ?_⟩
      cases i with
      | zero => simp at hi hv; subst hi; subst hv; exact oev_sound he hy
      | succ i => simp only [List.getElem?_cons_succ, List.map_cons] at hi hv; exact h2 i y' v hi hv
    · cases h

theorem snd_mkfn {f : Fn} {caps : Array Operand} (ho : o.op = .makeFunc f #[] caps) : Snd P o (.mkfn f caps.toList) := by
  intro w0 K h nx env a out h' nx' g he hev
  simp only [opEv] at hev
  split at hev
  · rename_i cs hcs
    cases hev
    obtain ⟨h1, h2⟩ := oevs_sound he _ _ hcs
    refine snd_val g (v := .func f #[] (caps.map a.eval)) (by simp [execOp, ho, Instr.makeFunc]) (.fn f cs _ (by simp [h1]) fun i x v hx hv => h2 i x v hx (by simpa using hv))
  · cases hev

theorem madeCells_rep {z : Array Value} {n : Nat} (hz : 0 < z.size ∨ n = 0) : (madeCells z (n * z.size)).toList = (List.replicate n z.toList).flatten := by
  have hg : ∀ (n : Nat) (l : List Value) (k : Nat), k < n * l.length → (List.replicate n l).flatten[k]? = l[k % l.length]? := by
    intro n l
    induction n with
    | zero => intro k hk; simp at hk
    | succ n ih =>
      intro k hk
      rw [List.replicate_succ, List.flatten_cons, List.getElem?_append]
      split
      · rename_i h; rw [Nat.mod_eq_of_lt h]
      · rename_i h
        have e1 : k % l.length = (k - l.length) % l.length := Nat.mod_eq_sub_mod (by omega)
        rw [e1, ih _ (by rw [Nat.succ_mul] at hk; omega)]
  apply List.ext_getElem?
  intro k
  by_cases hk : k < n * z.size
  · rw [hg n z.toList k (by simpa using hk)]
    have hpos : 0 < z.size := by
      rcases hz with h | h
      · exact h
      · subst h; simp at hk
    have hm : k % z.size < z.size := Nat.mod_lt _ hpos
    simp only [madeCells, Array.getElem?_toList, Array.getElem?_map, Array.getElem?_range, if_pos hk, Option.map_some, Array.length_toList]
    simp [hm]
  · rw [List.getElem?_eq_none (by simp [madeCells]; omega), List.getElem?_eq_none (by simp; omega)]

theorem snd_mksl {t e : TypeId} {z : List AV} {l c : Operand} (ho : o.op = .makeSlice t l c) (hu : P.underlying t = some (.slice e)) (hz : zeroT P e = some z) (hzl : z.length = P.cellsOf e) : Snd P o (.mksl e z (P.bytesOf e) l c) := by
  intro w0 K h nx env a out h' nx' g he hev
  simp only [opEv] at hev
  split at hev
  · rename_i kl l' kc c' hl hc
    split at hev
    · rename_i hcond
      cases hev
      obtain ⟨h0, hlc, hby, h63⟩ := hcond
      obtain ⟨i, v, hi, hv, hzz, _⟩ := run_zeroT hz
      have hcr : CR K nx z v.cells.toList := CR.ofC hzz
      have hvl : v.cells.size = z.length := by have := hcr.len; simpa using this
      have hs : i.size = z.length := by rw [hzl]; simp [Program.cellsOf, hi]
      have hb : P.bytesOf e = i.bytes := by simp [Program.bytesOf, hi]
      rw [hb] at hby
      have hvx := oev_sound he hl
      have hvy := oev_sound he hc
      generalize hcx : a.eval l = cx at hvx
      generalize hcy : a.eval c = cy at hvy
      cases hvx; cases hvy
      have hrun := run_make (P := P) K.w t e i v hu hi hv kl kc l' c' h0 hlc hby h63
      obtain ⟨blk, hblk⟩ : ∃ blk, blk = madeCells v.cells (c'.toNat * i.size) := ⟨_, rfl⟩
      rw [← hblk] at hrun
      have hbs : blk.size = c'.toNat * z.length := by rw [hblk, size_madeCells, hs]
      have hrep : ∀ n, CR K nx (List.replicate n z).flatten (List.replicate n v.cells.toList).flatten := by
        intro n
        induction n with
        | zero => exact .nil _ _
        | succ n ih => rw [List.replicate_succ, List.replicate_succ, List.flatten_cons, List.flatten_cons]; exact hcr.append ih
      have hlen : ((List.replicate l'.toNat z).flatten).length = l'.toNat * z.length := by simp
      have hle : l'.toNat ≤ c'.toNat := by omega
      have hble : ((List.replicate l'.toNat z).flatten).length ≤ blk.size := by rw [hlen, hbs]; exact Nat.mul_le_mul_right _ hle
      have htake : blk.toList.take ((List.replicate l'.toNat z).flatten).length = (List.replicate l'.toNat v.cells.toList).flatten := by
        rw [hlen, hblk, hs, ← hvl]
        rcases Nat.eq_zero_or_pos v.cells.size with hz0 | hz0
        · have he : v.cells.toList = [] := List.eq_nil_of_length_eq_zero (by simpa using hz0)
          rw [hz0, he]; simp
        · rw [madeCells_rep (.inl hz0)]
          have : c'.toNat = l'.toNat + (c'.toNat - l'.toNat) := by omega
          rw [this, ← List.replicate_append_replicate, List.flatten_append]
          have hll : l'.toNat * v.cells.size = ((List.replicate l'.toNat v.cells.toList).flatten).length := by simp
          rw [hll]
          exact List.take_left
      have gn := new_sound g (cs := (List.replicate l'.toNat z).flatten) (c := blk) hble (by rw [htake]; exact hrep _) e
      refine ⟨K.alloc nx (.cells blk e (0, 0)), .value _, by simp only [execOp, ho, Sem.run_bind, hcx, hcy, hrun]; rfl, Ext.alloc g _, gn, ?_⟩
      refine .os nx 0 e z.length l'.toNat _ l'.toNat c'.toNat rfl (by omega) hle (by simp only [maxLen]; omega) (fun _ => by simp [Wd.alloc]) ⟨blk, ?_, by omega⟩
      have : (K.alloc nx (.cells blk e (0, 0))).m nx = K.w.heap.size := by simp [Wd.alloc]
      rw [this]; exact alloc_new _ _
    · cases hev
  · cases hev

theorem snd_fieldA {s : TypeId} {fs : Array Field} {f : Nat} {fd : Field} {d : TypeDesc} {x : Operand} (ho : o.op = .fieldAddr s x f) (hu : P.underlying s = some (.struct fs)) (hf : fs[f]? = some fd) (hd : P.underlying fd.type = some d) (hs : sizeT P fd.type ≠ 0) :
    Snd P o (.fieldA fd.offset x) := by
  intro w0 K h nx env a out h' nx' g he hev
  simp only [opEv] at hev
  split at hev
  · rename_i y hy
    split at hev
    · rename_i r hr
      cases hev
      have hv := oev_sound he hy
      generalize hcx : a.eval x = cx at hv
      have hrun : ∀ ad : Addr, (Instr.fieldAt s (.pointer (some ad)) f).run P K.w = .ok (.pointer (some (ad.add fd.offset))) K.w := by
        intro ad
        simp [Instr.fieldAt, run_underlying hu, hf, Instr.sureAddr, fieldPlace, run_sizeT hd, hs]
      unfold addA at hr
      split at hr
      · cases hr
        cases hv with
        | fp cs ad c h1 hr h =>
          refine snd_val g (v := .pointer (some (ad.add fd.offset))) (by simp only [execOp, ho, Sem.run_bind, hcx, hrun]; rfl) ?_
          refine .fp _ _ (fun j => c (fd.offset + j)) (fun j x hx => h1 (fd.offset + j) x (by simpa using hx)) (fun k hk => ?_) (fun j x hx => h (fd.offset + j) x (by simpa using hx))
          have := hr (fd.offset + k) (by simp at hk; omega)
          have e1 : (ad.add fd.offset).add k = ad.add (fd.offset + k) := by
            unfold Addr.add
            by_cases h1 : fd.offset = 0 <;> by_cases h2 : k = 0 <;> simp [h1, h2, Nat.add_assoc]
          rw [e1]; exact this
      · rename_i b off
        cases hr
        cases hv with
        | op _ _ hb ad ha =>
          subst ha
          exact snd_val g (v := .pointer (some ((⟨K.m b, off, none⟩ : Addr).add fd.offset))) (by simp only [execOp, ho, Sem.run_bind, hcx, hrun]; rfl) (.op b _ hb _ (add_eq _ _ _))
      · cases hr
    · cases hev
  · cases hev

theorem part_sound {K : Wd} {nx : Nat} {t : TypeId} {d : TypeDesc} (ht : P.underlying t = some d) {cs : List AV} {c : Array Value} (hc : CR K nx cs c.toList) {off : Nat} {r : AV} (h : takeV (sizeT P t) (isAggT P t) (cs.drop off) = some r) (w : World) :
    ∃ v, (part t c off).run P w = .ok v w ∧ VR K nx r v := by
  unfold takeV at h
  cases hag : isAggT P t with
  | true =>
    rw [hag, if_pos rfl] at h
    split at h
    · cases h
      refine ⟨.agg (c.extract off (off + sizeT P t)), by simp [part, run_isAggT ht, hag, run_sizeT ht], ?_⟩
      have := ((hc.drop off).take (sizeT P t)).toAgg
      have e1 : ((c.toList.drop off).take (sizeT P t)).toArray = c.extract off (off + sizeT P t) := by
        apply Array.ext'
        simp only [Array.toList_extract, List.extract_eq_take_drop]
        congr 1; omega
      rw [e1] at this
      exact this
    · cases h
  | false =>
    rw [hag] at h
    simp only [Bool.false_eq_true, if_false] at h
    split at h
    · rename_i y rest hy
      cases h
      have hx : cs[off]? = some r := by have := congrArg (·[0]?) hy; simpa using this
      have hlt : off < c.size := by have := (List.getElem?_eq_some_iff.1 hx).1; have := hc.len; simp at this; omega
      refine ⟨c[off], by simp [part, run_isAggT ht, hag, hlt], hc.at_ off r _ hx (by simp [hlt])⟩
    · cases h

theorem snd_field {s : TypeId} {fs : Array Field} {f : Nat} {fd : Field} {d : TypeDesc} {x : Operand} (ho : o.op = .field s x f) (hu : P.underlying s = some (.struct fs)) (hf : fs[f]? = some fd) (hd : P.underlying fd.type = some d) :
    Snd P o (.field fd.offset (sizeT P fd.type) (isAggT P fd.type) x) := by
  intro w0 K h nx env a out h' nx' g he hev
  simp only [opEv] at hev
  split at hev
  · rename_i cs hy
    split at hev
    · rename_i r hr
      cases hev
      have hv := oev_sound he hy
      generalize hcx : a.eval x = cx at hv
      cases hv with
      | agg _ c hs h1 h =>
        obtain ⟨v, h2, h3⟩ := part_sound (K := K) hd (VR.ofAgg (.agg cs c hs h1 h)) hr K.w
        exact snd_val g (v := v) (by simp [execOp, ho, hcx, Instr.field, run_underlying hu, hf, asAgg, h2]) h3
    · cases hev
  · cases hev

theorem snd_idxA {t e : TypeId} {d : TypeDesc} {x i : Operand} (ho : o.op = .indexAddr t x i) (hu : P.underlying t = some (.slice e)) (hd : P.underlying e = some d) : Snd P o (.idxA (sizeT P e) x i) := by
  intro w0 K h nx env a out h' nx' g he hev
  simp only [opEv] at hev
  split at hev
  · rename_i y ki n hy hi
    split at hev
    · rename_i r hr
      cases hev
      have hv := oev_sound he hy
      have hvi := oev_sound he hi
      generalize hcx : a.eval x = cx at hv
      generalize hcy : a.eval i = cy at hvi
      cases hvi
      have helem : P.elem t = e := by simp [Program.elem, hu]
      have hrun : ∀ (ad : Addr) (len cap : Nat), 0 ≤ n ∧ n < len → (Instr.indexAt t (.slice (some ad) len cap) (.int ki n)).run P K.w = .ok (.pointer (some (ad.add (n.toNat * sizeT P e)))) K.w := by
        intro ad len cap hn
        rw [run_indexAt_slice K.w t ad len cap ki n (by rw [helem]; exact hu), if_pos hn, helem, run_sizeT hd]
        rfl
      unfold Go.Ab.idxA at hr
      split at hr
      · rename_i s es
        split at hr
        · rename_i hc
          obtain ⟨h0, rfl⟩ := hc
          obtain ⟨e0, he0, rfl⟩ := Option.map_eq_some_iff.1 hr
          have hlt : n.toNat < es.length := (List.getElem?_eq_some_iff.1 he0).1
          cases hv with
          | lst0 _ _ A m cap h0' hn hA => subst h0'; simp at hlt
          | lst _ _ ad m cap c hn hc hcap hsz h1 hrr h =>
            refine snd_val g (v := .pointer (some (ad.add (n.toNat * sizeT P e)))) (by simp only [execOp, ho, Sem.run_bind, hcx, hcy, hrun ad m cap ⟨h0, by omega⟩]; rfl) ?_
            have hel := hsz _ _ he0
            refine .fp e0 _ (fun j => c (n.toNat * sizeT P e + j)) (fun j x hx => h1 _ _ he0 j x hx) (fun k hk => ?_) (fun j x hx => h _ _ he0 j x hx)
            have e1 : (ad.add (n.toNat * sizeT P e)).add k = ad.add (n.toNat * sizeT P e + k) := by
              unfold Addr.add
              by_cases h1 : n.toNat * sizeT P e = 0 <;> by_cases h2 : k = 0 <;> simp [h1, h2, Nat.add_assoc]
            rw [e1]
            refine hrr _ ?_
            have : (n.toNat + 1) * sizeT P e ≤ m * sizeT P e := Nat.mul_le_mul_right _ (by omega)
            rw [Nat.succ_mul] at this
            omega
        · cases hr
      · rename_i b off ee s len
        split at hr
        · rename_i hc
          obtain ⟨h0, hlt, rfl⟩ := hc
          cases hr
          cases hv with
          | os _ _ _ _ _ ad m cap hn hb hc hcap hA hroom =>
            have ha := hA (by omega)
            subst ha
            refine snd_val g (v := .pointer (some ((⟨K.m b, off, none⟩ : Addr).add (n.toNat * sizeT P e)))) (by simp only [execOp, ho, Sem.run_bind, hcx, hcy, hrun _ m cap ⟨h0, by omega⟩]; rfl) (.op b _ hb _ (add_eq _ _ _))
        · cases hr
      · cases hr
    · cases hev
  · cases hev

theorem snd_idxR {t e : TypeId} {len : Nat} {d : TypeDesc} {x i : Operand} (ho : o.op = .indexAddr t x i) (hu : P.underlying t = some (.array len e)) (hd : P.underlying e = some d) : Snd P o (.idxR len (sizeT P e) x i) := by
  intro w0 K h nx env a out h' nx' g he hev
  simp only [opEv] at hev
  split at hev
  · rename_i y ki n hy hi
    split at hev
    · rename_i hn
      split at hev
      · rename_i r hr
        cases hev
        have hv := oev_sound he hy
        have hvi := oev_sound he hi
        generalize hcx : a.eval x = cx at hv
        generalize hcy : a.eval i = cy at hvi
        cases hvi
        have helem : P.elem t = e := by simp [Program.elem, hu]
        have hal : P.arrayLen t = len := by simp [Program.arrayLen, hu]
        have hrun : ∀ (ad : Addr), (Instr.indexAt t (.pointer (some ad)) (.int ki n)).run P K.w = .ok (.pointer (some (ad.add (n.toNat * sizeT P e)))) K.w := by
          intro ad
          rw [run_indexAt_array K.w t ad ki n (by rw [helem, hal]; exact hu), hal, if_pos hn, helem, run_sizeT hd]
          rfl
        unfold addA at hr
        split at hr
        · cases hr
          cases hv with
          | fp cs ad c h1 hr h =>
            refine snd_val g (v := .pointer (some (ad.add (n.toNat * sizeT P e)))) (by simp only [execOp, ho, Sem.run_bind, hcx, hcy, hrun]; rfl) ?_
            refine .fp _ _ (fun j => c (n.toNat * sizeT P e + j)) (fun j x hx => h1 (n.toNat * sizeT P e + j) x (by simpa using hx)) (fun k hk => ?_) (fun j x hx => h (n.toNat * sizeT P e + j) x (by simpa using hx))
            have := hr (n.toNat * sizeT P e + k) (by simp at hk; omega)
            have e1 : (ad.add (n.toNat * sizeT P e)).add k = ad.add (n.toNat * sizeT P e + k) := by
              unfold Addr.add
              by_cases h1 : n.toNat * sizeT P e = 0 <;> by_cases h2 : k = 0 <;> simp [h1, h2, Nat.add_assoc]
            rw [e1]; exact this
        · rename_i b off
          cases hr
          cases hv with
          | op _ _ hb ad ha =>
            subst ha
            exact snd_val g (v := .pointer (some ((⟨K.m b, off, none⟩ : Addr).add (n.toNat * sizeT P e)))) (by simp only [execOp, ho, Sem.run_bind, hcx, hcy, hrun]; rfl) (.op b _ hb _ (add_eq _ _ _))
        · cases hr
      · cases hev
    · cases hev
  · cases hev

theorem snd_idx {t e : TypeId} {len : Nat} {d : TypeDesc} {x i : Operand} (ho : o.op = .index t x i) (hu : P.underlying t = some (.array len e)) (hd : P.underlying e = some d) : Snd P o (.idx len (sizeT P e) (isAggT P e) x i) := by
  intro w0 K h nx env a out h' nx' g he hev
  simp only [opEv] at hev
  split at hev
  · rename_i cs ki n hy hi
    split at hev
    · rename_i hn
      split at hev
      · rename_i r hr
        cases hev
        have hv := oev_sound he hy
        have hvi := oev_sound he hi
        generalize hcx : a.eval x = cx at hv
        generalize hcy : a.eval i = cy at hvi
        cases hvi
        cases hv with
        | agg _ c hs h1 h =>
          obtain ⟨v, h2, h3⟩ := part_sound (K := K) hd (VR.ofAgg (.agg cs c hs h1 h)) hr K.w
          exact snd_val g (v := v) (by simp [execOp, ho, hcx, hcy, Instr.index, asIntOf, run_underlying hu, run_sizeT hd, hn, h2]) h3
      · cases hev
    · cases hev
  · cases hev

theorem snd_idxs {t : TypeId} {x i : Operand} (ho : o.op = .index t x i) (hu : P.underlying t = some .string) : Snd P o (.idxs x i) := by
  intro w0 K h nx env a out h' nx' g he hev
  simp only [opEv] at hev
  split at hev
  · rename_i s ki n hy hi
    split at hev
    · rename_i hn
      split at hev
      · rename_i b hb
        cases hev
        have hv := oev_sound he hy
        have hvi := oev_sound he hi
        generalize hcx : a.eval x = cx at hv
        generalize hcy : a.eval i = cy at hvi
        cases hvi
        cases hv with
        | str _ q hq =>
          subst hq
          have hq2 : q[n.toNat]? = some b := by
            rw [← hb]
            have hl : q.data.toList.length = q.size := by rw [Array.length_toList]; rfl
            have hlt : n.toNat < q.size := by rw [← hl]; exact (List.getElem?_eq_some_iff.1 hb).1
            have h1 : q.data.toList[n.toNat]? = some (q.data.toList[n.toNat]'(by rw [hl]; exact hlt)) := List.getElem?_eq_getElem _
            rw [h1, getElem?_pos q n.toNat hlt]
            simp [ByteArray.getElem_eq_getElem_data]
          exact snd_val g (v := .int .u8 b.toNat) (by simp [execOp, ho, hcx, hcy, Instr.index, asIntOf, run_underlying hu, hn, hq2]) (.int _ _)
      · cases hev
    · cases hev
  · cases hev

theorem snd_ext {x : Operand} {i : Nat} (ho : o.op = .extract x i) : Snd P o (.ext x i) := by
  intro w0 K h nx env a out h' nx' g he hev
  simp only [opEv] at hev
  split at hev
  · rename_i cs hy
    split at hev
    · rename_i y hyi
      cases hev
      have hv := oev_sound he hy
      generalize hcx : a.eval x = cx at hv
      cases hv with
      | tup _ c hs h =>
        have hlt : i < c.size := by rw [hs]; exact (List.getElem?_eq_some_iff.1 hyi).1
        exact snd_val g (v := c[i]) (by simp [execOp, ho, hcx, Instr.extract, hlt]) (h i y _ hyi (by simp [hlt]))
    · cases hev
  · cases hev

theorem lenA_sound {K : Wd} {nx : Nat} {x : AV} {n : Nat} (h : lenA x = some n) {v : Value} (hv : VR K nx x v) : ∃ A c, v = .slice A n c ∧ n ≤ c ∧ (A = none → c = 0) := by
  unfold lenA at h
  split at h <;> first | (cases h; done) | (simp only [Option.some.injEq] at h; subst h)
  · cases hv with
    | lst0 _ _ A m cap h0 hn hA => subst h0; subst hn; exact ⟨A, cap, rfl, by simp, hA⟩
    | lst _ _ ad m cap c hn hc hcap hsz h1 hr h => subst hn; exact ⟨_, cap, rfl, hc, by simp⟩
  · cases hv with
    | os _ _ _ _ _ ad m cap hn hb hc hcap hA hroom => subst hn; exact ⟨_, cap, rfl, hc, by simp⟩
  · cases hv with
    | oc _ _ _ _ _ cap ad hb hc hcap hA hroom => exact ⟨_, _, rfl, hc, by simp⟩
  · cases hv; exact ⟨_, _, rfl, by simp, by simp⟩
  · cases hv; exact ⟨_, _, rfl, by simp, by simp⟩
  · cases hv; exact ⟨_, _, rfl, by simp, by simp⟩

theorem snd_len {t e : TypeId} {x : Operand} (ho : o.op = .call { callee := .builtin .len, args := #[x], argTypes := #[t] }) (hu : P.underlying t = some (.slice e)) : Snd P o (.len x) := by
  intro w0 K h nx env a out h' nx' g he hev
  simp only [opEv] at hev
  split at hev
  · rename_i y hy
    split at hev
    · rename_i n hn
      cases hev
      have hv := oev_sound he hy
      generalize hcx : a.eval x = cx at hv
      obtain ⟨A, c, rfl, _, _⟩ := lenA_sound hn hv
      exact snd_val g (v := .int .i64 n) (by simp [execOp, ho, hcx, resolve, invoke, builtin, Builtin.len_, run_underlying hu, goInt]) (.int _ _)
    · cases hev
  · cases hev

theorem snd_lens {t : TypeId} {x : Operand} (ho : o.op = .call { callee := .builtin .len, args := #[x], argTypes := #[t] }) (hu : P.underlying t = some .string) : Snd P o (.lens x) := by
  intro w0 K h nx env a out h' nx' g he hev
  simp only [opEv] at hev
  split at hev
  · rename_i s hy
    cases hev
    have hv := oev_sound he hy
    generalize hcx : a.eval x = cx at hv
    cases hv with
    | str _ q hq =>
      have : s.length = q.size := by rw [← hq, Array.length_toList]; rfl
      rw [this]
      exact snd_val g (v := .int .i64 q.size) (by simp [execOp, ho, hcx, resolve, invoke, builtin, Builtin.len_, run_underlying hu, goInt]) (.int _ _)
  · cases hev

theorem snd_mn {ts : Array TypeId} {x y : Operand} (ho : o.op = .call { callee := .builtin .min, args := #[x, y], argTypes := ts }) : Snd P o (.mn x y) := by
  intro w0 K h nx env a out h' nx' g he hev
  simp only [opEv] at hev
  split at hev
  · rename_i k p k' q hx hy
    split at hev
    · rename_i hk; subst hk
      cases hev
      have hvx := oev_sound he hx
      have hvy := oev_sound he hy
      generalize hcx : a.eval x = cx at hvx
      generalize hcy : a.eval y = cy at hvy
      cases hvx; cases hvy
      exact snd_val g (v := .int k (if q < p then q else p)) (by simp [execOp, ho, hcx, hcy, resolve, invoke, builtin, Builtin.min_, Builtin.min2]) (.int _ _)
    · cases hev
  · cases hev

theorem snd_mx {ts : Array TypeId} {x y : Operand} (ho : o.op = .call { callee := .builtin .max, args := #[x, y], argTypes := ts }) : Snd P o (.mx x y) := by
  intro w0 K h nx env a out h' nx' g he hev
  simp only [opEv] at hev
  split at hev
  · rename_i k p k' q hx hy
    split at hev
    · rename_i hk; subst hk
      cases hev
      have hvx := oev_sound he hx
      have hvy := oev_sound he hy
      generalize hcx : a.eval x = cx at hvx
      generalize hcy : a.eval y = cy at hvy
      cases hvx; cases hvy
      exact snd_val g (v := .int k (if q > p then q else p)) (by simp [execOp, ho, hcx, hcy, resolve, invoke, builtin, Builtin.max_, Builtin.max2]) (.int _ _)
    · cases hev
  · cases hev

theorem snd_app {t e : TypeId} {i : TypeInfo} {z : Value} {s x : Operand} (ho : o.op = .call { callee := .builtin .append, args := #[s, x], argTypes := #[t, t] }) (ht : P.underlying t = some (.slice e)) (hi : P.info? e = some i) (hz : i.zero = some z)
    (hzs : z.cells.size = i.size) (hpos : 0 < i.size) : Snd P o (.app e i.size i.bytes s x) := by
  intro w0 K h nx env a out h' nx' g he hev
  simp only [opEv] at hev
  split at hev
  · rename_i s' x' hs hx
    split at hev
    · rename_i r h2 n2 hr
      cases hev
      obtain ⟨K', y, h1, h3, h4, h5⟩ := append_sound (P := P) (ty := o.type) g ht hi hz hzs hpos hr (oev_sound he hs) (oev_sound he hx)
      exact ⟨K', .value y, by simp [execOp, ho, resolve, invoke, builtin, h1], h3, h4, h5⟩
    · cases hev
  · cases hev

theorem snd_bad : Snd P o .bad := fun w0 K h nx env a out h' nx' g he hev => by simp [opEv] at hev
theorem snd_cap {t e : TypeId} {x : Operand} (ho : o.op = .call { callee := .builtin .cap, args := #[x], argTypes := #[t] }) (hu : P.underlying t = some (.slice e)) : Snd P o (.cap x) := by
  intro w0 K h nx env a out h' nx' g he hev
  simp only [opEv] at hev
  split at hev
  · rename_i hy
    cases hev
    have hv := oev_sound he hy
    generalize hcx : a.eval x = cx at hv
    cases hv
    exact snd_val g (v := .int .i64 0) (by simp [execOp, ho, hcx, resolve, invoke, builtin, Builtin.cap_, run_underlying hu, goInt]) (.int _ _)
  · rename_i hy
    cases hev
    have hv := oev_sound he hy
    generalize hcx : a.eval x = cx at hv
    cases hv
    exact snd_val g (v := .int .i64 0) (by simp [execOp, ho, hcx, resolve, invoke, builtin, Builtin.cap_, run_underlying hu, goInt]) (.int _ _)
  · rename_i cc hy
    cases hev
    have hv := oev_sound he hy
    generalize hcx : a.eval x = cx at hv
    cases hv
    exact snd_val g (v := .int .i64 cc) (by simp [execOp, ho, hcx, resolve, invoke, builtin, Builtin.cap_, run_underlying hu, goInt]) (.int _ _)
  · cases hev
theorem cr_rep {K : Wd} {nx : Nat} {z : List AV} {v : List Value} (h : CR K nx z v) : ∀ n, CR K nx (List.replicate n z).flatten (List.replicate n v).flatten
  | 0 => .nil _ _
  | n + 1 => by rw [List.replicate_succ, List.replicate_succ, List.flatten_cons, List.flatten_cons]; exact h.append (cr_rep h n)
/-- append(s, make([]T, n)...) beyond the capacity. -/
theorem run_append_grow_zeros {P : Program} (w : World) (t tn ty e : TypeId) (i : TypeInfo) (z : Value) (k kn : IntKind) (ht : P.underlying t = some (.slice e)) (htn : P.underlying tn = some (.int kn)) (hi : P.info? e = some i) (hz : i.zero = some z)
    (b : Addr) (sLen sCap : Nat) (olds : List Value) (hlo : olds.length = sLen * i.size) (holds : ∀ j v, olds[j]? = some v → w.cell? (b.add j) = some v)
    (n : Nat) (h0 : 0 < n) (hs : 0 < i.size) (hg : sCap < sLen + n) (h63 : ((sLen + n : Nat) : Int) ≤ 9223372036854775807) (h48 : n * i.bytes ≤ 281474976710656) (hfit : Builtin.nextslicecap (sLen + n) sCap * i.bytes ≤ 281474976710656) :
    (Builtin.append_ #[t, tn] ty #[.slice (some b) sLen sCap, .int k n]).run P w =
      .ok (.slice (some ⟨w.heap.size, 0, none⟩) (sLen + n) (grownCap w (sLen + n) sCap e)) (w.drew.alloc (.cells (olds.toArray ++ Builtin.zeroCells z.cells n ++ Builtin.zeroCells z.cells (grownCap w (sLen + n) sCap e - (sLen + n))) e)) := by
  have hn : n ≠ 0 := by omega
  have hw : IntKind.i64.wrap (n : Int) = n := by rw [IntKind.wrap_i64]; omega
  have hne : ¬ (sLen + n ≤ sCap) := by omega
  have h63' : ¬ (9223372036854775807 < ((sLen : Int) + (n : Int))) := by omega
  have h48' : ¬ (281474976710656 < Builtin.nextslicecap (sLen + n) sCap * i.bytes) := by omega
  have h48i : ¬ (281474976710656 < (n : Int) * (i.bytes : Int)) := by
    rw [← Int.natCast_mul]
    omega
  have hneg : ¬ ((n : Int) < 0) := by omega
  have hns : ¬ (n * i.size = 0) := Nat.mul_ne_zero hn (by omega)
  have hfo := run_firstCells_some (P := P) w.drew i.size sLen b sLen sCap olds hlo (by simpa using holds)
  simp [Builtin.append_, run_underlying ht, run_underlying htn, sizeOf, typeInfo, zeroValue, hi, hz, asInt, asIntOf, hw, hn, hneg, hne, hns, h63', h48', h48i, Question.forced, hfo, newRow, grownCap]
theorem snd_appZ {t tn e : TypeId} {i : TypeInfo} {kn : IntKind} {z : List AV} {s n : Operand} (ho : o.op = .call { callee := .builtin .append, args := #[s, n], argTypes := #[t, tn] }) (ht : P.underlying t = some (.slice e)) (htn : P.underlying tn = some (.int kn)) (hi : P.info? e = some i)
    (hz : zeroT P e = some z) (hzl : z.length = P.cellsOf e) (hpos : 0 < i.size) : Snd P o (.appZ e z i.bytes s n) := by
  intro w0 K h nx env a out h' nx' g he hev
  simp only [opEv] at hev
  split at hev
  · rename_i kl l' hs hn
    split at hev
    · rename_i hcond
      cases hev
      obtain ⟨h0, hby, hmx⟩ := hcond
      obtain ⟨i', v, hi', hv, hzz, _⟩ := run_zeroT hz
      rw [hi] at hi'; injection hi' with hi'; subst hi'
      have hcr : CR K nx z v.cells.toList := CR.ofC hzz
      have hvl : v.cells.size = z.length := by have := hcr.len; simpa using this
      have hs' : i.size = z.length := by rw [hzl]; simp [Program.cellsOf, hi]
      have hvx := oev_sound he hs
      have hvy := oev_sound he hn
      generalize hcx : a.eval s = cx at hvx
      generalize hcy : a.eval n = cy at hvy
      cases hvx; cases hvy
      obtain ⟨m, rfl⟩ : ∃ m : Nat, l' = (m : Int) := ⟨l'.toNat, by omega⟩
      simp only [Int.toNat_natCast] at hby hmx ⊢
      have h63 : m ≤ 9223372036854775807 := by simp only [maxLen] at hmx; omega
      have hge := grownCap_ge K.w m 0 e
      have hcm := grownCap_le_maxLen K.w m 0 e hmx
      have hrun := Go.Lib.run_append_nil_zeros (P := P) K.w t tn o.type e i v kl kn ht htn hi hv m (by omega) hpos (by omega) (by omega)
      obtain ⟨cap, hcapd⟩ : ∃ cap, cap = grownCap K.w m 0 e := ⟨_, rfl⟩
      rw [← hcapd] at hge hcm hrun
      have gd : Good w0 { K with w := K.w.drew } h nx := g.drew (K.w.drawn + 1)
      have ed : Ext K nx { K with w := K.w.drew } nx := Ext.of_heap rfl
      obtain ⟨blk, hblk⟩ : ∃ blk, blk = Builtin.zeroCells v.cells m ++ Builtin.zeroCells v.cells (cap - m) := ⟨_, rfl⟩
      have hbs : blk.size = cap * z.length := by
        rw [hblk]; simp only [Array.size_append, size_zeroCells, hvl, ← Nat.add_mul]
        congr 1; omega
      have hrep : ∀ n, CR K nx (List.replicate n z).flatten (List.replicate n v.cells.toList).flatten := by
        intro n
        induction n with
        | zero => exact .nil _ _
        | succ n ih => rw [List.replicate_succ, List.replicate_succ, List.flatten_cons, List.flatten_cons]; exact hcr.append ih
      have hlen : ((List.replicate m z).flatten).length = m * z.length := by simp
      have hble : ((List.replicate m z).flatten).length ≤ blk.size := by rw [hlen, hbs]; exact Nat.mul_le_mul_right _ hge
      have hzc : (Builtin.zeroCells v.cells m).toList = (List.replicate m v.cells.toList).flatten := madeCells_rep (.inl (by omega))
      have htake : blk.toList.take ((List.replicate m z).flatten).length = (List.replicate m v.cells.toList).flatten := by
        rw [hlen, hblk, Array.toList_append, ← hvl, ← hzc]
        have : m * v.cells.size = (Builtin.zeroCells v.cells m).toList.length := by simp [size_zeroCells]
        rw [this]
        exact List.take_left
      have gn := new_sound (K := { K with w := K.w.drew }) gd (cs := (List.replicate m z).flatten) (c := blk) hble (by rw [htake]; exact (hrep _).mono ed) e
      refine ⟨Wd.alloc { K with w := K.w.drew } nx (.cells blk e (0, 0)), .value (.slice (some ⟨K.w.heap.size, 0, none⟩) m cap), ?_, ed.trans (Ext.alloc gd _), gn, ?_⟩
      · simp only [execOp, ho, Sem.run_bind, resolve, invoke, builtin, Sem.run_pure, Result.andThen_ok, List.map_toArray, List.map_cons, List.map_nil, hcx, hcy, hrun, ← hblk]
        rfl
      refine .os nx 0 e z.length m _ m cap rfl (by omega) hge hcm (fun _ => by simp [Wd.alloc]) ⟨blk, ?_, by omega⟩
      have hmn : (Wd.alloc { K with w := K.w.drew } nx (.cells blk e (0, 0))).m nx = K.w.heap.size := by simp [Wd.alloc]
      rw [hmn]
      exact alloc_new K.w.drew _
    · cases hev
  · rename_i b off e' sz' len cap kl l' hs hn
    split at hev
    · rename_i cs hb
      split at hev
      · rename_i hcond
        cases hev
        obtain ⟨rfl, rfl, rfl, h0, hgr, hcl, hby, hmx⟩ := hcond
        obtain ⟨i', v, hi', hv, hzz, _⟩ := run_zeroT hz
        rw [hi] at hi'; injection hi' with hi'; subst hi'
        have hcr : CR K nx z v.cells.toList := CR.ofC hzz
        have hvl : v.cells.size = z.length := by have := hcr.len; simpa using this
        have hs' : i.size = z.length := by rw [hzl]; simp [Program.cellsOf, hi]
        have hvx := oev_sound he hs
        have hvy := oev_sound he hn
        generalize hcx : a.eval s = cx at hvx
        generalize hcy : a.eval n = cy at hvy
        cases hvy
        obtain ⟨m, rfl⟩ : ∃ m : Nat, l' = (m : Int) := ⟨l'.toNat, by omega⟩
        simp only [Int.toNat_natCast] at hby hmx ⊢
        cases hvx with
        | oc _ _ _ _ _ _ ad hlt hnc hcap hA hroom =>
          obtain ⟨c, hrow, hsize⟩ := hroom
          simp only [Nat.zero_add] at hsize
          obtain ⟨l1, l2, l3, ob, l4, l5⟩ := g.live b _ hb
          rw [hrow] at l4; injection l4 with l4; subst l4
          cases l5 with
          | cells _ _ _ hs1 h1 hcc =>
            have hcr0 : CR K nx (cs.take (len * z.length)) (c.toList.take (len * z.length)) := by
              have : CR K nx cs (c.toList.take cs.length) := ⟨by simp; omega, h1, fun i x v hx hv => by
                have hi : i < cs.length := (List.getElem?_eq_some_iff.1 hx).1
                exact hcc i x v hx (by simpa [List.getElem?_take, hi] using hv)⟩
              have := this.take (len * z.length)
              rw [List.take_take, Nat.min_eq_left hcl] at this
              exact this
            have hlo : (c.toList.take (len * z.length)).length = len * i.size := by rw [hs']; simp; omega
            have hold : ∀ (j : Nat) (v : Value), (c.toList.take (len * z.length))[j]? = some v → K.w.cell? (ad.add j) = some v := by
              intro j v hv
              rcases Nat.eq_zero_or_pos cap with h0' | h0'
              · have : (c.toList.take (len * z.length))[j]? = none := by
                  apply List.getElem?_eq_none
                  rw [hlo]
                  have : len = 0 := by omega
                  rw [this]; omega
                rw [this] at hv; cases hv
              · have ha := hA h0'; subst ha
                rw [add_eq, cell_row hrow]
                rw [List.getElem?_take] at hv
                split at hv
                · simpa using hv
                · cases hv
            have hge := grownCap_ge K.w (len + m) cap e'
            have hcm := grownCap_le_maxLen K.w (len + m) cap e' hmx
            have h63 : len + m ≤ 9223372036854775807 := by simp only [maxLen] at hmx; omega
            have hmb : m * i.bytes ≤ 281474976710656 := by
              have : m * i.bytes ≤ (len + m) * i.bytes := Nat.mul_le_mul_right _ (by omega)
              omega
            obtain ⟨cap2, hcapd⟩ : ∃ cap2, cap2 = grownCap K.w (len + m) cap e' := ⟨_, rfl⟩
            have hrun := run_append_grow_zeros (P := P) K.w t tn o.type e' i v kl kn ht htn hi hv ad len cap _ hlo hold m (by omega) hpos (by omega) (by omega) hmb (growslice_fits (by omega) hby)
            rw [← hcapd] at hge hcm hrun
            have gd : Good w0 { K with w := K.w.drew } h nx := g.drew (K.w.drawn + 1)
            have ed : Ext K nx { K with w := K.w.drew } nx := Ext.of_heap rfl
            obtain ⟨blk, hblk⟩ : ∃ blk, blk = (c.toList.take (len * z.length)).toArray ++ Builtin.zeroCells v.cells m ++ Builtin.zeroCells v.cells (cap2 - (len + m)) := ⟨_, rfl⟩
            have hbs : blk.size = cap2 * z.length := by
              rw [hblk]; simp only [Array.size_append, List.size_toArray, size_zeroCells, hvl, hlo, hs', ← Nat.add_mul]
              congr 1; omega
            have hl1 : (cs.take (len * z.length) ++ (List.replicate m z).flatten).length = (len + m) * z.length := by
              rw [List.length_append, List.length_take, Nat.min_eq_left hcl, Nat.add_mul]; simp
            have hble : (cs.take (len * z.length) ++ (List.replicate m z).flatten).length ≤ blk.size := by rw [hl1, hbs]; exact Nat.mul_le_mul_right _ hge
            have hzc : (Builtin.zeroCells v.cells m).toList = (List.replicate m v.cells.toList).flatten := madeCells_rep (.inl (by omega))
            have htake : blk.toList.take (cs.take (len * z.length) ++ (List.replicate m z).flatten).length = c.toList.take (len * z.length) ++ (List.replicate m v.cells.toList).flatten := by
              have hl0 : (cs.take (len * z.length) ++ (List.replicate m z).flatten).length = (c.toList.take (len * z.length) ++ (List.replicate m v.cells.toList).flatten).length := by
                have hzl2 : (Builtin.zeroCells v.cells m).toList.length = m * v.cells.size := by simp [size_zeroCells]
                rw [hl1, List.length_append, hlo, ← hzc, hzl2, hvl, hs', Nat.add_mul]
              rw [hl0, hblk, Array.toList_append, Array.toList_append, ← hzc]
              exact List.take_left
            have gn := new_sound (K := { K with w := K.w.drew }) gd (cs := cs.take (len * z.length) ++ (List.replicate m z).flatten) (c := blk) hble (by rw [htake]; exact (hcr0.append (cr_rep hcr m)).mono ed) e'
            refine ⟨Wd.alloc { K with w := K.w.drew } nx (.cells blk e' (0, 0)), .value (.slice (some ⟨K.w.heap.size, 0, none⟩) (len + m) cap2), ?_, ed.trans (Ext.alloc gd _), gn, ?_⟩
            · simp only [execOp, ho, Sem.run_bind, resolve, invoke, builtin, Sem.run_pure, Result.andThen_ok, List.map_toArray, List.map_cons, List.map_nil, hcx, hcy, hrun, ← hblk]
              rfl
            refine .os nx 0 e' z.length (len + m) _ (len + m) cap2 rfl (by omega) hge hcm (fun _ => by simp [Wd.alloc]) ⟨blk, ?_, by omega⟩
            have hmn : (Wd.alloc { K with w := K.w.drew } nx (.cells blk e' (0, 0))).m nx = K.w.heap.size := by simp [Wd.alloc]
            rw [hmn]
            exact alloc_new K.w.drew _
      · cases hev
    · cases hev
  · cases hev

theorem srcCells_sound {w0 : World} {K : Wd} {h : Heap} {nx : Nat} (g : Good w0 K h nx) {x : AV} {k sz most : Nat} {cs : List AV} (hx : srcCells sz h x most = some (k, cs)) (hk : 0 < k) {v : Value} (hv : VR K nx x v) :
    ∃ a m cap c, v = .slice (some a) m cap ∧ k = min m most ∧ CR K nx cs c ∧ cs.length = k * sz ∧ ∀ (j : Nat) (u : Value), c[j]? = some u → K.w.cell? (a.add j) = some u := by
  unfold srcCells at hx
  split at hx
  · rename_i b off e s m cap
    split at hx
    · rename_i cs0 hb
      split at hx
      · rename_i hcond
        obtain ⟨rfl, hle⟩ := hcond
        simp only [Option.some.injEq, Prod.mk.injEq] at hx; obtain ⟨rfl, rfl⟩ := hx
        cases hv with
        | oc _ _ _ _ _ _ a hlt hc hcap hA hroom =>
          obtain ⟨_, _, _, ob, hob, hor⟩ := g.live b _ hb
          cases hor with
          | cells _ c e' hs h1 hcc =>
            have hcr0 : CR K nx cs0 (c.toList.take cs0.length) := ⟨by simp; omega, h1, fun i x v hx hv => by
              have hi : i < cs0.length := (List.getElem?_eq_some_iff.1 hx).1
              exact hcc i x v hx (by simpa [List.getElem?_take, hi] using hv)⟩
            refine ⟨a, m, cap, _, rfl, rfl, (hcr0.drop off).take (min m most * s), by simp; omega, fun j u hu => ?_⟩
            have ha := hA (by omega)
            subst ha
            rw [add_eq, cell_row hob]
            rw [List.getElem?_take] at hu
            split at hu
            · rw [List.getElem?_drop, List.getElem?_take] at hu
              split at hu
              · simpa using hu
              · cases hu
            · cases hu
      · cases hx
    · cases hx
  · split at hx
    · rename_i m news hsl
      split at hx
      · rename_i hss
        simp only [Option.some.injEq, Prod.mk.injEq] at hx; obtain ⟨rfl, rfl⟩ := hx
        obtain ⟨B, c', nv, rfl, hmc, hmm, hcr, hnl, hcell, _⟩ := sliceCells_sound g hsl hss hv
        obtain ⟨ax, rfl, hc⟩ := hcell (by omega)
        have hkm : min m most * sz ≤ m * sz := Nat.mul_le_mul_right _ (Nat.min_le_left _ _)
        exact ⟨ax, m, c', _, rfl, rfl, hcr.take _, by rw [List.length_take, hnl]; omega, fun j u hu => hc j u (by
          rw [List.getElem?_take] at hu
          split at hu
          · exact hu
          · cases hu)⟩
      · cases hx
    · cases hx
theorem snd_copy {t e : TypeId} {i : TypeInfo} {d x : Operand} (ho : o.op = .call { callee := .builtin .copy, args := #[d, x], argTypes := #[t, t] }) (ht : P.underlying t = some (.slice e)) (hi : P.info? e = some i) : Snd P o (.copy i.size d x) := by
  intro w0 K h nx env a out h' nx' g he hev
  simp only [opEv] at hev
  split at hev
  case h_2 => cases hev
  rename_i yd yx hyd hyx
  split at hev
  case h_2 => cases hev
  rename_i k h2 hcp
  cases hev
  have hvd := oev_sound he hyd
  have hvx := oev_sound he hyx
  generalize hcd : a.eval d = cd at hvd
  generalize hcx : a.eval x = cx at hvx
  have key : ∀ (b off dl cap k : Nat) (ad : Addr) (cs news : List AV), srcCells i.size h yx dl = some (k, news) → hget h b = some (.cells cs) → (0 < dl → ad = ⟨K.m b, off, none⟩) → off ≤ cs.length → (∀ c e, K.w.heap[K.m b]? = some (.cells c e (0, 0)) → off + k * i.size ≤ c.size) → 0 < k → cd = .slice (some ad) dl cap →
      ∃ K' r, (execOp a.eval o).run P K.w = .ok r K'.w ∧ Ext K nx K' nx ∧ Good w0 K' (hset h b (.cells (splice cs off news))) nx ∧ outR K' nx (.val (.int .i64 (k : Int))) r := by
    intro b off dl cap k ad cs news hsrc hb hA hle hfit hk hcd'
    obtain ⟨ax, m, c', nv, hcx', hkk, hcr, hnl, hc⟩ := srcCells_sound g hsrc hk hvx
    have ha := hA (by omega); subst ha
    have hf := run_firstCells_some (P := P) K.w i.size k ax m c' nv (by rw [hcr.len, hnl]) hc
    obtain ⟨K', hst, hext, hg⟩ := write_sound2 (P := P) g hb (off := off) (xs := news) hle (fun c e hr => by rw [hnl]; exact hfit c e hr) hcr
    refine ⟨K', .value (.int .i64 (k : Int)), ?_, hext, hg, .int _ _⟩
    have hmin : Nat.min m dl = k := hkk.symm
    simp [execOp, ho, resolve, invoke, builtin, hcd, hcx, hcd', hcx', Builtin.copy_, run_underlying ht, Builtin.lenOf, hmin, sizeOf, typeInfo, hi, hf, hst, goInt]
  unfold copyA at hcp
  split at hcp
  · rename_i b off e' s dl
    split at hcp
    · rename_i k news cs hsrc hb
      split at hcp
      · rename_i hcond
        obtain ⟨rfl, hle, hk⟩ := hcond
        simp only [Option.some.injEq, Prod.mk.injEq] at hcp; obtain ⟨rfl, rfl⟩ := hcp
        cases hvd with
        | os _ _ _ _ _ ad n cap hn hlt hnc hcap hA hroom =>
          subst hn
          refine key b off n cap k ad cs news hsrc hb (fun h => hA (by omega)) (by omega) (fun c e hr => ?_) hk rfl
          obtain ⟨_, _, _, ob, hob, hor⟩ := g.live b _ hb
          rw [hr] at hob; injection hob with hob; subst hob
          cases hor with
          | cells _ _ _ hs _ _ => omega
      · cases hcp
    · cases hcp
  · rename_i b off e' s dl cap
    split at hcp
    · rename_i k news cs hsrc hb
      split at hcp
      · rename_i hcond
        obtain ⟨rfl, hle, hk⟩ := hcond
        simp only [Option.some.injEq, Prod.mk.injEq] at hcp; obtain ⟨rfl, rfl⟩ := hcp
        cases hvd with
        | oc _ _ _ _ _ _ ad hlt hnc hcap hA hroom =>
          refine key b off dl cap k ad cs news hsrc hb (fun h => hA (by omega)) hle (fun c e hr => ?_) hk rfl
          obtain ⟨c1, hr1, hsz⟩ := hroom
          rw [hr] at hr1; injection hr1 with hr1; injection hr1 with hr1 _; subst hr1
          obtain ⟨ax, m, c', nv, hcx', hkk, hcr, hnl, hc⟩ := srcCells_sound g hsrc hk hvx
          have : k * i.size ≤ cap * i.size := Nat.mul_le_mul_right _ (by omega)
          omega
      · cases hcp
    · cases hcp
  · cases hcp

theorem snd_clear {t e : TypeId} {z : List AV} {x : Operand} (ho : o.op = .call { callee := .builtin .clear, args := #[x], argTypes := #[t] }) (ht : P.underlying t = some (.slice e)) (hz : zeroT P e = some z) : Snd P o (.clear z x) := by
  intro w0 K h nx env a out h' nx' g he hev
  simp only [opEv] at hev
  split at hev
  case h_2 => cases hev
  rename_i yx hyx
  split at hev
  case h_2 => cases hev
  rename_i h2 hcp
  cases hev
  have hvx := oev_sound he hyx
  generalize hcx : a.eval x = cx at hvx
  obtain ⟨i, v, hi, hv, hzz, _⟩ := run_zeroT hz
  have hcr : CR K nx z v.cells.toList := CR.ofC hzz
  unfold clearA at hcp
  split at hcp
  · rename_i b off e' s n cap
    split at hcp
    · rename_i cs hb
      split at hcp
      · rename_i hcond
        obtain ⟨rfl, hn, hzp, hle⟩ := hcond
        have hvl : v.cells.size = z.length := by have := hcr.len; simpa using this
        simp only [Option.some.injEq] at hcp; subst hcp
        cases hvx with
        | oc _ _ _ _ _ _ ad hlt hnc hcap hA hroom =>
          have ha := hA (by omega); subst ha
          have hzc : (Builtin.zeroCells v.cells n).toList = (List.replicate n v.cells.toList).flatten := madeCells_rep (.inl (by omega))
          obtain ⟨K', hst, hext, hg⟩ := write_sound (P := P) g hb (off := off) (xs := (List.replicate n z).flatten) (by simpa using hle) (cr_rep hcr n)
          rw [← hzc] at hst
          refine ⟨K', .value (.tuple #[]), ?_, hext, hg, .tup _ _ (by simp) (by simp)⟩
          obtain ⟨q, rfl⟩ : ∃ q, n = q + 1 := ⟨n - 1, by omega⟩
          simp [execOp, ho, resolve, invoke, builtin, hcx, Builtin.clear_, run_underlying ht, zeroValue, typeInfo, hi, hv, hst]
      · cases hcp
    · cases hcp
  · cases hcp

theorem ovl_find {fn : Func} (h0 : fn.origin = "slices.overlaps") (h1 : Extern.allGenericRows.lookup fn.name = none) (h2 : Extern.allTypedRows.lookup fn.name = none) (h3 : Extern.allRows.lookup fn.name = none) : Extern.find fn = some (Extern.SlicesOverlaps.overlaps fn.params fn.resultTypes) := by
  have e1 : Extern.allGenericRows.lookup "slices.overlaps" = none := by kernel_rfl
  have e2 : Extern.allTypedRows.lookup "slices.overlaps" = some Extern.SlicesOverlaps.overlaps := by kernel_rfl
  simp only [Extern.find, h0, h1, h2, h3, e1, e2]
  rfl
theorem ovl_findNext {fn : Func} (h0 : fn.origin = "slices.overlaps") (h1 : Extern.allNextRows.lookup fn.name = none) : Extern.findNext fn = none := by
  have e1 : Extern.allNextRows.lookup "slices.overlaps" = none := by kernel_rfl
  simp only [Extern.findNext, h0, h1, e1]
  rfl
theorem slBlk_sound {K : Wd} {nx : Nat} {x : AV} {b : Nat} (h : slBlk x = some b) {v : Value} (hv : VR K nx x v) : ∃ off n cap e c, v = .slice (some ⟨K.m b, off, none⟩) n cap ∧ K.w.heap[K.m b]? = some (.cells c e (0, 0)) ∧ c.size ≠ 0 := by
  unfold slBlk at h
  split at h
  · split at h
    · rename_i hc
      cases h
      cases hv with
      | os _ off e sz n a n' cap hn hb hnc hcap hA hroom =>
        obtain ⟨c, h1, h2⟩ := hroom
        have ha := hA (by omega); subst ha
        refine ⟨_, _, _, _, c, rfl, h1, ?_⟩
        have : 0 < cap * _ := Nat.mul_pos (show 0 < cap by omega) hc.1
        omega
    · cases h
  · split at h
    · rename_i hc
      cases h
      cases hv with
      | oc _ _ _ _ _ _ a hb hnc hcap hA hroom =>
        rename_i cap0
        obtain ⟨c, h1, h2⟩ := hroom
        have ha := hA (by omega); subst ha
        refine ⟨_, _, _, _, c, rfl, h1, ?_⟩
        have : 0 < cap0 * _ := Nat.mul_pos (show 0 < cap0 by omega) hc.1
        omega
    · cases h
  · cases h
theorem snd_ovl {f : FuncId} {x y : Operand} {tys : Array TypeId} (ho : o.op = .call { callee := .value (.func f), args := #[x, y], argTypes := tys }) (hf : isOvl P f = true) : Snd P o (.ovl x y) := by
  intro w0 K h nx env a out h' nx' g he hev
  simp only [opEv] at hev
  split at hev
  case h_2 => cases hev
  rename_i yx yy hyx hyy
  split at hev
  case isFalse => cases hev
  rename_i hov
  cases hev
  have hvx := oev_sound he hyx
  have hvy := oev_sound he hyy
  generalize hcx : a.eval x = cx at hvx
  generalize hcy : a.eval y = cy at hvy
  unfold ovA at hov
  split at hov
  case h_2 => cases hov
  rename_i b b' hb hb'
  simp only [Bool.and_eq_true, bne_iff_ne, ne_eq] at hov
  obtain ⟨hne, hov⟩ := hov
  split at hov
  case h_2 => cases hov
  rename_i c1 c2 hg1 hg2
  obtain ⟨off, n, cap, e, c, rfl, hr, _⟩ := slBlk_sound hb hvx
  obtain ⟨off', n', cap', e', c', rfl, hr', hsz'⟩ := slBlk_sound hb' hvy
  have hmne : K.m b ≠ K.m b' := fun hh => hne (g.inj b b' _ _ hg1 hg2 hh)
  unfold isOvl at hf
  split at hf
  case h_2 => cases hf
  rename_i fn hfn
  simp only [Bool.and_eq_true, Bool.not_eq_true', Option.isNone_iff_eq_none, beq_iff_eq] at hf
  obtain ⟨⟨⟨⟨⟨⟨⟨f1, f2⟩, f3⟩, f4⟩, f5⟩, f6⟩, f7⟩, f8⟩ := hf
  split at f8
  case h_2 => cases f8
  rename_i t t' tr hp hr1
  simp only [Bool.and_eq_true, beq_iff_eq] at f8
  obtain ⟨rfl, f8⟩ := f8
  split at f8
  case h_2 => cases f8
  rename_i el hel
  obtain ⟨ie, hie⟩ := Option.isSome_iff_exists.1 f8
  have hpar : fn.params = #[t, t] := by rw [← Array.toArray_toList (xs := fn.params), hp]
  have hres : fn.resultTypes = #[tr] := by rw [← Array.toArray_toList (xs := fn.resultTypes), hr1]
  have hrun := run_callFunc_extern (P := P) hfn (by simpa using f2) (by simp [f1]) (ovl_findNext f7 f3) (ovl_find f7 f4 f5 f6) #[.slice (some ⟨K.m b, off, none⟩) n cap, .slice (some ⟨K.m b', off', none⟩) n' cap'] K.w
  rw [hpar, hres, Go.Lib.run_overlaps_apart K.w t tr el hel ie.size (fun w => by simp [sizeOf, typeInfo, hie]) ⟨K.m b, off, none⟩ ⟨K.m b', off', none⟩ n cap n' cap' hmne e e' c.size c'.size (by simp [World.shape?, hr]) (by simp [World.shape?, hr']) hsz' (by simp [World.frozen?, hr]) (by simp [World.frozen?, hr])] at hrun
  refine snd_val g (v := .bool false) ?_ (.bool _)
  simp only [execOp, ho, Sem.run_bind, resolve, Act.eval, Deferred.ofValue, Sem.run_pure, Result.andThen_ok, invoke]
  have he2 : (#[] : Array Value) ++ (#[x, y] : Array Operand).map a.eval ++ #[] = #[.slice (some ⟨K.m b, off, none⟩) n cap, .slice (some ⟨K.m b', off', none⟩) n' cap'] := by simp [hcx, hcy]
  simp [hcx, hcy, hrun, Result.andThen]

theorem bnd_sound {K : Wd} {nx : Nat} {env : Env} {a : Act} (he : EnvR K nx env a.tmps) {x : Option Operand} {d n : Nat} (h : bnd env x d = some n) : (x = none ∧ n = d) ∨ ∃ y k, x = some y ∧ a.eval y = .int k (n : Int) := by
  unfold bnd at h
  split at h
  · simp only [Option.some.injEq] at h; exact .inl ⟨rfl, h.symm⟩
  · rename_i y
    split at h
    · rename_i k m hm
      split at h
      · rename_i h0
        simp only [Option.some.injEq] at h
        have hv := oev_sound he hm
        generalize hcx : a.eval y = cx at hv
        cases hv
        exact .inr ⟨y, k, rfl, by rw [hcx, ← h]; congr 1; omega⟩
      · cases h
    · cases h

theorem snd_slc {t e : TypeId} {d : TypeDesc} {x : Operand} {lo hi mx : Option Operand} (ho : o.op = .slice t x lo hi mx) (hu : P.underlying t = some (.slice e)) (hd : P.underlying e = some d) (hmx : mx ≠ none → hi ≠ none) : Snd P o (.slc (sizeT P e) x lo hi mx) := by
  intro w0 K h nx env a out h' nx' g he hev
  simp only [opEv] at hev
  split at hev
  case h_2 => cases hev
  rename_i y hy
  split at hev
  case h_2 => cases hev
  rename_i n hn
  split at hev
  case h_2 => cases hev
  rename_i l hh hl hhh
  have hv := oev_sound he hy
  generalize hcx : a.eval x = cx at hv
  obtain ⟨A, c, rfl, hnc, hAc⟩ := lenA_sound hn hv
  have helem : P.elem t = e := by simp [Program.elem, hu]
  have hu' : P.underlying t = some (.slice (P.elem t)) := by rw [helem]; exact hu
  -- the run, once the bounds are known
  have key : ∀ (m : Nat) (om : Option Nat), l ≤ hh → hh ≤ m → (om = none → m = c ∧ hh ≤ c) → (∀ q, om = some q → q = m ∧ m ≤ c) → ((mx = none ∧ om = none) ∨ (∃ z k, mx = some z ∧ a.eval z = .int k (m : Int) ∧ om = some m)) → (∀ q, om = some q → hi ≠ none) →
      (execOp a.eval o).run P K.w = .ok (.value (sliced A l hh m (sizeT P e))) K.w := by
    intro m om h1 h2 h3 h4 h5 h6
    have hsl : (Instr.sliceBounds true n c (lo.map a.eval) (hi.map a.eval) (mx.map a.eval)).run P K.w = .ok (l, hh, m) K.w := by
      have hlo := bnd_sound he hl
      have hhi := bnd_sound he hhh
      rcases h5 with ⟨rfl, rfl⟩ | ⟨z, k, rfl, hz, rfl⟩
      · obtain ⟨rfl, hc⟩ := h3 rfl
        rcases hlo with ⟨rfl, rfl⟩ | ⟨y1, k1, rfl, e1⟩ <;> rcases hhi with ⟨rfl, rfl⟩ | ⟨y2, k2, rfl, e2⟩ <;> simp [Instr.sliceBounds, run_sliceBound, *]
      · have hmc := (h4 m rfl).2
        have hhn := h6 m rfl
        rcases hlo with ⟨rfl, rfl⟩ | ⟨y1, k1, rfl, e1⟩ <;> rcases hhi with ⟨rfl, rfl⟩ | ⟨y2, k2, rfl, e2⟩ <;> first | exact absurd rfl hhn | simp [Instr.sliceBounds, run_sliceBound, *]
    simp only [execOp, ho, Sem.run_bind, hcx, run_sliceAt_slice K.w t _ _ _ _ hu', run_slice_any K.w t A n c hu', hsl, helem, run_sizeT hd, Result.andThen_ok, Sem.run_pure]
  -- a part of a frozen slice
  have frozen : ∀ (s : Nat) (es : List (List AV)) (m : Nat), y = .lst s es → l ≤ hh → hh ≤ es.length → s = sizeT P e → hh ≤ m → m ≤ c → VR K nx (.lst s ((es.take hh).drop l)) (sliced A l hh m (sizeT P e)) := by
    intro s es m hy' h1 h2 h3 h4 h5
    subst hy'; subst h3
    by_cases hem : l = hh
    · subst hem
      refine .lst0 _ _ _ _ _ (by simp) (by omega) ?_
      intro hA
      split at hA
      · omega
      · cases A with
        | none => have := hAc rfl; omega
        | some a => simp at hA
    · cases hv with
      | lst0 _ _ A m' cap h0' hn' hA => subst h0'; simp at h2; omega
      | lst _ _ ad m' cap cf hn' hc hcap hsz h1' hrr h' =>
        have hne : ¬ m = l := by omega
        simp only [sliced, if_neg hne, Option.map_some]
        have hget : ∀ (i : Nat) (e0 : List AV), ((es.take hh).drop l)[i]? = some e0 → es[l + i]? = some e0 ∧ l + i < hh := by
          intro i e0 hi0
          rw [List.getElem?_drop, List.getElem?_take] at hi0
          split at hi0
          · rename_i hlt; exact ⟨hi0, hlt⟩
          · cases hi0
        refine .lst _ _ _ _ _ (fun k => cf (l * sizeT P e + k)) (by simp; omega) (by omega) (by omega) (fun i e0 he0 => hsz _ _ (hget i e0 he0).1) (fun i e0 he0 j x hx => h1' _ _ (hget i e0 he0).1 j x hx) (fun k hk => ?_) (fun i e0 he0 j x hx => ?_)
        · have e1 : (ad.add (l * sizeT P e)).add k = ad.add (l * sizeT P e + k) := by
            unfold Addr.add
            by_cases h1 : l * sizeT P e = 0 <;> by_cases h2 : k = 0 <;> simp [h1, h2, Nat.add_assoc]
          rw [e1]
          refine hrr _ ?_
          have : l * sizeT P e + (hh - l) * sizeT P e = hh * sizeT P e := by rw [← Nat.add_mul]; congr 1; omega
          have : hh * sizeT P e ≤ n * sizeT P e := Nat.mul_le_mul_right _ (by omega)
          omega
        · have := h' _ _ (hget i e0 he0).1 j x hx
          have e2 : (l + i) * sizeT P e + j = l * sizeT P e + (i * sizeT P e + j) := by rw [Nat.add_mul, Nat.add_assoc]
          rw [e2] at this
          exact this
  cases hmxc : mx with
  | none =>
    rw [hmxc] at hev
    simp only at hev
    split at hev
    · rename_i r hr
      cases hev
      have hk := fun h1 h2 => key c none h1 h2 (fun _ => ⟨rfl, h2⟩) (fun q hq => by cases hq) (.inl ⟨hmxc, rfl⟩) (fun q hq => by cases hq)
      unfold slcA at hr
      split at hr
      · rename_i s es _
        split at hr
        · rename_i hc
          cases hr
          have hn' : n = es.length := by simpa [lenA] using hn.symm
          exact snd_val g (hk hc.1 (by omega)) (frozen s es c rfl hc.1 hc.2.1 hc.2.2 (by omega) (Nat.le_refl _))
        · cases hr
      · contradiction
      · rename_i b off e' s len _
        split at hr
        · rename_i hc
          obtain ⟨h1, h2, rfl⟩ := hc
          cases hr
          have hn' : n = len := by simpa [lenA] using hn.symm
          subst hn'
          cases hv with
          | os _ _ _ _ _ ad m cap hn' hb hc hcap hA hroom =>
            obtain ⟨blk, hb1, hb2⟩ := hroom
            refine snd_val g (hk h1 (by omega)) ?_
            have hsl : sliced (some ad) l hh c (sizeT P e) = .slice (some (if c = l then ad else ad.add (l * sizeT P e))) (hh - l) (c - l) := by
              unfold sliced; split <;> rfl
            rw [hsl]
            refine .os b _ _ _ _ _ _ _ rfl hb (by omega) (by omega) (fun h0 => ?_) ⟨blk, hb1, ?_⟩
            · rw [if_neg (by omega), hA (by omega), add_eq]
            · have : l * sizeT P e + (c - l) * sizeT P e = c * sizeT P e := by rw [← Nat.add_mul]; congr 1; omega
              omega
        · cases hr
      · contradiction
      · rename_i b off e' s len cap _
        split at hr
        · rename_i hc
          obtain ⟨h1, h2, rfl⟩ := hc
          cases hr
          cases hv with
          | oc _ _ _ _ _ _ ad hb hc hcap hA hroom =>
            obtain ⟨blk, hb1, hb2⟩ := hroom
            refine snd_val g (hk h1 (by omega)) ?_
            have hsl : sliced (some ad) l hh c (sizeT P e) = .slice (some (if c = l then ad else ad.add (l * sizeT P e))) (hh - l) (c - l) := by
              unfold sliced; split <;> rfl
            rw [hsl]
            refine .oc b _ _ _ _ _ _ hb (by omega) (by omega) (fun h0 => ?_) ⟨blk, hb1, ?_⟩
            · rw [if_neg (by omega), hA (by omega), add_eq]
            · have : l * sizeT P e + (c - l) * sizeT P e = c * sizeT P e := by rw [← Nat.add_mul]; congr 1; omega
              omega
        · cases hr
      · contradiction
      · split at hr
        · rename_i hc
          cases hr
          obtain ⟨rfl, rfl⟩ := hc
          cases hv
          exact snd_val g (hk (by omega) (by omega)) .nilS
        · cases hr
      · contradiction
      · split at hr
        · rename_i hc
          cases hr
          obtain ⟨rfl, rfl⟩ := hc
          cases hv
          exact snd_val g (hk (by omega) (by omega)) (.emp _)
        · cases hr
      · contradiction
      · cases hr
    · cases hev
  | some mo =>
    rw [hmxc] at hev
    simp only at hev
    split at hev
    · rename_i m hm
      split at hev
      · rename_i r hr
        cases hev
        have hmv : ∃ z k, mx = some z ∧ a.eval z = .int k (m : Int) ∧ some m = some m := by
          rcases bnd_sound he hm with ⟨h, _⟩ | ⟨y, k, h, h2⟩
          · cases h
          · cases h; exact ⟨_, k, hmxc, h2, rfl⟩
        have hk := fun h1 h2 h3 => key m (some m) h1 h2 (fun h => by cases h) (fun q hq => by cases hq; exact ⟨rfl, h3⟩) (.inr hmv) (fun _ _ => hmx (by rw [hmxc]; simp))
        have hzz : l = hh → hh = m → m ≤ c → VR K nx .emp (sliced A l hh m (sizeT P e)) := by
          intro h1 h2 h3
          subst h1; subst h2
          simp only [sliced, if_true, Nat.sub_self]
          exact .emp A
        unfold slcA at hr
        split at hr
        · contradiction
        · rename_i s es m' heq
          cases heq
          split at hr
          · rename_i hc
            have hn' : n = es.length := by simpa [lenA] using hn.symm
            split at hr
            · cases hr
              exact snd_val g (hk hc.1 hc.2.1 (by omega)) (hzz (by omega) (by omega) (by omega))
            · cases hr
              exact snd_val g (hk hc.1 hc.2.1 (by omega)) (frozen s es m rfl hc.1 (by omega) hc.2.2.2 hc.2.1 (by omega))
          · cases hr
        · contradiction
        · rename_i b off e' s len m' heq
          cases heq
          split at hr
          · rename_i hc
            cases hr
            have hn' : n = len := by simpa [lenA] using hn.symm
            exact snd_val g (hk (by omega) (by omega) (by omega)) (hzz (by omega) (by omega) (by omega))
          · cases hr
        · contradiction
        · rename_i b off e' s len cap m' heq
          cases heq
          split at hr
          · rename_i hc
            cases hr
            cases hv with
            | oc _ _ _ _ _ _ ad hb hc' hcap hA hroom =>
              exact snd_val g (hk (by omega) (by omega) (by omega)) (.any _ (by unfold sliced; split <;> rfl))
          · cases hr
        · contradiction
        · rename_i m' heq
          cases heq
          split at hr
          · rename_i hc
            cases hr
            obtain ⟨rfl, rfl, rfl⟩ := hc
            cases hv
            exact snd_val g (hk (by omega) (by omega) (by omega)) (by simp only [sliced, if_true, Nat.sub_self]; exact .nilS)
          · cases hr
        · contradiction
        · rename_i m' heq
          cases heq
          split at hr
          · rename_i hc
            cases hr
            obtain ⟨rfl, rfl, rfl⟩ := hc
            exact snd_val g (hk (by omega) (by omega) (by omega)) (hzz rfl rfl (by omega))
          · cases hr
        · cases hr
      · cases hev
    · cases hev

theorem snd_slcs {t : TypeId} {x : Operand} {lo hi : Option Operand} (ho : o.op = .slice t x lo hi none) (hu : P.underlying t = some .string) : Snd P o (.slcs x lo hi) := by
  intro w0 K h nx env a out h' nx' g he hev
  simp only [opEv] at hev
  split at hev
  · rename_i s hy
    split at hev
    · rename_i l hh hl hhh
      split at hev
      · rename_i hc
        cases hev
        have hv := oev_sound he hy
        generalize hcx : a.eval x = cx at hv
        cases hv with
        | str _ q hq =>
          have hql : s.length = q.size := by rw [← hq, Array.length_toList]; rfl
          have hlo := bnd_sound he hl
          have hhi := bnd_sound he hhh
          have hsl : (Instr.sliceBounds false q.size q.size (lo.map a.eval) (hi.map a.eval) none).run P K.w = .ok (l, hh, q.size) K.w := by
            have h1 := hc.1
            have h2 : hh ≤ q.size := by have := hc.2; omega
            clear hc
            rw [hql] at hhi
            rcases hlo with ⟨rfl, rfl⟩ | ⟨y1, k1, rfl, e1⟩ <;> rcases hhi with ⟨rfl, rfl⟩ | ⟨y2, k2, rfl, e2⟩ <;> simp [Instr.sliceBounds, run_sliceBound, *]
          refine snd_val g (v := .string (q.extract l hh)) ?_ (.str _ _ ?_)
          · simp [execOp, ho, hcx, Instr.sliceAt, Instr.slice, run_underlying hu, hsl]
          · rw [← hq]
            rw [ByteArray.data_extract, Array.toList_extract, List.extract_eq_take_drop]
            rw [List.drop_take]
      · cases hev
    · cases hev
  · cases hev
end

theorem eq_sound {P : Program} {o : Oper} {neg : Bool} {t t' : TypeId} {x y : Operand} {ao : AOp} (ho : o.op = .binOp (if neg then .neq else .eql) t x y t') (hc : compileEq P neg t x y = some ao) : Snd P o ao := by
  unfold compileEq at hc
  split at hc
  · cases hc; exact snd_bin ho
  · cases hc; exact snd_bin ho
  · rename_i hu; cases hc; exact snd_eqB ho hu
  · obtain ⟨ks, hks, rfl⟩ := Option.map_eq_some_iff.1 hc
    exact snd_eqS ho hks
  · obtain ⟨k, hk, hc⟩ := Option.bind_eq_some_iff.1 hc
    split at hc
    · rename_i hy; cases hc; exact snd_eqN ho hk (.inl ⟨rfl, hy⟩)
    · split at hc
      · rename_i hx; cases hc; exact snd_eqN ho hk (.inr ⟨rfl, hx⟩)
      · cases hc

theorem call_sound {P : Program} {o : Oper} {c : Call} {ao : AOp} (ho : o.op = .call c) (hc : compileCall P c = some ao) : Snd P o ao := by
  obtain ⟨callee, args, tys⟩ := c
  unfold compileCall at hc
  simp only at hc
  have harr : ∀ {α : Type} {xs : Array α} {l : List α}, xs.toList = l → xs = l.toArray := by
    intro α xs l h
    rw [← h]
  split at hc
  · rename_i h1 h2
    rw [harr h1, harr h2] at ho
    split at hc
    · rename_i hu; cases hc; exact snd_len ho hu
    · rename_i hu; cases hc; exact snd_lens ho hu
    · cases hc
  · rename_i h1
    rw [harr h1] at ho
    cases hc; exact snd_mn ho
  · rename_i h1
    rw [harr h1] at ho
    cases hc; exact snd_mx ho
  · rename_i h1 h2
    rw [harr h1, harr h2] at ho
    split at hc
    · rename_i ht
      subst ht
      split at hc
      · rename_i hu
        obtain ⟨i, hi, hc⟩ := Option.bind_eq_some_iff.1 hc
        obtain ⟨z, hz, hc⟩ := Option.bind_eq_some_iff.1 hc
        split at hc
        · rename_i hcond; cases hc; exact snd_app ho hu hi hz hcond.1 hcond.2
        · cases hc
      · cases hc
    · split at hc
      · rename_i hu hn
        obtain ⟨i, hi, hc⟩ := Option.bind_eq_some_iff.1 hc
        obtain ⟨z, hz, hc⟩ := Option.bind_eq_some_iff.1 hc
        split at hc
        · rename_i hcond; cases hc; exact snd_appZ ho hu hn hi hz hcond.1 hcond.2
        · cases hc
      · cases hc
  · rename_i h1 h2
    rw [harr h1, harr h2] at ho
    split at hc
    · rename_i hu; cases hc; exact snd_cap ho hu
    · cases hc
  · rename_i h1 h2
    rw [harr h1, harr h2] at ho
    split at hc
    · rename_i ht
      subst ht
      split at hc
      · rename_i hu
        obtain ⟨i, hi, rfl⟩ := Option.map_eq_some_iff.1 hc
        exact snd_copy ho hu hi
      · cases hc
    · cases hc
  · rename_i h1 h2
    rw [harr h1, harr h2] at ho
    split at hc
    · rename_i hu
      obtain ⟨z, hz, rfl⟩ := Option.map_eq_some_iff.1 hc
      exact snd_clear ho hu hz
    · cases hc
  · rename_i f h1
    rw [harr h1] at ho
    split at hc
    · rename_i hf; cases hc; exact snd_ovl ho hf
    · cases hc
  · cases hc

theorem op_sound0 {P : Program} {own : Bool} {o : Oper} {ao : AOp} (hc : compileOp0 P own o = some ao) : Snd P o ao ∧ (∀ c, o.op ≠ .defer c) := by
  unfold compileOp0 at hc
  split at hc <;> refine ⟨?_, by rename_i h0; first | (intro c; rw [h0]; simp; done) | (cases hc; done)⟩
  · rename_i h0; cases hc; exact snd_move (.inl h0)
  · rename_i h0; cases hc; exact snd_move (.inr h0)
  · rename_i h0; cases hc; exact snd_pick h0
  · rename_i h0
    obtain ⟨z, hz, rfl⟩ := Option.map_eq_some_iff.1 hc
    exact snd_alloc h0 hz
  · rename_i h0; cases hc; exact snd_box h0
  · rename_i h0
    split at hc
    · rename_i fs z hu hz
      obtain ⟨pl, hpl, hc⟩ := Option.bind_eq_some_iff.1 hc
      obtain ⟨qs, hqs, rfl⟩ := Option.map_eq_some_iff.1 hc
      exact snd_build_struct h0 hu hz hpl hqs
    · rename_i hu hz
      obtain ⟨ie, hie, rfl⟩ := Option.map_eq_some_iff.1 hc
      exact snd_build_array h0 hu hz hie
    · cases hc
  · rename_i h0
    split at hc
    · rename_i hu
      obtain ⟨z, hz, hc⟩ := Option.bind_eq_some_iff.1 hc
      split at hc
      · rename_i hcond
        cases hc
        cases own
        · exact snd_buildF h0 hu hz hcond.1 hcond.2.1 hcond.2.2
        · exact snd_buildO h0 hu hz hcond.1 hcond.2.1 hcond.2.2
      · cases hc
    · cases hc
  · rename_i h0
    obtain ⟨d, hd, rfl⟩ := Option.map_eq_some_iff.1 hc
    exact snd_load h0 hd
  · rename_i h0
    obtain ⟨d, hd, rfl⟩ := Option.map_eq_some_iff.1 hc
    exact snd_store h0 hd
  · rename_i h0; cases hc; exact snd_nilck h0
  · rename_i h0; exact eq_sound (neg := false) h0 hc
  · rename_i h0; exact eq_sound (neg := true) h0 hc
  · rename_i h0; cases hc; exact snd_bin h0
  · rename_i h0; cases hc; exact snd_un h0
  · rename_i h0
    split at hc
    · rename_i hs hd; cases hc; exact snd_conv h0 hs hd
    · rename_i hs hd; cases hc; exact snd_convS h0 hs hd
    · rename_i e hs hd
      split at hc
      · rename_i he; cases hc; exact snd_convBS h0 hs he hd
      · cases hc
    · cases hc
  · rename_i h0
    split at hc
    · cases hc
    · rename_i d hd hn
      cases hc
      exact snd_mkif h0 hn (fun ms h => hd ms h)
    · cases hc
  · rename_i h0
    split at hc
    · rename_i hs
      cases hc
      have : _ = #[] := Array.eq_empty_of_size_eq_zero hs
      subst this
      exact snd_mkfn h0
    · cases hc
  · rename_i h0
    split at hc
    · rename_i hu
      obtain ⟨z, hz, hc⟩ := Option.bind_eq_some_iff.1 hc
      split at hc
      · rename_i hzl; cases hc; exact snd_mksl h0 hu hz hzl
      · cases hc
    · cases hc
  · rename_i h0
    split at hc
    · rename_i hu
      split at hc
      · cases hc
      · rename_i hm
        obtain ⟨d, hd, rfl⟩ := Option.map_eq_some_iff.1 hc
        refine snd_slc h0 hu hd ?_
        intro h1 h2
        apply hm
        rw [h2]
        have h3 := Option.isSome_iff_ne_none.2 h1
        rw [h3]; rfl
    · rename_i hu
      split at hc
      · rename_i hm
        cases hc
        have : _ = none := Option.isNone_iff_eq_none.1 hm
        subst this
        exact snd_slcs h0 hu
      · cases hc
    · cases hc
  · rename_i h0
    split at hc
    · rename_i hu
      obtain ⟨fd, hf, hc⟩ := Option.bind_eq_some_iff.1 hc
      obtain ⟨d, hd, hc⟩ := Option.bind_eq_some_iff.1 hc
      split at hc
      · rename_i hs; cases hc; exact snd_fieldA h0 hu hf hd hs
      · cases hc
    · cases hc
  · rename_i h0
    split at hc
    · rename_i hu
      obtain ⟨fd, hf, hc⟩ := Option.bind_eq_some_iff.1 hc
      obtain ⟨d, hd, rfl⟩ := Option.map_eq_some_iff.1 hc
      exact snd_field h0 hu hf hd
    · cases hc
  · rename_i h0
    split at hc
    · rename_i hu
      obtain ⟨d, hd, rfl⟩ := Option.map_eq_some_iff.1 hc
      exact snd_idxA h0 hu hd
    · rename_i hu
      obtain ⟨d, hd, rfl⟩ := Option.map_eq_some_iff.1 hc
      exact snd_idxR h0 hu hd
    · cases hc
  · rename_i h0
    split at hc
    · rename_i hu
      obtain ⟨d, hd, rfl⟩ := Option.map_eq_some_iff.1 hc
      exact snd_idx h0 hu hd
    · rename_i hu; cases hc; exact snd_idxs h0 hu
    · cases hc
  · rename_i h0; cases hc; exact snd_ext h0
  · rename_i h0; exact call_sound h0 hc
  · cases hc
  all_goals cases hc
theorem op_sound {P : Program} {own : Bool} {o : Oper} {ao : AOp} (hc : compileOp P own o = some ao) : Snd P o ao ∧ (∀ c, o.op ≠ .defer c) := by
  unfold compileOp at hc
  split at hc
  · rename_i h; cases hc; exact op_sound0 h
  · split at hc
    · rename_i h0
      split at hc
      · cases hc
      · cases hc; exact ⟨snd_bad, by intro c; rw [h0]; simp⟩
    · cases hc
    · rename_i h1 h2
      cases hc
      exact ⟨snd_bad, fun c h => h2 c h⟩

end Go.Ab
