/- The operations on abstract values, second part: numbers, strings, comparisons, indexes, slices' parts. -/
import Derived.Test.YtdmjloieldhlnaaCore3
namespace Go.Ab
open Go.RowKit
set_option linter.unusedVariables false
set_option linter.unusedSimpArgs false

/-! ### Two numbers, two strings -/
def cmpA (op : BinOp) (x y : Int) : Option Bool :=
  match op with
  | .eql => some (decide (x = y))
  | .neq => some (!decide (x = y))
  | .lss => some (decide (x < y))
  | .leq => some (decide (x ≤ y))
  | .gtr => some (decide (y < x))
  | .geq => some (decide (y ≤ x))
  | _ => none
def bitsA (op : BinOp) (k : IntKind) (x y : Int) : Option Int :=
  let a := BitVec.ofInt k.bits x
  let b := BitVec.ofInt k.bits y
  match op with
  | .and => some (k.wrap ((a &&& b).toNat : Int))
  | .or => some (k.wrap ((a ||| b).toNat : Int))
  | .xor => some (k.wrap ((a ^^^ b).toNat : Int))
  | .andNot => some (k.wrap ((a &&& ~~~b).toNat : Int))
  | _ => none
def numA (op : BinOp) (k : IntKind) (x y : Int) : Option AV :=
  match op with
  | .add => some (.int k (k.wrap (x + y)))
  | .sub => some (.int k (k.wrap (x - y)))
  | .mul => some (.int k (k.wrap (x * y)))
  | .quo => if y = 0 then none else some (.int k (k.wrap (x.tdiv y)))
  | .rem => if y = 0 then none else some (.int k (x.tmod y))
  | .and => (bitsA .and k x y).map (.int k)
  | .or => (bitsA .or k x y).map (.int k)
  | .xor => (bitsA .xor k x y).map (.int k)
  | .andNot => (bitsA .andNot k x y).map (.int k)
  | op => (cmpA op x y).map .bool
def strA (op : BinOp) (x y : List UInt8) : Option AV :=
  match op with
  | .add => if x.length + y.length ≤ 9223372036854775807 then some (.str (x ++ y)) else none
  | .eql => some (.bool (x == y))
  | .neq => some (.bool (!(x == y)))
  | .lss => some (.bool (Op.bytesLess x y))
  | .leq => some (.bool (Op.bytesLess x y || x == y))
  | .gtr => some (.bool (!(Op.bytesLess x y || x == y)))
  | .geq => some (.bool (!Op.bytesLess x y))
  | _ => none
def shA (op : BinOp) (k : IntKind) (x y : Int) : Option AV :=
  if y < 0 then none else
    match op with
    | .shl => some (.int k (k.wrap (x * 2 ^ (min y.toNat k.bits))))
    | .shr => some (.int k (x.fdiv (2 ^ (min y.toNat k.bits))))
    | _ => none
def binA (op : BinOp) (x y : AV) : Option AV :=
  match x, y with
  | .int k a, .int k' b => match op with
    | .shl => shA .shl k a b
    | .shr => shA .shr k a b
    | op => if k = k' then numA op k a b else none
  | .str a, .str b => strA op a b
  | _, _ => none

theorem toList_data (s : ByteArray) : s.toList = s.data.toList := ByteArray.toList_eq s
theorem beqI (x y : Int) : (x == y) = decide (x = y) := rfl
theorem append_data (x y : ByteArray) : (x ++ y).data.toList = x.data.toList ++ y.data.toList := by simp

theorem eqGuard_plain {P : Program} (op : BinOp) (t : TypeId) (x y : Operand) {a b : Value} (w : World) (h1 : ∀ c, a ≠ .agg c) (h2 : a ≠ .nilIface ∨ b ≠ .nilIface) : (eqGuard op t x y a b).run P w = .ok () w := by
  unfold eqGuard
  cases op <;> first
    | rfl
    | (cases a <;> first
        | rfl
        | exact absurd rfl (h1 _)
        | (cases b <;> first
            | rfl
            | (rcases h2 with h2 | h2 <;> exact absurd rfl h2)))

theorem binA_sound {P : Program} {K : Wd} {nx : Nat} {op : BinOp} {t : TypeId} {x y r : AV} {u v : Value} {ox oy : Operand} (h : binA op x y = some r) (hu : VR K nx x u) (hv : VR K nx y v) :
    ∃ z, (do eqGuard op t ox oy u v; binOp op t u v : Sem Value).run P K.w = .ok z K.w ∧ VR K nx r z := by
  unfold binA at h
  split at h
  · rename_i k a k' b
    cases hu; cases hv
    rw [Sem.run_bind, eqGuard_plain op t ox oy K.w (by intro c; simp) (by simp)]
    simp only [Result.andThen]
    have hsh : ∀ (o : BinOp), (o = .shl ∨ o = .shr) → shA o k a b = some r → ∃ z, (Op.shift o k a k' b).run P K.w = .ok z K.w ∧ VR K nx r z := by
      intro o ho h
      unfold shA at h
      split at h
      · cases h
      · rename_i hy
        rcases ho with rfl | rfl
        · simp only [Option.some.injEq] at h; subst h
          exact ⟨_, by simp [Op.shift, hy], .int _ _⟩
        · simp only [Option.some.injEq] at h; subst h
          exact ⟨_, by simp [Op.shift, hy], .int _ _⟩
    cases op <;> first
      | exact hsh _ (.inl rfl) h
      | exact hsh _ (.inr rfl) h
      | (dsimp only at h
         split at h
         · rename_i hk; subst hk
           simp only [numA, cmpA, bitsA, Option.map_some, Option.map_none, Option.some.injEq] at h
           first
             | (subst h; exact ⟨_, by simp [binOp, Op.intArith, Op.intBits, Op.intCmp], .int _ _⟩)
             | (subst h; exact ⟨_, by simp [binOp, Op.intCmp, beqI, bne], .bool _⟩)
             | (split at h
                · cases h
                · rename_i hy
                  simp only [Option.some.injEq] at h; subst h
                  exact ⟨_, by simp [binOp, Op.intDiv, hy], .int _ _⟩)
             | cases h
         · cases h)
  · rename_i a b
    cases hu with
    | str _ s hs =>
    cases hv with
    | str _ s' hs' =>
    rw [Sem.run_bind, eqGuard_plain op t ox oy K.w (by intro c; simp) (by simp)]
    simp only [Result.andThen]
    subst hs; subst hs'
    cases op <;> simp only [strA, Option.some.injEq] at h <;> first
      | (subst h; exact ⟨_, by simp [binOp, Op.stringOp, toList_data], .bool _⟩)
      | (split at h
         · rename_i hle
           simp only [Option.some.injEq] at h; subst h
           have hle' : ¬ (((s.size + s'.size : Nat) : Int) > IntKind.i64.max) := by
             have h1 : s.data.toList.length = s.size := by rw [Array.length_toList]; rfl
             have h2 : s'.data.toList.length = s'.size := by rw [Array.length_toList]; rfl
             rw [h1, h2] at hle
             have h3 : IntKind.i64.max = 9223372036854775807 := by decide
             rw [h3]
             omega
           refine ⟨.string (s ++ s'), ?_, .str _ _ (append_data _ _)⟩
           simp only [binOp, Op.stringOp, if_neg hle']
           rfl
         · cases h)
      | cases h
  · cases h

/-! ### Equality of other values -/
/-- Kinds of cells that '==' tells by their values alone. -/
inductive FK where
  | int
  | bool
  | str
  deriving DecidableEq, Inhabited
def fkT (P : Program) (t : TypeId) : Option FK := match P.underlying t with
  | some (.int _) => some .int
  | some .bool => some .bool
  | some .string => some .str
  | _ => none
def eqC : FK → AV → AV → Option Bool
  | .int, .int k a, .int k' b => if k = k' then some (decide (a = b)) else none
  | .bool, .bool a, .bool b => some (a == b)
  | .str, .str a, .str b => some (a == b)
  | _, _, _ => none
/-- Kinds of values that may be nil. -/
inductive NK where
  | ptr
  | sl
  | mp
  | fn
  | ifc
  deriving DecidableEq, Inhabited
/-- Whether a value is nil. -/
def nilA : NK → AV → Option Bool
  | .ptr, .nilP => some true
  | .ptr, .op .. => some false
  | .ptr, .fp _ => some false
  | .sl, .nilS => some true
  | .sl, .lst _ (_ :: _) => some false
  | .sl, .os .. => some false
  | .sl, .ne0 => some false
  | .mp, .nilM => some true
  | .mp, .mp _ => some false
  | .fn, .nilF => some true
  | .fn, .fn .. => some false
  | .ifc, .nilI => some true
  | .ifc, .ifc .. => some false
  | _, _ => none
def eqL : List FK → List AV → List AV → Option Bool
  | [], _, _ => some true
  | f :: fs, x :: xs, y :: ys => match eqC f x y, eqL fs xs ys with
    | some a, some b => some (a && b)
    | _, _ => none
  | _, _, _ => none

theorem eqC_sound {P : Program} {K : Wd} {nx : Nat} {x y : AV} {u v : Value} {r : Bool} (d : Nat) {t : TypeId} {f : FK} (ht : fkT P t = some f) (h : eqC f x y = some r) (hu : VR K nx x u) (hv : VR K nx y v) :
    (Op.equalIn (d + 1) t u v).run P K.w = .ok r K.w := by
  unfold fkT at ht
  split at ht <;> first | (cases ht; done) | skip
  · rename_i q hq
    cases ht
    unfold eqC at h
    split at h <;> first | (cases h; done) | skip
    · split at h
      · rename_i hk
        simp only [Option.some.injEq] at h; subst h; subst hk
        cases hu; cases hv
        simp [Op.equalIn, run_underlying hq, beqI]
      · cases h
    · contradiction
    · contradiction
  · rename_i hq
    cases ht
    unfold eqC at h
    split at h <;> first | (cases h; done) | skip
    · contradiction
    · simp only [Option.some.injEq] at h; subst h
      cases hu; cases hv
      simp [Op.equalIn, run_underlying hq]
    · contradiction
  · rename_i hq
    cases ht
    unfold eqC at h
    split at h <;> first | (cases h; done) | skip
    · contradiction
    · contradiction
    · simp only [Option.some.injEq] at h; subst h
      cases hu with
      | str _ s hs =>
      cases hv with
      | str _ s' hs' =>
      subst hs; subst hs'
      simp [Op.equalIn, run_underlying hq, beq_toListBytes, toList_data]

theorem run_part_at {P : Program} {w : World} {t : TypeId} {d : TypeDesc} (ht : P.underlying t = some d) (hag : isAggT P t = false) {c : Array Value} {off : Nat} {v : Value} (h : c[off]? = some v) : (part t c off).run P w = .ok v w := by
  simp [part, run_isAggT ht, hag, h]
theorem fkT_plain {P : Program} {t : TypeId} {f : FK} (h : fkT P t = some f) : ∃ d, P.underlying t = some d ∧ isAggT P t = false := by
  unfold fkT at h
  split at h <;> first | (cases h; done) | (rename_i hq; exact ⟨_, hq, by simp [isAggT, hq]⟩)

/-- The fields stand one after another, each of a kind that is told by its value. -/
def flatFs (P : Program) : Nat → List Field → Option (List FK)
  | _, [] => some []
  | i, f :: fs => if f.name ≠ "_" ∧ f.offset = i then (match fkT P f.type, flatFs P (i + 1) fs with
      | some k, some r => some (k :: r)
      | _, _ => none) else none
def flatT (P : Program) (t : TypeId) : Option (List FK) :=
  match P.underlying t with
  | some (.struct fs) => if P.stoodInHeld t = false ∧ P.eqGuardType P.depth t = false then flatFs P 0 fs.toList else none
  | _ => none

theorem eqFields_sound {P : Program} {K : Wd} {nx : Nat} (d : Nat) {c c' : Array Value} {cs cs' : List AV} (h1 : CR K nx cs c.toList) (h2 : CR K nx cs' c'.toList) :
    ∀ (fs : List Field) (i : Nat) (ks : List FK) (r : Bool), flatFs P i fs = some ks → eqL ks (cs.drop i) (cs'.drop i) = some r → (Op.eqFields (d + 1) c c' fs).run P K.w = .ok r K.w
  | [], i, ks, r, hk, hr => by
    simp only [flatFs, Option.some.injEq] at hk; subst hk
    simp only [eqL, Option.some.injEq] at hr; subst hr
    simp [Op.eqFields]
  | f :: fs, i, ks, r, hk, hr => by
    simp only [flatFs] at hk
    split at hk
    · rename_i hc
      obtain ⟨hn, ho⟩ := hc
      split at hk
      · rename_i k rs hkf hkr
        simp only [Option.some.injEq] at hk; subst hk
        cases hx : cs.drop i with
        | nil => rw [hx] at hr; simp [eqL] at hr
        | cons x xs =>
          cases hy : cs'.drop i with
          | nil => rw [hx, hy] at hr; simp [eqL] at hr
          | cons y ys =>
            rw [hx, hy] at hr
            simp only [eqL] at hr
            split at hr
            · rename_i a b ha hb
              simp only [Option.some.injEq] at hr; subst hr
              have hxi : cs[i]? = some x := by have := congrArg (·[0]?) hx; simpa using this
              have hyi : cs'[i]? = some y := by have := congrArg (·[0]?) hy; simpa using this
              have hxs : cs.drop (i + 1) = xs := by have := congrArg (List.drop 1) hx; simpa using this
              have hys : cs'.drop (i + 1) = ys := by have := congrArg (List.drop 1) hy; simpa using this
              obtain ⟨u, hu⟩ : ∃ u, c[i]? = some u := by
                have : i < c.toList.length := by rw [h1.len]; exact (List.getElem?_eq_some_iff.1 hxi).1
                exact ⟨_, Array.getElem?_eq_getElem (by simpa using this)⟩
              obtain ⟨v, hv⟩ : ∃ v, c'[i]? = some v := by
                have : i < c'.toList.length := by rw [h2.len]; exact (List.getElem?_eq_some_iff.1 hyi).1
                exact ⟨_, Array.getElem?_eq_getElem (by simpa using this)⟩
              obtain ⟨dd, hd1, hd2⟩ := fkT_plain hkf
              have e1 := run_part_at (P := P) (w := K.w) hd1 hd2 (off := f.offset) (c := c) (v := u) (by rw [ho]; exact hu)
              have e2 := run_part_at (P := P) (w := K.w) hd1 hd2 (off := f.offset) (c := c') (v := v) (by rw [ho]; exact hv)
              have e3 := eqC_sound (P := P) d hkf ha (h1.at_ i x u hxi (by simpa using hu)) (h2.at_ i y v hyi (by simpa using hv))
              have ih := eqFields_sound d h1 h2 fs (i + 1) rs b hkr (by rw [hxs, hys]; exact hb)
              simp only [Op.eqFields, if_pos hn, Sem.run_bind, e1, e2, e3, Result.andThen_ok]
              cases a <;> simp [ih]
            · cases hr
      · cases hk
    · cases hk

theorem eqS_sound {P : Program} {K : Wd} {nx : Nat} {cs cs' : List AV} {u v : Value} {t : TypeId} {ks : List FK} {r : Bool} (neg : Bool) {ox oy : Operand} (ht : flatT P t = some ks) (hr : eqL ks cs cs' = some r)
    (hu : VR K nx (.agg cs) u) (hv : VR K nx (.agg cs') v) : (do eqGuard (if neg then .neq else .eql) t ox oy u v; binOp (if neg then .neq else .eql) t u v : Sem Value).run P K.w = .ok (.bool (if neg then !r else r)) K.w := by
  cases hu with
  | agg _ c hs h1 h =>
  cases hv with
  | agg _ c' hs' h1' h' =>
  unfold flatT at ht
  split at ht
  · rename_i fs hq
    split at ht
    · rename_i hc
      have hcr1 : CR K nx cs c.toList := VR.ofAgg (.agg cs c hs h1 h)
      have hcr2 : CR K nx cs' c'.toList := VR.ofAgg (.agg cs' c' hs' h1' h')
      have hf : P.fieldsOf t = fs := by simp [Program.fieldsOf, hq]
      have e := eqFields_sound (P := P) 9998 hcr1 hcr2 fs.toList 0 ks r ht (by simpa using hr)
      rw [Sem.run_bind, run_eqGuard_agg K.w _ t ox oy c c' hc.2]
      simp only [Result.andThen_ok]
      have hse := run_equalIn_struct (P := P) K.w 9999 t c c' (by rw [hf]; exact hq) hc.1
      rw [hf, e] at hse
      cases neg
      · simp only [Bool.false_eq_true, if_false]
        rw [run_eql_struct, hse]; rfl
      · simp only [if_true]
        rw [run_neq_struct, hse]; rfl
    · cases ht
  · cases ht

end Go.Ab
