/- The model's operations do what the abstract ones do. -/
import Derived.Test.YtdmjloieldhlnaaCore8
namespace Go.Ab
open Go.RowKit
set_option linter.unusedVariables false
set_option linter.unusedSimpArgs false

def outR (K : Wd) (nx : Nat) : Out → Next → Prop
  | .val x, .value v => VR K nx x v
  | .skip, .skip => True
  | _, _ => False

def Snd (P : Program) (o : Oper) (ao : AOp) : Prop :=
  ∀ (w0 : World) (K : Wd) (h : Heap) (nx : Nat) (env : Env) (a : Act) (out : Out) (h' : Heap) (nx' : Nat), Good w0 K h nx → EnvR K nx env a.tmps → opEv ao env h nx = some (out, h', nx') →
    ∃ K' r, (execOp a.eval o).run P K.w = .ok r K'.w ∧ Ext K nx K' nx' ∧ Good w0 K' h' nx' ∧ outR K' nx' out r

section
variable {P : Program} {o : Oper}

theorem snd_val {w0 : World} {K : Wd} {h : Heap} {nx : Nat} (g : Good w0 K h nx) {a : Act} {x : AV} {v : Value} (hr : (execOp a.eval o).run P K.w = .ok (.value v) K.w) (hv : VR K nx x v) :
    ∃ K' r, (execOp a.eval o).run P K.w = .ok r K'.w ∧ Ext K nx K' nx ∧ Good w0 K' h nx ∧ outR K' nx (.val x) r := ⟨K, _, hr, Ext.refl _ _, g, hv⟩

theorem snd_move {x : Operand} (ho : o.op = .move x ∨ o.op = .assign x) : Snd P o (.move x) := by
  intro w0 K h nx env a out h' nx' g he hev
  simp only [opEv] at hev
  split at hev
  · rename_i y hy
    cases hev
    exact snd_val g (v := a.eval x) (by rcases ho with ho | ho <;> simp [execOp, ho]) (oev_sound he hy)
  · cases hev

theorem snd_pick {c x y : Operand} (ho : o.op = .pick c x y) : Snd P o (.pick c x y) := by
  intro w0 K h nx env a out h' nx' g he hev
  simp only [opEv] at hev
  split at hev
  · rename_i t ht
    split at hev
    · rename_i z hz
      cases hev
      have hc := oev_sound he ht
      generalize hcv : a.eval c = cv at hc
      cases hc
      refine snd_val g (v := if t then a.eval x else a.eval y) (by simp [execOp, ho, hcv, asBool]) ?_
      cases t
      · exact oev_sound he hz
      · exact oev_sound he hz
    · cases hev
  · cases hev

theorem snd_alloc {t : TypeId} {z : List AV} (ho : o.op = .alloc t) (hz : zeroT P t = some z) : Snd P o (.alloc z) := by
  intro w0 K h nx env a out h' nx' g he hev
  simp only [opEv] at hev
  cases hev
  obtain ⟨K', v, h1, h2, h3, h4⟩ := alloc_sound (P := P) g hz
  exact ⟨K', .value v, by simp [execOp, ho, h1], h2, h3, h4⟩

theorem snd_box {t : TypeId} {x : Operand} (ho : o.op = .box t x) : Snd P o (.box x) := by
  intro w0 K h nx env a out h' nx' g he hev
  simp only [opEv] at hev
  split at hev
  · rename_i y hy
    split at hev
    · rename_i hp
      cases hev
      obtain ⟨K', v, h1, h2, h3, h4⟩ := box_sound (P := P) g t hp (oev_sound he hy)
      exact ⟨K', .value v, by simp [execOp, ho, h1], h2, h3, h4⟩
    · cases hev
  · cases hev

theorem partsE3_laid {K : Wd} {nx : Nat} {env : Env} {a : Act} (he : EnvR K nx env a.tmps) {place : Nat → Option (Nat × Nat)} : ∀ (ps : List (Nat × Operand)) (qs : List (Nat × Nat × Operand)) (rs : List (Nat × Nat × AV)),
    ps.mapM (fun (p : Nat × Operand) => (place p.1).map fun q => (q.1, q.2, p.2)) = some qs → partsE3 env qs = some rs → Laid K nx place (ps.map fun p => (p.1, a.eval p.2)) rs
  | [], qs, rs, h1, h2 => by
    simp at h1; subst h1
    simp only [partsE3, Option.some.injEq] at h2; subst h2
    exact trivial
  | (i, x) :: ps, qs, rs, h1, h2 => by
    simp only [List.mapM_cons, Option.bind_eq_bind, Option.bind_eq_some_iff, Option.map_eq_some_iff, Option.pure_def, Option.some.injEq] at h1
    obtain ⟨q, ⟨pl, hpl, rfl⟩, qs', hqs, rfl⟩ := h1
    simp only [partsE3] at h2
    split at h2
    · rename_i y ys hy hys
      simp only [Option.some.injEq] at h2; subst h2
      exact ⟨⟨hpl, oev_sound he hy⟩, partsE3_laid he ps qs' ys hqs hys⟩
    · cases h2

theorem mapM_places {pl : Nat → Option (Nat × Nat)} {f : Nat → Nat × Nat} (hf : ∀ i, pl i = some (f i)) : ∀ (ps : List (Nat × Operand)), ps.mapM (fun (p : Nat × Operand) => (pl p.1).map fun q => (q.1, q.2, p.2)) = some (ps.map fun p => ((f p.1).1, (f p.1).2, p.2))
  | [] => by simp
  | p :: ps => by rw [List.mapM_cons, mapM_places hf ps]; simp [hf]

theorem snd_build_struct {t : TypeId} {ps : Array (Nat × Operand)} {fs : Array Field} {z : List AV} {pl : List (Nat × Nat)} {qs : List (Nat × Nat × Operand)} (ho : o.op = .build t ps) (hu : P.underlying t = some (.struct fs)) (hz : zeroT P t = some z)
    (hpl : structPl P fs.toList = some pl) (hqs : ps.toList.mapM (fun (p : Nat × Operand) => (pl[p.1]?).map fun q => (q.1, q.2, p.2)) = some qs) : Snd P o (.build z qs) := by
  intro w0 K h nx env a out h' nx' g he hev
  simp only [opEv] at hev
  split at hev
  · rename_i rs hrs
    split at hev
    · rename_i r hr
      cases hev
      have hl := partsE3_laid he (place := (pl[·]?)) ps.toList qs rs hqs hrs
      obtain ⟨v, h1, h2⟩ := build_struct (K := K) hu hz hpl (parts := ps.map fun (i, x) => (i, a.eval x)) (qs := rs) (by simpa using hl) hr
      exact snd_val g (v := v) (by simp only [execOp, ho, Sem.run_bind, h1]; rfl) h2
    · cases hev
  · cases hev

theorem snd_build_array {t e : TypeId} {n : Nat} {ps : Array (Nat × Operand)} {z : List AV} {ie : TypeInfo} (ho : o.op = .build t ps) (hu : P.underlying t = some (.array n e)) (hz : zeroT P t = some z)
    (hie : P.info? e = some ie) : Snd P o (.build z (ps.toList.map fun p => (p.1 * ie.size, ie.size, p.2))) := by
  intro w0 K h nx env a out h' nx' g he hev
  simp only [opEv] at hev
  split at hev
  · rename_i rs hrs
    split at hev
    · rename_i r hr
      cases hev
      have hl := partsE3_laid he (place := fun i => some (i * ie.size, ie.size)) ps.toList _ rs (mapM_places (pl := fun i => some (i * ie.size, ie.size)) (f := fun i => (i * ie.size, ie.size)) (fun i => rfl) ps.toList) hrs
      obtain ⟨v, h1, h2⟩ := build_array (K := K) hu hz hie (parts := ps.map fun (i, x) => (i, a.eval x)) (qs := rs) (by simpa using hl) hr
      exact snd_val g (v := v) (by simp only [execOp, ho, Sem.run_bind, h1]; rfl) h2
    · cases hev
  · cases hev

theorem partsE_laid {K : Wd} {nx : Nat} {env : Env} {a : Act} (he : EnvR K nx env a.tmps) (sz : Nat) : ∀ (ps : List (Nat × Operand)) (rs : List (Nat × AV)), partsE env ps = some rs →
    Laid K nx (fun i => some (i * sz, sz)) (ps.map fun p => (p.1, a.eval p.2)) (rs.map fun p => (p.1 * sz, sz, p.2))
  | [], rs, h2 => by
    simp only [partsE, Option.some.injEq] at h2; subst h2
    exact trivial
  | (i, x) :: ps, rs, h2 => by
    simp only [partsE] at h2
    split at h2
    · rename_i y ys hy hys
      simp only [Option.some.injEq] at h2; subst h2
      exact ⟨⟨rfl, oev_sound he hy⟩, partsE_laid he sz ps ys hys⟩
    · cases h2

theorem snd_buildF {t e : TypeId} {len : Nat} {ps : Array (Nat × Operand)} {z : List AV} (ho : o.op = .buildSlice t len ps) (hu : P.underlying t = some (.slice e)) (hz : zeroT P e = some z)
    (hzl : z.length = P.cellsOf e) (hsm : len * z.length ≤ 2 ^ 24) (hln : len ≤ 2 ^ 24) : Snd P o (.buildF z len ps.toList) := by
  intro w0 K h nx env a out h' nx' g he hev
  simp only [opEv] at hev
  split at hev
  · rename_i rs hrs
    split at hev
    · rename_i es hr
      cases hev
      have hl := partsE_laid he z.length ps.toList rs hrs
      obtain ⟨c, h1, h2, h3, h4⟩ := run_buildSlice (K := K) hu hz hzl hsm (parts := ps.map fun (i, x) => (i, a.eval x)) (qs := rs) (by simpa using hl) hr
      have hmx : es.length ≤ maxLen := by rw [h3]; simp only [maxLen]; omega
      obtain ⟨k1, k2, k3⟩ := newZ_sound g h2 h1 e hmx h3.symm []
      rw [List.append_nil] at k1 k2 k3
      refine ⟨_, .value _, by simp only [execOp, ho, Sem.run_bind, h4]; rfl, k2, k1, ?_⟩
      have k4 := k3 len (Nat.le_refl _) (by rw [h3] at hmx; exact hmx)
      by_cases h0 : len = 0
      · rw [if_pos h0]; subst h0; exact .emp _
      · rw [if_neg h0]; exact k4
    · cases hev
  · cases hev

theorem snd_buildO {t e : TypeId} {len : Nat} {ps : Array (Nat × Operand)} {z : List AV} (ho : o.op = .buildSlice t len ps) (hu : P.underlying t = some (.slice e)) (hz : zeroT P e = some z)
    (hzl : z.length = P.cellsOf e) (hsm : len * z.length ≤ 2 ^ 24) (hln : len ≤ 2 ^ 24) : Snd P o (.buildO e z len ps.toList) := by
  intro w0 K h nx env a out h' nx' g he hev
  simp only [opEv] at hev
  split at hev
  · rename_i rs hrs
    split at hev
    · rename_i es hr
      cases hev
      have hl := partsE_laid he z.length ps.toList rs hrs
      obtain ⟨c, h1, h2, h3, h4⟩ := run_buildSlice (K := K) hu hz hzl hsm (parts := ps.map fun (i, x) => (i, a.eval x)) (qs := rs) (by simpa using hl) hr
      have hcl : c.length = len * z.length := by rw [h1.len, flatten_length es h2, h3]
      have gn := new_sound g (cs := es.flatten) (c := c.toArray) (by rw [List.size_toArray, h1.len]; exact Nat.le_refl _) (by rw [← h1.len]; simpa using h1) e
      refine ⟨K.alloc nx (.cells c.toArray e (0, 0)), .value _, by simp only [execOp, ho, Sem.run_bind, h4]; rfl, Ext.alloc g _, gn, ?_⟩
      refine .os nx 0 e z.length len _ len len rfl (by omega) (Nat.le_refl _) (by simp only [maxLen]; omega) (fun _ => by simp [Wd.alloc]) ⟨c.toArray, ?_, by simp [hcl]⟩
      have : (K.alloc nx (.cells c.toArray e (0, 0))).m nx = K.w.heap.size := by simp [Wd.alloc]
      rw [this]; exact alloc_new _ _
    · cases hev
  · cases hev

theorem snd_load {t : TypeId} {d : TypeDesc} {x : Operand} (ho : o.op = .load t x) (ht : P.underlying t = some d) : Snd P o (.load (sizeT P t) (isAggT P t) x) := by
  intro w0 K h nx env a out h' nx' g he hev
  simp only [opEv] at hev
  split at hev
  · rename_i p hp
    split at hev
    · rename_i cs hcs
      split at hev
      · rename_i y hy
        cases hev
        obtain ⟨u, h1, h2⟩ := load_sound g ht hcs hy (oev_sound he hp)
        exact snd_val g (v := u) (by simp [execOp, ho, h1]) h2
      · cases hev
    · cases hev
  · cases hev

theorem snd_store {t : TypeId} {d : TypeDesc} {p x : Operand} (ho : o.op = .store t p x) (ht : P.underlying t = some d) : Snd P o (.store (sizeT P t) p x) := by
  intro w0 K h nx env a out h' nx' g he hev
  simp only [opEv] at hev
  split at hev
  · rename_i p' x' hp hx
    split at hev
    · rename_i hc
      split at hev
      · rename_i h2 hst
        cases hev
        obtain ⟨K', h1, h3, h4⟩ := store_sound (P := P) g ht hc.1 hc.2 hst (oev_sound he hp) (oev_sound he hx)
        exact ⟨K', .skip, by simp [execOp, ho, h1], h3, h4, trivial⟩
      · cases hev
    · cases hev
  · cases hev

theorem snd_nilck {x : Operand} (ho : o.op = .nilCheck x) : Snd P o (.nilck x) := by
  intro w0 K h nx env a out h' nx' g he hev
  simp only [opEv] at hev
  split at hev
  · rename_i b off hx
    cases hev
    have hv := oev_sound he hx
    generalize hcv : a.eval x = cv at hv
    cases hv with
    | op _ _ hb ad ha => exact snd_val g (v := .pointer (some ad)) (by simp [execOp, ho, hcv]) (.op b off hb ad ha)
  · rename_i cs hx
    cases hev
    have hv := oev_sound he hx
    generalize hcv : a.eval x = cv at hv
    cases hv with
    | fp _ ad c h1 hr h => exact snd_val g (v := .pointer (some ad)) (by simp [execOp, ho, hcv]) (.fp cs ad c h1 hr h)
  · cases hev

theorem snd_bin {op : BinOp} {t t' : TypeId} {x y : Operand} (ho : o.op = .binOp op t x y t') : Snd P o (.bin op x y) := by
  intro w0 K h nx env a out h' nx' g he hev
  simp only [opEv] at hev
  split at hev
  · rename_i x' y' hx hy
    split at hev
    · rename_i r hr
      cases hev
      obtain ⟨z, h1, h2⟩ := binA_sound (P := P) (t := t) (ox := x) (oy := y) hr (oev_sound he hx) (oev_sound he hy)
      refine snd_val g (v := z) ?_ h2
      rw [execOp, ho]
      show (do let v ← (do eqGuard op t x y (a.eval x) (a.eval y); binOp op t (a.eval x) (a.eval y) : Sem Value); pure (Next.value v)).run P K.w = _
      rw [Sem.run_bind, h1]; rfl
    · cases hev
  · cases hev

theorem snd_eqS {neg : Bool} {t t' : TypeId} {x y : Operand} {ks : List FK} (ho : o.op = .binOp (if neg then .neq else .eql) t x y t') (hk : flatT P t = some ks) : Snd P o (.eqS neg ks x y) := by
  intro w0 K h nx env a out h' nx' g he hev
  simp only [opEv] at hev
  split at hev
  · rename_i xs ys hx hy
    split at hev
    · rename_i r hr
      cases hev
      have h1 := eqS_sound (P := P) neg (ox := x) (oy := y) hk hr (oev_sound he hx) (oev_sound he hy)
      refine snd_val g (v := .bool (if neg then !r else r)) ?_ (.bool _)
      rw [execOp, ho]
      show (do let v ← (do eqGuard (if neg then .neq else .eql) t x y (a.eval x) (a.eval y); binOp (if neg then .neq else .eql) t (a.eval x) (a.eval y) : Sem Value); pure (Next.value v)).run P K.w = _
      rw [Sem.run_bind, h1]; rfl
    · cases hev
  · cases hev

theorem eqn_core {neg : Bool} {t : TypeId} {u v : Value} {ox oy : Operand} {w : World} {b : Bool} (hg : ∀ op, (eqGuard op t ox oy u v).run P w = .ok () w) (h1 : binOp .eql t u v = (do let r ← Op.equal t u v; pure (.bool r)))
    (h2 : binOp .neq t u v = (do let r ← Op.equal t u v; pure (.bool (!r)))) (he : ∀ d, (Op.equalIn (d + 1) t u v).run P w = .ok b w) :
    (do eqGuard (if neg then .neq else .eql) t ox oy u v; binOp (if neg then .neq else .eql) t u v : Sem Value).run P w = .ok (.bool (if neg then !b else b)) w := by
  have hq : (Op.equal t u v).run P w = .ok b w := he 9999
  rw [Sem.run_bind, hg]
  cases neg
  · simp only [Bool.false_eq_true, if_false, Result.andThen_ok, h1, Sem.run_bind, hq, Sem.run_pure]
  · simp only [if_true, Result.andThen_ok, h2, Sem.run_bind, hq, Sem.run_pure]

theorem eqGuard_nil {op : BinOp} {t : TypeId} {a : Act} {ox oy c : Operand} {w : World} {v : Value} (hxy : ox = c ∨ oy = c) (hc : c = .const v) : (eqGuard op t ox oy .nilIface .nilIface).run P w = .ok () w := by
  subst hc
  cases op <;> (rcases hxy with rfl | rfl) <;> simp [eqGuard]

theorem nil_const {k : NK} {c : Operand} (h : isNilConst k c = true) : (k = .ptr ∧ c = .const (.pointer none)) ∨ (k = .sl ∧ c = .const (.slice none 0 0)) ∨ (k = .mp ∧ c = .const (.map none)) ∨ (k = .fn ∧ c = .const .nilFunc) ∨ (k = .ifc ∧ c = .const .nilIface) := by
  unfold isNilConst at h
  split at h <;> first | (simp; done) | cases h

set_option maxHeartbeats 4000000 in
theorem nil_eq {K : Wd} {nx : Nat} {t : TypeId} {k : NK} (hk : nilK P t = some k) {x : AV} {r : Bool} {u v : Value} (h : nilA k x = some r) (hv : VR K nx x u) {ox oy c : Operand} (hc : isNilConst k c = true) (a : Act)
    (hcv : v = a.eval c) (neg : Bool) (hxy : ox = c ∨ oy = c) :
    ((do eqGuard (if neg then .neq else .eql) t ox oy u v; binOp (if neg then .neq else .eql) t u v : Sem Value).run P K.w = .ok (.bool (if neg then !r else r)) K.w) ∧
    ((do eqGuard (if neg then .neq else .eql) t ox oy v u; binOp (if neg then .neq else .eql) t v u : Sem Value).run P K.w = .ok (.bool (if neg then !r else r)) K.w) := by
  rcases nil_const hc with ⟨rfl, rfl⟩ | ⟨rfl, rfl⟩ | ⟨rfl, rfl⟩ | ⟨rfl, rfl⟩ | ⟨rfl, rfl⟩ <;> simp only [Act.eval] at hcv <;> subst hcv
  all_goals
    unfold nilK at hk
    split at hk <;> first | (cases hk; done) | skip
    rename_i hu
    unfold nilA at h
    split at h <;> first | (cases h; done) | contradiction | (simp only [Option.some.injEq] at h; subst h)
  all_goals cases hv
  all_goals first
    | contradiction
    | (refine ⟨eqn_core (fun op => eqGuard_nil (a := a) hxy rfl) rfl rfl ?_, eqn_core (fun op => eqGuard_nil (a := a) hxy rfl) rfl rfl ?_⟩ <;> (intro d; simp [Op.equalIn, run_underlying hu]))
    | (refine ⟨eqn_core (fun op => eqGuard_plain op t ox oy K.w ?_ ?_) rfl rfl ?_, eqn_core (fun op => eqGuard_plain op t ox oy K.w ?_ ?_) rfl rfl ?_⟩ <;> first | (intro c; simp; done) | (simp; done) | (intro d; simp [Op.equalIn, run_underlying hu]))

theorem snd_eqN {neg : Bool} {t t' : TypeId} {x y w : Operand} {k : NK} (ho : o.op = .binOp (if neg then .neq else .eql) t x y t') (hn : nilK P t = some k) (hz : (w = x ∧ isNilConst k y = true) ∨ (w = y ∧ isNilConst k x = true)) : Snd P o (.eqN neg k w) := by
  intro w0 K h nx env a out h' nx' g he hev
  simp only [opEv] at hev
  split at hev
  · rename_i z' hz'
    split at hev
    · rename_i r hr
      cases hev
      have hv := oev_sound he hz'
      refine snd_val g (v := .bool (if neg then !r else r)) ?_ (.bool _)
      rw [execOp, ho]
      show (do let v ← (do eqGuard (if neg then .neq else .eql) t x y (a.eval x) (a.eval y); binOp (if neg then .neq else .eql) t (a.eval x) (a.eval y) : Sem Value); pure (Next.value v)).run P K.w = _
      rcases hz with ⟨rfl, hc⟩ | ⟨rfl, hc⟩
      · rw [Sem.run_bind, (nil_eq hn hr hv hc a rfl neg (.inr rfl)).1]; rfl
      · rw [Sem.run_bind, (nil_eq hn hr hv hc a rfl neg (.inl rfl)).2]; rfl
    · cases hev
  · cases hev
end
end Go.Ab
