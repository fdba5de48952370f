/- What the executor finds, the model's code does: regions that draw their order, code, calls. -/
import Derived.Test.YtdmjloieldhlnaaGreatDoorGE
namespace Go.Ab
open Go.RowKit
set_option linter.unusedVariables false
set_option linter.unusedSimpArgs false
theorem all2_eq {f : AV → AV → Bool} (hf : ∀ x y, f x y = true → x = y) : ∀ (a b : List AV), all2 f a b = true → a = b
  | [], [], _ => rfl
  | x :: r, y :: s, h => by
    simp only [all2, Bool.and_eq_true] at h
    rw [hf _ _ h.1, all2_eq hf r s h.2]
  | [], _ :: _, h => by cases h
  | _ :: _, [], h => by cases h
theorem allL_eq {f : AV → AV → Bool} (hf : ∀ x y, f x y = true → x = y) : ∀ (a b : List (List AV)), allL f a b = true → a = b
  | [], [], _ => rfl
  | x :: r, y :: s, h => by
    simp only [allL, Bool.and_eq_true] at h
    rw [all2_eq hf _ _ h.1, allL_eq hf r s h.2]
  | [], _ :: _, h => by cases h
  | _ :: _, [], h => by cases h
theorem AV.same_eq : ∀ (f : Nat) (x y : AV), AV.same f x y = true → x = y := by
  intro f
  induction f with
  | zero => intro x y h; simp [AV.same] at h
  | succ f ih =>
    intro x y h
    cases x <;> simp only [AV.same] at h <;> first | (cases h; done) | skip
    all_goals
      cases y <;> simp only at h <;> first | (cases h; done) | skip
    all_goals first
      | rfl
      | (rw [all2_eq ih _ _ h]; done)
      | (simp only [Bool.and_eq_true, Nat.beq_eq] at h; rw [h.1, allL_eq ih _ _ h.2]; done)
      | (simp only [Bool.and_eq_true, decide_eq_true_eq, beq_iff_eq, Nat.beq_eq] at h; simp [h]; done)
theorem pendB_sound {h : TH} {H : Heap} (hs : ∀ b o, h.get b = some o → hget H b = some o) : ∀ (pd : Pend), pendB h pd = true → pendOk H pd
  | [], _ => trivial
  | (i, sz, ag, p, x) :: r, hp => by
    simp only [pendB, Bool.and_eq_true] at hp
    refine ⟨?_, pendB_sound hs r hp.2⟩
    have h1 := hp.1
    split at h1
    · rename_i y hy
      rw [reloadT_sound hs hy, AV.same_eq _ _ _ h1]
    · cases h1
section
variable {P : Program} {ro : Option Nat} {N : Nat} {c : Calls'} (hc : COk P c)
include hc
theorem xD_sound {O : Nat → Option AO} {ys : List YI} (hy : YsOk P O ys) {dl : List Nat} : ∀ (l : List DStep) (pd : Pend) (e : TE) (h : TH) (n : Nat) (st : ASt), Sim O e h n dl st → xD c ys dl l pd e h n ≠ .fail → AD P (EXR O (xD c ys dl l pd e h n)) l pd st
  | [], pd, e, h, n, st, hs, hr => hs
  | ⟨i, ⟨d, g, act⟩, late⟩ :: r, pd, e, h, n, st, hs, hr => by
    simp only [xD] at hr ⊢
    unfold AD
    have hst : st = { st with heap := st.heap, nx := st.nx } := rfl
    cases hg : guardE e g with
    | none => rw [hg] at hr; exact absurd rfl hr
    | some b =>
      simp only [hg] at hr ⊢
      simp only [guardE_sound hs hg]
      cases b with
      | false =>
        simp only [putE_eq] at hr ⊢
        exact xD_sound hy r _ _ _ _ _ (hs.let d (.tup [])) hr
      | true =>
        simp only at hr ⊢
        cases act with
        | op ao =>
          simp only at hr ⊢
          cases hq : ao.quiet with
          | true =>
            simp only [hq] at hr
            simp only [if_true]
            obtain ⟨out, h', n', H', e1, e2, e3, e4⟩ := xOp_sound hs hr
            rw [e2] at hr ⊢
            obtain ⟨x, hx⟩ := quiet_val hq e1
            simp only [Prod.mk.injEq] at hx
            obtain ⟨rfl, rfl, rfl⟩ := hx
            simp only [frc_eq, putE_eq] at hr ⊢
            rw [e1]
            simp only
            exact xD_sound hy r _ _ _ _ _ (hs.put d x e3 e4) hr
          | false =>
            simp only [hq] at hr
            simp only [Bool.false_eq_true, if_false]
            have gen : (xOp ao e h n EX.fail fun out h n => (match pendB h (pendKeep late pd) with
                | false => .fail
                | true => (match out with
                  | .val x => frc x fun x => putE d x e fun e => xD c ys dl r (pendKeep late pd) e h n
                  | .skip => putE d (.tup []) e fun e => xD c ys dl r (pendKeep late pd) e h n))) ≠ .fail → 
              ∀ R : EX, R = (xOp ao e h n EX.fail fun out h n => (match pendB h (pendKeep late pd) with
                | false => .fail
                | true => (match out with
                  | .val x => frc x fun x => putE d x e fun e => xD c ys dl r (pendKeep late pd) e h n
                  | .skip => putE d (.tup []) e fun e => xD c ys dl r (pendKeep late pd) e h n))) →
              (match opEv ao st.env st.heap st.nx with
              | some (.val x, h', n') => pendOk h' (pendKeep late pd) ∧ AD P (EXR O R) r (pendKeep late pd) { st with env := setE d x st.env, heap := h', nx := n' }
              | some (.skip, h', n') => pendOk h' (pendKeep late pd) ∧ AD P (EXR O R) r (pendKeep late pd) { st with env := dropE d st.env, heap := h', nx := n' }
              | none => False) := by
              intro hr R hR
              obtain ⟨out, h', n', H', e1, e2, e3, e4⟩ := xOp_sound hs hr
              rw [e2] at hr hR
              rw [e1]
              cases hp : pendB h' (pendKeep late pd) with
              | false => rw [hp] at hr; exact absurd rfl hr
              | true =>
                simp only [hp] at hr hR
                cases out with
                | val x =>
                  simp only [frc_eq, putE_eq] at hr hR ⊢
                  rw [hR]
                  exact ⟨pendB_sound e3 _ hp, xD_sound hy r _ _ _ _ _ (hs.put d x e3 e4) hr⟩
                | skip =>
                  simp only [putE_eq] at hr hR ⊢
                  rw [hR]
                  exact ⟨pendB_sound e3 _ hp, xD_sound hy r _ _ _ _ _ (hs.put d (.tup []) e3 e4) hr⟩
            cases ao <;> first | (exfalso; simp [AOp.quiet] at hq; done) | skip
            case load sz ag o =>
              simp only at hr ⊢
              split at hr
              · rename_i p hp
                split at hr
                · rename_i x hx
                  simp only [frc_eq, putE_eq] at hr ⊢
                  simp only [hp, hx, opE_sound hs hp, reloadT_sound hs.heap hx]
                  cases hf : p.isFp with
                  | true =>
                    simp only [hf] at hr
                    simp only [if_true]
                    exact xD_sound hy r _ _ _ _ _ (hs.let d x) hr
                  | false =>
                    simp only [hf] at hr
                    simp only [Bool.false_eq_true, if_false]
                    exact xD_sound hy r _ _ _ _ _ (hs.let d x) hr
                · exact absurd rfl hr
              · exact absurd rfl hr
            all_goals exact gen hr _ rfl
        | callZ fo xs => exact absurd rfl hr
        | call fo xs =>
          have hn := hs.nx
          subst hn
          simp only at hr ⊢
          split at hr
          · rename_i f caps hf
            split at hr
            · rename_i vs hv
              simp only [opE_sound hs hf, opsE_sound hs hv]
              have hne : c.call ys f (vs ++ caps) h st.nx ≠ .fail := by intro hx; rw [hx] at hr; exact hr rfl
              refine (hc.call ys f (vs ++ caps) h _ hne O st.heap hy hs.heap hs.out).mono ?_
              intro ae H' m hxr
              rcases xRes_cases hr with ⟨y, h', n', e1, e2⟩ | ⟨y, h', n', e1, e2⟩
              · rw [e1] at hxr
                rw [e2] at hr ⊢
                cases ae <;> simp only [XRR] at hxr <;> first | exact hxr.elim | skip
                obtain ⟨rfl, rfl, k1, k2⟩ := hxr
                cases hp : pendB h' (pendKeep late pd) with
                | false => rw [hp] at hr; exact absurd rfl hr
                | true =>
                simp only [hp, putE_eq] at hr ⊢
                exact ⟨pendB_sound k1 _ hp, xD_sound hy r _ _ _ _ _ (hs.put d _ k1 k2) hr⟩
              · rw [e1] at hxr
                rw [e2] at hr ⊢
                cases ae <;> simp only [XRR] at hxr <;> first | exact hxr.elim | skip
                obtain ⟨rfl, rfl, k1, k2⟩ := hxr
                cases hp : pendB h' (pendKeep late pd) with
                | false => rw [hp] at hr; exact absurd rfl hr
                | true =>
                simp only [hp] at hr ⊢
                exact ⟨pendB_sound k1 _ hp, ⟨rfl, ⟨fun (t : Nat) (x : AV) (hx : (Tr.nil : TE).get t = some x) => (by rw [Tr.get_nil] at hx; cases hx), k1, rfl, hs.dm, k2⟩⟩⟩
            · exact absurd rfl hr
          · rename_i f fs caps hf
            split at hr
            · rename_i vs hv
              simp only [opE_sound hs hf, opsE_sound hs hv]
              have hne : c.call ys f (fs ++ (vs ++ caps)) h st.nx ≠ .fail := by intro hx; rw [hx] at hr; exact hr rfl
              refine (hc.call ys f (fs ++ (vs ++ caps)) h _ hne O st.heap hy hs.heap hs.out).mono ?_
              intro ae H' m hxr
              rcases xRes_cases hr with ⟨y, h', n', e1, e2⟩ | ⟨y, h', n', e1, e2⟩
              · rw [e1] at hxr
                rw [e2] at hr ⊢
                cases ae <;> simp only [XRR] at hxr <;> first | exact hxr.elim | skip
                obtain ⟨rfl, rfl, k1, k2⟩ := hxr
                cases hp : pendB h' (pendKeep late pd) with
                | false => rw [hp] at hr; exact absurd rfl hr
                | true =>
                simp only [hp, putE_eq] at hr ⊢
                exact ⟨pendB_sound k1 _ hp, xD_sound hy r _ _ _ _ _ (hs.put d _ k1 k2) hr⟩
              · rw [e1] at hxr
                rw [e2] at hr ⊢
                cases ae <;> simp only [XRR] at hxr <;> first | exact hxr.elim | skip
                obtain ⟨rfl, rfl, k1, k2⟩ := hxr
                cases hp : pendB h' (pendKeep late pd) with
                | false => rw [hp] at hr; exact absurd rfl hr
                | true =>
                simp only [hp] at hr ⊢
                exact ⟨pendB_sound k1 _ hp, ⟨rfl, ⟨fun (t : Nat) (x : AV) (hx : (Tr.nil : TE).get t = some x) => (by rw [Tr.get_nil] at hx; cases hx), k1, rfl, hs.dm, k2⟩⟩⟩
            · exact absurd rfl hr
          · exact absurd rfl hr
end
end Go.Ab
namespace Go.Ab
open Go.RowKit
set_option linter.unusedVariables false
set_option linter.unusedSimpArgs false
theorem AW.live {P : Program} {own : Nat → Nat → Bool} {ro : Option Nat} {N : Nat} {Q : AX → ASt → Prop} {st : ASt} {ac : ACode} (h : (∀ b o, hget st.heap b = some o → b < st.nx) → AW P own ro N ac Q st) : AW P own ro N ac Q st :=
  fun c hc w0 K a hs => h (fun b o hb => (hs.good.live b o hb).1) c hc w0 K a hs
section
variable {P : Program} {ro : Option Nat} {N : Nat} {own : Nat → Nat → Bool} {O : Nat → Option AO}
theorem loopX_sound {b : ACode} {step : TE → TH → Nat → List Nat → EX} (hst : ∀ e h n d st, Sim O e h n d st → step e h n d ≠ .fail → AW P own ro N b (EXR O (step e h n d)) st) (k : Nat) (e : TE) (h : TH) (n : Nat) (d : List Nat) (st : ASt) (hs : Sim O e h n d st) (hr : loopX step k e h n d ≠ .fail) :
    AW P own ro N (.loop b) (EXR O (loopX step k e h n d)) st := by
  obtain ⟨R, hR⟩ : ∃ R, R = loopX step k e h n d := ⟨_, rfl⟩
  rw [← hR] at hr ⊢
  refine AW_loop (fun k s => ∃ e h n d, Sim O e h n d s ∧ loopX step k e h n d = R) (n := k) ⟨e, h, n, d, hs, hR.symm⟩ ?_
  rintro k s ⟨e, h, n, d, hs, hk⟩
  cases k with
  | zero => exact absurd hk.symm hr
  | succ k =>
    simp only [loopX] at hk
    have hne : step e h n d ≠ .fail := by intro hx; rw [hx] at hk; exact hr hk.symm
    refine (hst e h n d s hs hne).mono ?_
    intro x s' hx
    cases hse : step e h n d with
    | fail => exact absurd hse hne
    | nor e' h' n' d' =>
      rw [hse] at hx hk
      cases x <;> first | exact hx.elim | skip
      exact ⟨k, by omega, e', h', n', d', hx, hk⟩
    | ext i e' h' n' d' =>
      rw [hse] at hx hk
      simp only at hk
      cases x <;> first | exact hx.elim | skip
      rw [← hk]; exact hx
    | rtn e' h' n' d' =>
      rw [hse] at hx hk
      simp only at hk
      cases x <;> first | exact hx.elim | skip
      rw [← hk]; exact hx
    | pan y e' h' n' d' =>
      rw [hse] at hx hk
      simp only at hk
      cases x <;> first | exact hx.elim | skip
      rw [← hk]; exact hx
end
section
variable {P : Program} {ro : Option Nat} {N : Nat} {c : Calls'} (hc : COk P c)
include hc
theorem runC_sound {own : Nat → Nat → Bool} (hm : P.follows .mixedOrders = true) (lf : Nat) {rd : Bool} (hro : rd = false → ro = none) {O : Nat → Option AO} {ys : List YI} (hy : YsOk P O ys) : ∀ (a : ACode) (e : TE) (h : TH) (n : Nat) (d : List Nat) (st : ASt), Sim O e h n d st → runC c lf N rd ys a e h n d ≠ .fail → AW P own ro N a (EXR O (runC c lf N rd ys a e h n d)) st := by
  intro a
  induction a with
  | skip => intro e h n d st hs hr; exact AW_skip hs
  | label => intro e h n d st hs hr; exact AW_label hs
  | exit i => intro e h n d st hs hr; exact AW_exit ⟨rfl, hs⟩
  | ret => intro e h n d st hs hr; exact AW_ret hs
  | region ss => intro e h n d st hs hr; exact AW_region fun id => xS_sound hc hy ss e h n st hs hr
  | dregion l => intro e h n d st hs hr; exact AW_dregion hm (xD_sound hc hy l [] e h n st hs hr)
  | tregion t => intro e h n d st hs hr; exact absurd rfl hr
  | seq a b iha ihb =>
    intro e h n d st hs hr
    simp only [runC] at hr ⊢
    have hne : runC c lf N rd ys a e h n d ≠ .fail := by intro hx; rw [hx] at hr; exact hr rfl
    refine AW_seq fun K hK => (iha e h n d st hs hne).mono ?_
    intro x s' hx
    cases hse : runC c lf N rd ys a e h n d with
    | fail => exact absurd hse hne
    | nor e' h' n' d' =>
      rw [hse] at hx hr
      simp only [hse] at hK
      cases x <;> first | exact hx.elim | skip
      exact hK _ (ihb e' h' n' d' s' hx hr)
    | ext i e' h' n' d' =>
      rw [hse] at hx
      cases x <;> first | exact hx.elim | skip
      exact hx
    | rtn e' h' n' d' =>
      rw [hse] at hx
      cases x <;> first | exact hx.elim | skip
      exact hx
    | pan y e' h' n' d' =>
      rw [hse] at hx
      cases x <;> first | exact hx.elim | skip
      exact hx
  | cond o a b iha ihb =>
    intro e h n d st hs hr
    simp only [runC] at hr ⊢
    split at hr
    · rename_i ho
      exact AW_cond (b := true) (opE_sound hs ho) (iha e h n d st hs hr)
    · rename_i ho
      exact AW_cond (b := false) (opE_sound hs ho) (ihb e h n d st hs hr)
    · exact absurd rfl hr
  | block id b ih =>
    intro e h n d st hs hr
    simp only [runC] at hr ⊢
    have hne : runC c lf N rd ys b e h n d ≠ .fail := by intro hx; rw [hx] at hr; exact hr rfl
    refine AW_block ((ih e h n d st hs hne).mono ?_)
    intro x s' hx
    cases hse : runC c lf N rd ys b e h n d with
    | fail => exact absurd hse hne
    | nor e' h' n' d' =>
      rw [hse] at hx
      cases x <;> first | exact hx.elim | skip
      exact hx
    | ext i e' h' n' d' =>
      rw [hse] at hx hr
      cases x <;> first | exact hx.elim | skip
      rename_i j
      obtain ⟨rfl, hx⟩ := hx
      simp only [AX.inBlock]
      by_cases hi : i = id
      · subst hi
        have : Nat.beq i i = true := by simp
        simp only [if_true, this]
        exact hx
      · have : Nat.beq i id = false := by cases h9 : Nat.beq i id <;> first | rfl | exact absurd (Nat.eq_of_beq_eq_true h9) hi
        simp only [if_neg hi, this]
        exact ⟨rfl, hx⟩
    | rtn e' h' n' d' =>
      rw [hse] at hx
      cases x <;> first | exact hx.elim | skip
      exact hx
    | pan y e' h' n' d' =>
      rw [hse] at hx
      cases x <;> first | exact hx.elim | skip
      exact hx
  | loop b ih =>
    intro e h n d st hs hr
    simp only [runC] at hr ⊢
    exact loopX_sound (fun e h n d st hs hr => ih e h n d st hs hr) lf e h n d st hs hr
  | rangeF g ps aa ab _ _ =>
    intro e h n d st hs hr
    simp only [runC] at hr ⊢
    cases rd with
    | true => exact absurd rfl hr
    | false =>
    obtain rfl := hro rfl
    have hn := hs.nx
    subst hn
    simp only at hr ⊢
    split at hr
    · rename_i gf caps hf
      split at hr
      · exact absurd rfl hr
      · rename_i hps
        simp only [List.all_eq_true] at hps
        simp only [Tr.set_eq] at hr ⊢
        have hne : c.call (⟨Nat.succ st.nx, N, ps.toList, aa, ab, e⟩ :: ys) gf (.yl (Nat.succ st.nx) :: caps) (Tr.setT (some .dfd) 24 h st.nx) (Nat.succ (Nat.succ st.nx)) ≠ .fail := by intro hx; rw [hx] at hr; exact hr rfl
        refine AW.live fun hlive => AW_rangeF (opE_sound hs hf) fun fn as bd ha hb => ?_
        have hnone : ∀ b, st.nx ≤ b → h.get b = none := fun b hb => by
          cases hg : h.get b with
          | none => rfl
          | some o => have := hlive b o (hs.heap b o hg); omega
        obtain ⟨O', hO'⟩ : ∃ O' : Nat → Option AO, O' = fun b => if b = st.nx + 1 then some (.loop false fn N st.env ps as bd st.nx) else O b := ⟨_, rfl⟩
        have hOn : O' (st.nx + 1) = some (.loop false fn N st.env ps as bd st.nx) := by rw [hO']; simp
        have hOo : ∀ b, b ≠ st.nx + 1 → O' b = O b := fun b hb => by rw [hO']; simp [hb]
        have hys : YsOk P O' (⟨Nat.succ st.nx, N, ps.toList, aa, ab, e⟩ :: ys) := by
          intro y hy'
          rcases List.mem_cons.1 hy' with rfl | hy'
          · exact ⟨own, fn, st.env, ps, as, bd, st.nx, hOn, rfl, fun p hp => Nat.le_of_ble_eq_true (hps p hp), ha, hb, hs.env⟩
          · obtain ⟨ow, fn', env', ps', as', bd', dm', k1, k2⟩ := hy y hy'
            have := (hs.out _ _ k1).1
            exact ⟨ow, fn', env', ps', as', bd', dm', by rw [hOo _ (by omega)]; exact k1, k2⟩
        have hsub : SubT (Tr.setT (some .dfd) 24 h st.nx) ((st.nx + 1, .loop false fn N st.env ps as bd st.nx) :: (st.nx, .dfd) :: st.heap) := by
          intro b o hb
          have := Tr.get_setT _ _ _ _ _ _ hb
          rw [hget_cons, hget_cons]
          by_cases e1 : b = st.nx
          · rw [if_pos e1] at this; rw [if_neg (by omega), if_pos e1.symm]; exact this
          · rw [if_neg e1] at this
            have := hs.heap b o this
            have := hlive b o this
            rw [if_neg (by omega), if_neg (by omega)]; assumption
        have hout : OutOk O' (Tr.setT (some .dfd) 24 h st.nx) ((st.nx + 1, .loop false fn N st.env ps as bd st.nx) :: (st.nx, .dfd) :: st.heap) (Nat.succ (Nat.succ st.nx)) := by
          intro b o hb
          by_cases e1 : b = st.nx + 1
          · subst e1
            refine ⟨by omega, Tr.get_setT_none (by omega) (hnone _ (by omega)), ?_⟩
            rw [hget_cons, if_pos rfl, ← hOn, hb]
          · rw [hOo b e1] at hb
            obtain ⟨k1, k2, k3⟩ := hs.out b o hb
            refine ⟨by omega, Tr.get_setT_none (by omega) k2, ?_⟩
            rw [hget_cons, if_neg (by omega), hget_cons, if_neg (by omega)]; exact k3
        refine (hc.call _ gf _ _ _ hne O' _ hys hsub hout).mono ?_
        intro ae H' m hxr
        cases hR : c.call (⟨Nat.succ st.nx, N, ps.toList, aa, ab, e⟩ :: ys) gf (.yl (Nat.succ st.nx) :: caps) (Tr.setT (some .dfd) 24 h st.nx) (Nat.succ (Nat.succ st.nx)) with
        | fail => exact absurd hR hne
        | pan y h' n' => rw [hR] at hr; exact absurd rfl hr
        | ok y h' n' =>
          rw [hR] at hxr hr
          cases ae <;> simp only [XRR] at hxr <;> first | exact hxr.elim | skip
          obtain ⟨rfl, rfl, k1, k2⟩ := hxr
          obtain ⟨q1, q2, q3⟩ := k2 _ _ hOn
          have q2' : h'.get (Nat.succ st.nx) = none := q2
          refine ⟨⟨_, rfl⟩, .inl ⟨q3, ?_⟩⟩
          simp only [rngX, q2']
          refine ⟨hs.env, fun b o hb => ?_, rfl, by rw [hs.dm], fun b o hb => ?_⟩
          · have hne : b ≠ st.nx + 1 := by intro e1; subst e1; rw [q2] at hb; cases hb
            rw [hget_hdel, if_neg (fun e1 => hne e1.symm)]; exact k1 b o hb
          · have h1 := (hs.out b o hb).1
            have hne : b ≠ st.nx + 1 := by omega
            obtain ⟨r1, r2, r3⟩ := k2 b o (by rw [hOo b hne]; exact hb)
            exact ⟨r1, r2, by rw [hget_hdel, if_neg (fun e1 => hne e1.symm)]; exact r3⟩
    · exact absurd rfl hr
end
end Go.Ab
namespace Go.Ab
open Go.RowKit
set_option linter.unusedVariables false
set_option linter.unusedSimpArgs false
theorem bindX_spec : ∀ (ps : List Nat) (xs : List AV) (e : TE) (env : Env), (∀ t x, e.get t = some x → eget env t = some x) → ∃ T : TE, (∀ (R : Type) (k : TE → R), bindX ps xs e k = k T) ∧ ∀ t x, T.get t = some x → eget (bindP ps xs env) t = some x
  | [], xs, e, env, he => ⟨e, fun R k => rfl, he⟩
  | p :: ps, [], e, env, he => ⟨e, fun R k => rfl, he⟩
  | p :: ps, x :: xs, e, env, he => by
    obtain ⟨T, hT, hs⟩ := bindX_spec ps xs (Tr.setT (some x) 20 e p) ((p, x) :: env) fun t y ht => by
      have := Tr.get_setT _ _ _ _ _ _ ht
      rw [eget_cons]
      by_cases e1 : t = p
      · rw [if_pos e1] at this; rw [if_pos e1.symm]; exact this
      · rw [if_neg e1] at this; rw [if_neg (fun h => e1 h.symm)]; exact he t y this
    exact ⟨T, fun R k => by simp only [bindX, Tr.set_eq, hT], hs⟩
theorem dropY_mem {b : Nat} : ∀ {ys : List YI} {y : YI}, y ∈ dropY b ys → y ∈ ys ∧ y.b ≠ b
  | [], y, h => by simp [dropY] at h
  | z :: r, y, h => by
    simp only [dropY] at h
    split at h
    · have := dropY_mem h; exact ⟨List.mem_cons_of_mem _ this.1, this.2⟩
    · rename_i hb
      rcases List.mem_cons.1 h with rfl | h
      · exact ⟨List.mem_cons_self, fun e => by rw [e] at hb; simp at hb⟩
      · have := dropY_mem h; exact ⟨List.mem_cons_of_mem _ this.1, this.2⟩
theorem YsOk.drop {P : Program} {O : Nat → Option AO} {ys : List YI} (h : YsOk P O ys) (b : Nat) : YsOk P O (dropY b ys) := fun y hy => h y (dropY_mem hy).1
section
variable {P : Program} {c : Calls'} (hc : COk P c) (hm : P.follows .mixedOrders = true)
include hc hm
theorem yldF_sound (lf : Nat) (ys : List YI) (y : YI) (xs : List AV) (h : TH) (n : Nat) (hr : yldF c lf ys y xs h n ≠ .fail) (hmem : y ∈ ys) (O : Nat → Option AO) (H : Heap) (hys : YsOk P O ys) (hsub : SubT h H) (hout : OutOk O h H n) : AY P y.b xs H n (XRR O (yldF c lf ys y xs h n)) := by
  obtain ⟨own, fn, env, ps, as, bd, dm, k1, rfl', k3, k4, k5, k6⟩ := hys y hmem
  obtain ⟨q1, q2, q3⟩ := hout _ _ k1
  unfold yldF at hr ⊢
  cases hl : Nat.beq (lenL xs 0) (lenL y.ps 0) with
  | false => rw [hl] at hr; exact absurd rfl hr
  | true =>
  simp only [hl] at hr ⊢
  have hl := Nat.eq_of_beq_eq_true hl
  rw [lenL_eq, lenL_eq] at hl
  obtain ⟨T, hT, hTs⟩ := bindX_spec y.ps xs y.e env k6
  rw [hT] at hr ⊢
  have hs0 : Sim O T h n [] { env := bindP ps.toList xs env, heap := H, nx := n } := ⟨by rw [rfl']; exact hTs, hsub, rfl, rfl, hout⟩
  cases hA : runC c lf y.N true (dropY y.b ys) y.aa T h n [] with
  | fail => rw [hA] at hr; exact absurd rfl hr
  | ext i e1 h1 n1 d1 => rw [hA] at hr; exact absurd rfl hr
  | rtn e1 h1 n1 d1 => rw [hA] at hr; exact absurd rfl hr
  | pan v e1 h1 n1 d1 => rw [hA] at hr; exact absurd rfl hr
  | nor e1 h1 n1 d1 =>
  rw [hA] at hr
  cases d1 with
  | cons a b => exact absurd rfl hr
  | nil =>
  simp only at hr ⊢
  cases hB : runC c lf y.N true (dropY y.b ys) y.ab e1 h1 n1 [] with
  | fail => rw [hB] at hr; exact absurd rfl hr
  | ext i e2 h2 n2 d2 => rw [hB] at hr; exact absurd rfl hr
  | rtn e2 h2 n2 d2 => rw [hB] at hr; exact absurd rfl hr
  | pan v e2 h2 n2 d2 => rw [hB] at hr; exact absurd rfl hr
  | nor e2 h2 n2 d2 =>
  rw [hB] at hr
  cases d2 with
  | cons a b => exact absurd rfl hr
  | nil =>
  simp only
  refine AY_round k4 k5 q3 (by rw [← Array.length_toList, rfl']; omega) k3 fun l => ?_
  have hneA : runC c lf y.N true (dropY y.b ys) y.aa T h n [] ≠ .fail := by rw [hA]; intro hx; cases hx
  refine (runC_sound hc hm lf (ro := some l) (by simp) (hys.drop y.b) y.aa T h n [] _ hs0 hneA).mono ?_
  intro x s hx
  rw [hA] at hx
  cases x <;> first | exact hx.elim | skip
  have hx : Sim O e1 h1 n1 [] s := hx
  obtain ⟨r1, r2, r3⟩ := hx.out _ _ k1
  refine ⟨rfl, hx.dm, r3, ?_⟩
  obtain ⟨O2, hO2⟩ : ∃ O2 : Nat → Option AO, O2 = fun b => if b = y.b then some (.loop true fn y.N env ps as bd dm) else O b := ⟨_, rfl⟩
  have hOn : O2 y.b = some (.loop true fn y.N env ps as bd dm) := by rw [hO2]; simp
  have hOo : ∀ b, b ≠ y.b → O2 b = O b := fun b hb => by rw [hO2]; simp [hb]
  have hys2 : YsOk P O2 (dropY y.b ys) := by
    intro z hz
    obtain ⟨hz1, hz2⟩ := dropY_mem hz
    obtain ⟨ow, fn', env', ps', as', bd', dm', p1, p2⟩ := hys z hz1
    exact ⟨ow, fn', env', ps', as', bd', dm', by rw [hOo _ hz2]; exact p1, p2⟩
  have hs2 : Sim O2 e1 h1 n1 [] { s with heap := hset s.heap y.b (.loop true fn y.N env ps as bd dm) } := by
    refine ⟨hx.env, fun b o hb => ?_, hx.nx, hx.dm, fun b o hb => ?_⟩
    · have hne : b ≠ y.b := by intro e; subst e; rw [r2] at hb; cases hb
      rw [hget_hset, if_neg (fun e => hne e.symm)]; exact hx.heap b o hb
    · by_cases e : b = y.b
      · subst e
        exact ⟨r1, r2, by rw [hget_hset, if_pos rfl, ← hOn, hb]⟩
      · rw [hOo b e] at hb
        obtain ⟨p1, p2, p3⟩ := hx.out b o hb
        exact ⟨p1, p2, by rw [hget_hset, if_neg (fun e' => e e'.symm)]; exact p3⟩
  have hneB : runC c lf y.N true (dropY y.b ys) y.ab e1 h1 n1 [] ≠ .fail := by rw [hB]; intro hx; cases hx
  refine (runC_sound hc hm lf (ro := some l) (by simp) hys2 y.ab e1 h1 n1 [] _ hs2 hneB).mono ?_
  intro x s' hx'
  rw [hB] at hx'
  cases x <;> first | exact hx'.elim | skip
  have hx' : Sim O2 e2 h2 n2 [] s' := hx'
  obtain ⟨u1, u2, u3⟩ := hx'.out _ _ hOn
  refine ⟨fun v hv => (by cases hv), hx'.dm, u3, ?_⟩
  refine ⟨rfl, hx'.nx, fun b o hb => ?_, fun b o hb => ?_⟩
  · have hne : b ≠ y.b := by intro e; subst e; rw [u2] at hb; cases hb
    rw [hget_hset, if_neg (fun e => hne e.symm)]; exact hx'.heap b o hb
  · by_cases e : b = y.b
    · subst e
      refine ⟨u1, u2, ?_⟩
      rw [hget_hset, if_pos rfl]
      rw [k1] at hb; exact hb
    · obtain ⟨p1, p2, p3⟩ := hx'.out b o (by rw [hOo b e]; exact hb)
      exact ⟨p1, p2, by rw [hget_hset, if_neg (fun e' => e e'.symm)]; exact p3⟩
end
theorem penvX_spec : ∀ (xs : List AV) (i : Nat) (e : TE), ∃ T : TE, (∀ (R : Type) (k : TE → R), penvX i xs e k = k T) ∧ ∀ t x, T.get t = some x → eget (penv i xs) t = some x ∨ e.get t = some x
  | [], i, e => ⟨e, fun R k => rfl, fun t x hx => .inr hx⟩
  | y :: r, i, e => by
    obtain ⟨T, hT, hs⟩ := penvX_spec r (i + 1) (Tr.setT (some y) 20 e i)
    refine ⟨T, fun R k => by simp only [penvX, Tr.set_eq, hT], fun t x hx => ?_⟩
    simp only [penv, eget_cons]
    rcases hs t x hx with h | h
    · have hp := eget_penv r (i + 1) t
      rw [hp] at h
      split at h
      · left; rw [if_neg (by omega), hp, if_pos (by omega)]; exact h
      · cases h
    · have := Tr.get_setT _ _ _ _ _ _ h
      by_cases e1 : t = i
      · rw [if_pos e1] at this; left; rw [if_pos e1.symm]; exact this
      · rw [if_neg e1] at this; right; exact this
theorem penvX_spec0 (xs : List AV) : ∃ T : TE, (∀ (R : Type) (k : TE → R), penvX 0 xs .nil k = k T) ∧ ∀ t x, T.get t = some x → eget (penv 0 xs) t = some x := by
  obtain ⟨T, h1, h2⟩ := penvX_spec xs 0 .nil
  exact ⟨T, h1, fun t x hx => (h2 t x hx).elim id fun h => by rw [Tr.get_nil] at h; cases h⟩
theorem rvsX_sound {e : TE} {h : TH} {env : Env} {H : Heap} (he : ∀ t x, e.get t = some x → eget env t = some x) (hh : SubT h H) : ∀ {rs : List RV} {ys : List AV}, rvsX e h rs = some ys → rvsEv env H rs = some ys
  | [], ys, h1 => h1
  | r :: rs, ys, h1 => by
    simp only [rvsX] at h1
    split at h1
    · rename_i x hx
      split at h1
      · rename_i xs hxs
        have e1 : rvEv env H r = some x := by
          cases r with
          | tmp t => exact he t x hx
          | cell t sz ag =>
            simp only [rvX] at hx
            split at hx
            · rename_i p hp
              have := reloadT_sound hh hx
              simp only [rvEv, he t p hp]
              exact this
            · cases hx
        simp only [rvsEv, e1, rvsX_sound he hh hxs]; exact h1
      · cases h1
    · cases h1
theorem delsX_spec : ∀ (d : List Nat) (h : TH) (k : TH → XR), delsX d h k ≠ .fail → ∃ T : TH, delsX d h k = k T ∧ ∀ O H n, SubT h H → OutOk O h H n → dmOk H d ∧ SubT T (dels H d) ∧ OutOk O T (dels H d) n
  | [], h, k, hr => ⟨h, rfl, fun O H n hs ho => ⟨trivial, hs, ho⟩⟩
  | b :: r, h, k, hr => by
    simp only [delsX] at hr ⊢
    split at hr
    · rename_i hb
      simp only [Tr.set_eq] at hr ⊢
      obtain ⟨T, h1, h2⟩ := delsX_spec r _ k hr
      refine ⟨T, h1, fun O H n hs ho => ?_⟩
      obtain ⟨q1, q2, q3⟩ := h2 O (hdel H b) n (hs.del 24 b) (ho.del hb 24)
      exact ⟨⟨hs b _ hb, q1⟩, q2, q3⟩
    · exact absurd rfl hr
theorem resX_spec {rs : List RV} {e : TE} {h : TH} {n : Nat} (hr : resX rs e h n ≠ .fail) : ∃ ys, rvsX e h rs = some ys ∧ resX rs e h n = .ok (resV ys) h n := by
  unfold resX at hr ⊢
  split at hr
  · rename_i ys hys; exact ⟨ys, hys, by rw [frc_eq]⟩
  · exact absurd rfl hr
theorem finX_sound {O : Nat → Option AO} {rs : List RV} {R : EX} {x : AX} {s : ASt} (hx : EXR O R x s) (hr : finX rs R ≠ .fail) : Fin rs (XRR O (finX rs R)) x s := by
  cases R with
  | fail => exact hx.elim
  | ext i e h n d => exact absurd rfl hr
  | nor e h n d =>
    cases x <;> first | exact hx.elim | skip
    have hx : Sim O e h n d s := hx
    simp only [finX] at hr ⊢
    obtain ⟨T, h1, h2⟩ := delsX_spec _ _ _ hr
    rw [h1] at hr ⊢
    obtain ⟨q1, q2, q3⟩ := h2 O s.heap n hx.heap hx.out
    obtain ⟨ys, h3, h4⟩ := resX_spec hr
    rw [← hx.dm] at q1 q2 q3
    refine ⟨q1, ys, rvsX_sound hx.env q2 h3, ?_⟩
    rw [h4]
    exact ⟨rfl, hx.nx, q2, q3⟩
  | rtn e h n d =>
    cases x <;> first | exact hx.elim | skip
    have hx : Sim O e h n d s := hx
    simp only [finX] at hr ⊢
    obtain ⟨T, h1, h2⟩ := delsX_spec _ _ _ hr
    rw [h1] at hr ⊢
    obtain ⟨q1, q2, q3⟩ := h2 O s.heap n hx.heap hx.out
    obtain ⟨ys, h3, h4⟩ := resX_spec hr
    rw [← hx.dm] at q1 q2 q3
    refine ⟨q1, ys, rvsX_sound hx.env q2 h3, ?_⟩
    rw [h4]
    exact ⟨rfl, hx.nx, q2, q3⟩
  | pan v e h n d =>
    cases x <;> first | exact hx.elim | skip
    obtain ⟨rfl, hx⟩ := hx
    simp only [finX] at hr ⊢
    obtain ⟨T, h1, h2⟩ := delsX_spec _ _ _ hr
    rw [h1]
    obtain ⟨q1, q2, q3⟩ := h2 O s.heap n hx.heap hx.out
    rw [← hx.dm] at q1 q2 q3
    exact ⟨q1, rfl, hx.nx, q2, q3⟩
theorem xSC_sound {O : Nat → Option AO} : ∀ (ss : List AStep) (e : TE) (h : TH) (n : Nat) (st : ASt), Sim O e h n [] st → xSC ss e h n ≠ .fail → ∃ e' h' n' st', xSC ss e h n = .nor e' h' n' [] ∧ StS ss st st' ∧ Sim O e' h' n' [] st'
  | [], e, h, n, st, hs, hr => ⟨e, h, n, st, rfl, .nil st, hs⟩
  | ⟨d, g, act⟩ :: r, e, h, n, st, hs, hr => by
    simp only [xSC] at hr ⊢
    cases hg : guardE e g with
    | none => rw [hg] at hr; exact absurd rfl hr
    | some b =>
      simp only [hg] at hr ⊢
      cases b with
      | false =>
        simp only [putE_eq] at hr ⊢
        obtain ⟨e', h', n', st', q1, q2, q3⟩ := xSC_sound r _ _ _ _ (hs.let d (.tup [])) hr
        exact ⟨e', h', n', st', q1, .off (guardE_sound hs hg) q2, q3⟩
      | true =>
        simp only at hr ⊢
        cases act with
        | callZ fo xs => exact absurd rfl hr
        | call fo xs => exact absurd rfl hr
        | op ao =>
          simp only at hr ⊢
          obtain ⟨out, h', n', H', e1, e2, e3, e4⟩ := xOp_sound hs hr
          rw [e2] at hr ⊢
          cases out with
          | val x =>
            simp only [frc_eq, putE_eq] at hr ⊢
            obtain ⟨e', h'', n'', st', q1, q2, q3⟩ := xSC_sound r _ _ _ _ (hs.put d x e3 e4) hr
            exact ⟨e', h'', n'', st', q1, .val (guardE_sound hs hg) e1 q2, q3⟩
          | skip =>
            simp only [putE_eq] at hr ⊢
            obtain ⟨e', h'', n'', st', q1, q2, q3⟩ := xSC_sound r _ _ _ _ (hs.put d (.tup []) e3 e4) hr
            exact ⟨e', h'', n'', st', q1, .skp (guardE_sound hs hg) e1 q2, q3⟩
def FI.ok (P : Program) (f : FuncId) : FI → Prop
  | .code N ac rs => ∃ own, Is P own f N ac rs
  | .pure g => ∀ xs y, g xs = some y → Pure P f xs y ∧ y.flat = true
  | .dfr N df rs => ∃ own, IsDf P own f N df rs
  | .clo N cl => ∃ own, IsCl P own f N cl
theorem IceA.refl (h : Heap) : ∀ xs : List AV, IceA h xs xs
  | [] => trivial
  | x :: xs => ⟨.refl h x, IceA.refl h xs⟩
theorem AC.roN {P : Program} {f : FuncId} {xs : List AV} {r : AV} {h : Heap} {nx : Nat} (hc : Pure P f xs r) (hr : r.flat = true) : AC P f xs h nx fun y h' n' => y = .ret r ∧ h' = h ∧ n' = nx := by
  refine ⟨(hc [] nx).1, fun w0 K args hg ha => ?_⟩
  refine ((hc [] nx).2 K.w K.all args hg.all ⟨by rw [ha.1], fun i y v hy hv => ?_⟩).mono ?_
  · exact (IceA.refl h xs).at i y y hy hy w0 K nx v hg (ha.2 i _ v hy hv)
  rintro e w' ⟨K', h', nx', y, rfl, hext, hgood, her, rfl, rfl, hle⟩
  have hle : w0.heap.size ≤ K.w.heap.size := hg.below.size
  have bk : ∀ b, b < K.w.heap.size → K'.w.heap[b]? = K.w.heap[b]? := fun b hb => hgood.below.block b hb
  have hex : Ext K nx { K with w := K'.w } nx :=
    ⟨Nat.le_refl _, fun _ _ => rfl, fun _ _ h => h, fun b o hz => by simp only [World.cell?, bk b (hg.zin b o hz)], fun b c e hb => ⟨c, by simp only; rw [bk b (lt_of_row hb)]; exact hb, rfl⟩, rfl, fun _ _ h => .inl h, rfl⟩
  refine ⟨{ K with w := K'.w }, h, nx, .ret r, rfl, hex, ?_, ?_, rfl, rfl, rfl⟩
  · refine ⟨fun b o hb => ?_, hg.inj, hg.below.trans (hgood.below.mono hle), fun b off hz => Nat.lt_of_lt_of_le (hg.zin b off hz) hgood.below.size, hg.lo, hg.gl.mono hex⟩
    obtain ⟨h1, h2, h3, ob, h4, h5⟩ := hg.live b o hb
    exact ⟨h1, h2, h3, ob, by simp only; rw [bk _ (lt_of_row h4)]; exact h4, h5.mono hex⟩
  · cases e <;> simp only [AER] at her ⊢ <;> exact her.flat hr
section
variable {P : Program} {c : Calls'} (hc : COk P c) (hm : P.follows .mixedOrders = true) {tab : Tr FI} (htab : ∀ f i, tab.get f = some i → FI.ok P f i)
include hc hm htab
theorem cloX_sound (lf : Nat) {cf : FuncId} {cs : List AV} {u : Option AV} {h : TH} {n : Nat} {k : TH → Nat → XR} (hr : cloX c tab lf cf cs u h n k ≠ .fail) : ∃ T m, cloX c tab lf cf cs u h n k = k T m ∧
    ∀ (O : Nat → Option AO) (H : Heap) (Q : Heap → Nat → Prop), SubT h H → OutOk O h H n → (∀ H', SubT T H' → OutOk O T H' m → Q H' m) → ADf P cf cs H n u Q := by
  unfold cloX at hr ⊢
  split at hr
  · rename_i N cl hf
    obtain ⟨own, hi⟩ := htab cf _ hf
    cases hl : Nat.ble cs.length N with
    | false => rw [hl] at hr; exact absurd rfl hr
    | true =>
    simp only [hl] at hr ⊢
    obtain ⟨T0, hT, hTs⟩ := penvX_spec0 cs
    rw [hT] at hr ⊢
    simp only [Tr.set_eq] at hr ⊢
    have hne1 : xSC cl.ss (Tr.setT (some (rcA u)) 20 T0 cl.t) h n ≠ .fail := by intro hx; rw [hx] at hr; exact hr rfl
    have hsim : ∀ O H, SubT h H → OutOk O h H n → Sim O (Tr.setT (some (rcA u)) 20 T0 cl.t) h n [] { env := (cl.t, rcA u) :: penv 0 cs, heap := H, nx := n } := fun O H hs ho => by
      refine ⟨fun t x hx => ?_, hs, rfl, rfl, ho⟩
      have := Tr.get_setT _ _ _ _ _ _ hx
      rw [eget_cons]
      by_cases e1 : t = cl.t
      · rw [if_pos e1] at this; rw [if_pos e1.symm]; exact this
      · rw [if_neg e1] at this; rw [if_neg (fun h => e1 h.symm)]; exact hTs t x this
    cases hA : xSC cl.ss (Tr.setT (some (rcA u)) 20 T0 cl.t) h n with
    | fail => exact absurd hA hne1
    | ext i e1 h1 n1 d1 => rw [hA] at hr; exact absurd rfl hr
    | rtn e1 h1 n1 d1 => rw [hA] at hr; exact absurd rfl hr
    | pan v e1 h1 n1 d1 => rw [hA] at hr; exact absurd rfl hr
    | nor e1 h1 n1 d1 =>
    rw [hA] at hr
    cases d1 with
    | cons a b => exact absurd rfl hr
    | nil =>
    simp only at hr ⊢
    have hneB : runC c lf N false [] cl.ac e1 h1 n1 [] ≠ .fail := by intro hx; rw [hx] at hr; exact hr rfl
    have fin : ∀ h2 n2 (good : ∀ (O : Nat → Option AO) (H : Heap) s x, EXR O (runC c lf N false [] cl.ac e1 h1 n1 []) x s → (x = .normal ∨ x = .ret) ∧ s.dm = [] ∧ s.nx = n2 ∧ SubT h2 s.heap ∧ OutOk O h2 s.heap n2) (O : Nat → Option AO) (H : Heap) (Q : Heap → Nat → Prop), SubT h H → OutOk O h H n → (∀ H', SubT h2 H' → OutOk O h2 H' n2 → Q H' n2) → ADf P cf cs H n u Q := by
      intro h2 n2 good O H Q hs ho hq
      obtain ⟨e', h', n', st', p1, p2, p3⟩ := xSC_sound cl.ss _ h n _ (hsim O H hs ho) hne1
      rw [hA] at p1
      simp only [EX.nor.injEq] at p1
      obtain ⟨rfl, rfl, rfl, _⟩ := p1
      refine ADf_of hi (Nat.le_of_ble_eq_true hl) p2 ?_
      refine (runC_sound hc hm lf (by simp) (O := O) (ys := []) (fun y hy => by simp at hy) cl.ac e1 h1 n1 [] st' p3 hneB).mono ?_
      intro x s hx
      obtain ⟨g1, g2, g3, g4, g5⟩ := good O H s x hx
      exact ⟨g1, g2, by rw [g3]; exact hq _ g4 g5⟩
    cases hB : runC c lf N false [] cl.ac e1 h1 n1 [] with
    | fail => exact absurd hB hneB
    | ext i e2 h2 n2 d2 => rw [hB] at hr; exact absurd rfl hr
    | pan v e2 h2 n2 d2 => rw [hB] at hr; exact absurd rfl hr
    | nor e2 h2 n2 d2 =>
      rw [hB] at hr
      cases d2 with
      | cons a b => exact absurd rfl hr
      | nil =>
        refine ⟨h2, n2, rfl, fin h2 n2 fun O H s x hx => ?_⟩
        rw [hB] at hx
        cases x <;> first | exact hx.elim | skip
        have hx : Sim O e2 h2 n2 [] s := hx
        exact ⟨.inl rfl, hx.dm, hx.nx, hx.heap, hx.out⟩
    | rtn e2 h2 n2 d2 =>
      rw [hB] at hr
      cases d2 with
      | cons a b => exact absurd rfl hr
      | nil =>
        refine ⟨h2, n2, rfl, fin h2 n2 fun O H s x hx => ?_⟩
        rw [hB] at hx
        cases x <;> first | exact hx.elim | skip
        have hx : Sim O e2 h2 n2 [] s := hx
        exact ⟨.inr rfl, hx.dm, hx.nx, hx.heap, hx.out⟩
  · exact absurd rfl hr
theorem finDX_sound (lf : Nat) {O : Nat → Option AO} {cf : FuncId} {cs : List AV} {rs : List RV} {R : EX} {x : AX} {s : ASt} (hx : EXR O R x s) (hr : finDX c tab lf cf cs rs R ≠ .fail) : FinD P cf cs rs (XRR O (finDX c tab lf cf cs rs R)) x s := by
  have key : ∀ (u : Option AV) (e : TE) (h : TH) (n : Nat) (d : List Nat), Sim O e h n d s → (delsX d h fun h => cloX c tab lf cf cs u h n fun h n => resX rs e h n) ≠ .fail → dmOk s.heap s.dm ∧ 
      ADf P cf cs (dels s.heap s.dm) s.nx u fun h' n' => ∃ ys, rvsEv s.env h' rs = some ys ∧ XRR O (delsX d h fun h => cloX c tab lf cf cs u h n fun h n => resX rs e h n) (.ret (resV ys)) h' n' := by
    intro u e h n d hx hr
    obtain ⟨T, h1, h2⟩ := delsX_spec _ _ _ hr
    rw [h1] at hr ⊢
    obtain ⟨q1, q2, q3⟩ := h2 O s.heap n hx.heap hx.out
    obtain ⟨T2, m, h3, h4⟩ := cloX_sound hc hm htab lf hr
    rw [h3] at hr ⊢
    rw [← hx.dm] at q1 q2 q3
    refine ⟨q1, ?_⟩
    rw [hx.nx]
    refine h4 O _ _ q2 q3 fun H' k1 k2 => ?_
    obtain ⟨ys, h5, h6⟩ := resX_spec hr
    refine ⟨ys, rvsX_sound hx.env k1 h5, ?_⟩
    rw [h6]
    exact ⟨rfl, rfl, k1, k2⟩
  cases R with
  | fail => exact hx.elim
  | ext i e h n d => exact absurd rfl hr
  | nor e h n d =>
    cases x <;> first | exact hx.elim | skip
    exact key none e h n d hx hr
  | rtn e h n d =>
    cases x <;> first | exact hx.elim | skip
    exact key none e h n d hx hr
  | pan v e h n d =>
    cases x <;> first | exact hx.elim | skip
    obtain ⟨rfl, hx⟩ := hx
    exact key (some _) e h n d hx hr
end
section
variable {P : Program} {c : Calls'} (hc : COk P c) (hm : P.follows .mixedOrders = true)
include hc hm
theorem preX_sound {own : Nat → Nat → Bool} (lf N : Nat) {O : Nat → Option AO} {ys : List YI} (hy : YsOk P O ys) (rs : List RV) {k : TE → TH → Nat → XR} {t : Tmp} {cf : FuncId} {caps : List Operand} {post : ACode}
    (hk : ∀ e h n st, Sim O e h n [] st → k e h n ≠ .fail → WD P own N rs (XRR O (k e h n)) t cf caps post [] st) : ∀ (l : List ACode) (e : TE) (h : TH) (n : Nat) (st : ASt), Sim O e h n [] st → preX c lf N ys rs k l e h n ≠ .fail → WD P own N rs (XRR O (preX c lf N ys rs k l e h n)) t cf caps post l st
  | [], e, h, n, st, hs, hr => hk e h n st hs hr
  | a :: l, e, h, n, st, hs, hr => by
    simp only [preX] at hr ⊢
    have hne : runC c lf N false ys a e h n [] ≠ .fail := by intro hx; rw [hx] at hr; exact hr rfl
    refine (runC_sound hc hm lf (by simp) hy a e h n [] st hs hne).mono ?_
    intro x s hx
    cases hA : runC c lf N false ys a e h n [] with
    | fail => exact absurd hA hne
    | nor e1 h1 n1 d1 =>
      rw [hA] at hr hx
      cases d1 with
      | cons a b => exact absurd rfl hr
      | nil =>
        cases x <;> first | exact hx.elim | skip
        exact preX_sound lf N hy rs hk l e1 h1 n1 s hx hr
    | ext i e1 h1 n1 d1 => rw [hA] at hr; exact absurd rfl hr
    | rtn e1 h1 n1 d1 =>
      rw [hA] at hr hx
      cases x <;> first | exact hx.elim | skip
      exact finX_sound (R := .rtn e1 h1 n1 d1) (x := .ret) hx hr
    | pan v e1 h1 n1 d1 =>
      rw [hA] at hr hx
      cases x <;> first | exact hx.elim | skip
      exact finX_sound (R := .pan v e1 h1 n1 d1) (x := .panic _) hx hr
end
section
variable {P : Program} {c : Calls'} (hc : COk P c) (hm : P.follows .mixedOrders = true) {tab : Tr FI} (htab : ∀ f i, tab.get f = some i → FI.ok P f i)
include hc hm htab
theorem callF_sound (lf : Nat) (ys : List YI) (f : FuncId) (xs : List AV) (h : TH) (n : Nat) (hr : callF c tab lf ys f xs h n ≠ .fail) (O : Nat → Option AO) (H : Heap) (hy : YsOk P O ys) (hsub : SubT h H) (hout : OutOk O h H n) : AC P f xs H n (XRR O (callF c tab lf ys f xs h n)) := by
  unfold callF at hr ⊢
  split at hr
  · rename_i N ac rs hf
    obtain ⟨own, hi⟩ := htab f _ hf
    cases hl : Nat.ble xs.length N with
    | false => rw [hl] at hr; exact absurd rfl hr
    | true =>
    simp only [hl] at hr ⊢
    obtain ⟨T, hT, hTs⟩ := penvX_spec0 xs
    rw [hT] at hr ⊢
    refine AC.is hi (Nat.le_of_ble_eq_true hl) ?_
    have hne : runC c lf N false ys ac T h n [] ≠ .fail := by intro hx; rw [hx] at hr; exact hr rfl
    refine (runC_sound hc hm lf (by simp) hy ac T h n [] _ ⟨hTs, hsub, rfl, rfl, hout⟩ hne).mono ?_
    intro x s hx
    exact finX_sound hx hr
  · rename_i g hf
    have hg := htab f _ hf
    split at hr
    · rename_i y hgy
      simp only [frc_eq] at hr ⊢
      obtain ⟨h1, h2⟩ := hg xs y hgy
      refine (AC.roN h1 h2).mono ?_
      rintro _ _ _ ⟨rfl, rfl, rfl⟩
      exact ⟨rfl, rfl, hsub, hout⟩
    · exact absurd rfl hr
  · rename_i N df rs hf
    obtain ⟨own, hi⟩ := htab f _ hf
    cases hl : Nat.ble xs.length N with
    | false => rw [hl] at hr; exact absurd rfl hr
    | true =>
    simp only [hl] at hr ⊢
    obtain ⟨T, hT, hTs⟩ := penvX_spec0 xs
    rw [hT] at hr ⊢
    refine AC.df hi (Nat.le_of_ble_eq_true hl) ?_
    refine preX_sound hc hm lf N hy rs (fun e h n st hs hk => ?_) df.pre T h n _ ⟨hTs, hsub, rfl, rfl, hout⟩ hr
    split at hk
    · rename_i cs hcs
      simp only [Tr.set_eq] at hk ⊢
      refine ⟨hs.dm, cs, opsE_sound hs hcs, ?_⟩
      have hne : runC c lf N false ys df.post (Tr.setT (some (.fn (.func df.cf) cs)) 20 e df.t) h n [] ≠ .fail := by intro hx; rw [hx] at hk; exact hk rfl
      have hs' : Sim O (Tr.setT (some (.fn (.func df.cf) cs)) 20 e df.t) h n [] { st with env := (df.t, .fn (.func df.cf) cs) :: st.env } := hs.let (some df.t) _
      refine (runC_sound hc hm lf (by simp) hy df.post _ h n [] _ hs' hne).mono ?_
      intro x s hx
      exact finDX_sound hc hm htab lf hx hk
    · exact absurd rfl hk
  · exact absurd rfl hr
end
theorem xAll_sound {P : Program} (hm : P.follows .mixedOrders = true) {tab : Tr FI} (htab : ∀ f i, tab.get f = some i → FI.ok P f i) (lf : Nat) : ∀ fu, COk P (xAll tab lf fu)
  | 0 => ⟨fun _ _ _ _ _ h => absurd rfl h, fun _ _ _ _ _ h => absurd rfl h⟩
  | fu + 1 => ⟨fun ys f xs h n hr O H hy hs ho => callF_sound (xAll_sound hm htab lf fu) hm htab lf ys f xs h n hr O H hy hs ho,
      fun ys y xs h n hr hmem O H hy hs ho => yldF_sound (xAll_sound hm htab lf fu) hm lf ys y xs h n hr hmem O H hy hs ho⟩
def tabOf : List (Nat × FI) → Tr FI
  | [] => .nil
  | (f, i) :: r => Tr.set (some i) 14 (tabOf r) f id
theorem tabOf_get : ∀ {l : List (Nat × FI)} {f : Nat} {i : FI}, (tabOf l).get f = some i → (f, i) ∈ l
  | [], f, i, h => by simp [tabOf, Tr.get_nil] at h
  | (g, j) :: r, f, i, h => by
    simp only [tabOf, Tr.set_eq, id] at h
    have := Tr.get_setT _ _ _ _ _ _ h
    by_cases e : f = g
    · rw [if_pos e] at this; cases this; subst e; simp
    · rw [if_neg e] at this; exact List.mem_cons_of_mem _ (tabOf_get this)
def XR.isV (v : AV → Bool) : XR → Bool
  | .ok x _ _ => v x
  | _ => false
theorem AC_run {P : Program} (hm : P.follows .mixedOrders = true) {l : List (Nat × FI)} (hl : ∀ q ∈ l, FI.ok P q.1 q.2) (lf fu f : Nat) (xs : List AV) (v : AV → Bool) (hr : ((xAll (tabOf l) lf fu).call [] f xs .nil 0).isV v = true) : AC P f xs [] 0 fun y _ _ => ∃ x, y = .ret x ∧ v x = true := by
  cases h : (xAll (tabOf l) lf fu).call [] f xs .nil 0 with
  | fail => rw [h] at hr; cases hr
  | pan y h' n' => rw [h] at hr; cases hr
  | ok y h' n' =>
    rw [h] at hr
    refine ((xAll_sound hm (tab := tabOf l) (fun f i hf => hl (f, i) (tabOf_get hf)) lf fu).call [] f xs .nil 0 (by rw [h]; intro hx; cases hx) (fun _ => none) [] (fun y hy => by simp at hy) (fun b o hb => by rw [Tr.get_nil] at hb; cases hb) (fun b o hb => by cases hb)).mono ?_
    intro ae H m hx
    rw [h] at hx
    cases ae <;> simp only [XRR] at hx <;> first | exact hx.elim | skip
    exact ⟨_, rfl, by rw [hx.1]; exact hr⟩
theorem Pure_run {P : Program} {f : FuncId} {xs : List AV} {r : AV} (hg : ∀ g cs, GL g = some cs → ∀ x ∈ cs, x.flat = true) (hx : ∀ x ∈ xs, x.flat = true) (hr : r.flat = true) (hc : AC P f xs [] 0 fun y _ _ => y = .ret r) : Pure P f xs r := by
  intro h nx
  refine ⟨hc.1, fun w0 K args hgd ha => ?_⟩
  have hgl : GlR K.all 0 := fun g cs hg' => by
    have := (hgd.gl g cs hg').all hgd
    cases this with
    | fp _ _ c h1 hi h2 => exact .fp cs _ c h1 hi fun j x hj => (h2 j x hj).flat (hg g cs hg' x (List.mem_of_getElem? hj))
  have hga := hgd.all
  have hg0 : Good K.w K.all [] 0 := ⟨fun b o hb => by simp [hget] at hb, fun b b' o o' hb => by simp [hget] at hb, hga.below, hga.zin, hga.lo, hgl⟩
  refine (hc.2 K.w K.all args hg0 ⟨ha.1, fun i x v h1 h2 => (ha.2 i x v h1 h2).flat (hx x (List.mem_of_getElem? h1))⟩).mono ?_
  rintro e w' ⟨K', h', nx', y, rfl, hext, hgood, her, rfl⟩
  have hle : w0.heap.size ≤ K.w.heap.size := hgd.below.size
  have bk : ∀ b, b < K.w.heap.size → K'.w.heap[b]? = K.w.heap[b]? := fun b hb => hgood.below.block b hb
  have hex : Ext K nx { K with w := K'.w } nx :=
    ⟨Nat.le_refl _, fun _ _ => rfl, fun _ _ h => h, fun b o hz => by simp only [World.cell?, bk b (hgd.zin b o hz)], fun b c e hb => ⟨c, by simp only; rw [bk b (lt_of_row hb)]; exact hb, rfl⟩, rfl, fun _ _ h => .inl h, rfl⟩
  refine ⟨{ K with w := K'.w }, h, nx, .ret r, rfl, hex, ?_, ?_, rfl, rfl, Nat.le_refl _⟩
  · refine ⟨fun b o hb => ?_, hgd.inj, hgd.below.trans (hgood.below.mono hle), fun b off hz => Nat.lt_of_lt_of_le (hgd.zin b off hz) hgood.below.size, hgd.lo, hgd.gl.mono hex⟩
    obtain ⟨h1, h2, h3, ob, h4, h5⟩ := hgd.live b o hb
    exact ⟨h1, h2, h3, ob, by simp only; rw [bk _ (lt_of_row h4)]; exact h4, h5.mono hex⟩
  · cases e <;> simp only [AER] at her ⊢ <;> exact her.flat hr
end Go.Ab
