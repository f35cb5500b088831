/- A region whose order is drawn, in two parts: behind the first part memory stays as it is. -/
import Derived.Test.YtkbmkgcenehenaaDoorHt
set_option linter.unusedSimpArgs false
set_option linter.unusedVariables false
set_option maxHeartbeats 4000000
set_option maxRecDepth 100000
namespace Go.Proofs.YtkbmkgcenehenaaDoor
open Go Hm Go.ChangeShapes Go.WideShapes Go.ChangeAt Go.RowKit
attribute [local go_sem] Int.reduceEq Int.reduceNe Int.reduceLT Int.reduceLE Int.reduceNeg Int.reduceToNat Int.reduceAdd Int.reduceSub Int.reduceMul Int.reducePow Int.reduceDiv Int.reduceMod ite_eq_left_iff ite_eq_right_iff imp_false Nat.reduceLT Nat.reduceEqDiff Nat.reduceAdd Nat.reduceSub Nat.reduceMul Nat.reduceLeDiff Nat.reduceBEq reduceIte
section
open Go.RowKit
variable {P : Program} {T : TypeId → Option TI} {G : Nat → Option (List PV)} {ds : List (Option Nat)} {ops : Array Oper} {md : Region.Mode} {w0 : World} {acts : List Act} {S S2 : List Blk → Prop}
theorem yst_sub (h : ∀ H, S2 H → S H) {o : Oper} {s : St} {lv : LV} (hy : Yst T G ds S o s lv) : Yst T G ds S2 o s lv := ⟨hy.1, fun H' hH => hy.2 H' (h H' hH)⟩
theorem sim_sub (h : ∀ H, S2 H → S H) {l : Array Bool} {sa : St} : ∀ {pend : List (Nat × Oper × LV)} {sc : St}, Sim T G ds ops md S l sa sc pend → Sim T G ds ops md S2 l sa sc pend
  | [], _, hs => hs
  | (_, _, _) :: _, _, ⟨⟨a1, a2, a3, a4, a5, a6⟩, a7⟩ => ⟨⟨a1, a2, a3, a4, a5, yst_sub h a6⟩, sim_sub h a7⟩
variable (P T G ds ops md) in
def AnyW (S : List Blk → Prop) (m : Nat) (K : St → Prop) : Nat → Array Bool → St → Prop
  | 0, l, s => ∃ S2 : List Blk → Prop, (∀ H, S2 H → S H) ∧ S2 s.H ∧ AnyS P T G ds ops md S2 K m l s
  | n + 1, l, s => (Region.ready md ops l ≠ [] ∧ ∀ i ∈ Region.ready md ops l, ∃ o, ops[i]? = some o ∧ Hm.stepG P T G ds o s fun s' => S s'.H ∧ AnyW S m K n (l.setIfInBounds i true) s') ∨
      (∃ i o lv, ops[i]? = some o ∧ i ∈ Region.ready md ops l ∧ Region.free md ops l i = true ∧ Yst T G ds S o s lv ∧ AnyW S m K n (l.setIfInBounds i true) (s.put o.dst lv))
theorem anyW_sound (hT : TOk P T) (hds : ops.toList.map (·.dst) = ds) {m : Nat} {K : St → Prop} {Q' : Exit → Act → World → Prop} (hQ : ∀ s β a w, K s → Rel G w0 β s acts a w → Q' .normal a w) :
    ∀ (n k : Nat) (l : Array Bool) (sa sc : St) (pend : List (Nat × Oper × LV)) (lc : Array Bool) (β : Nat → Nat) (a : Act) (w : World), pend.length = k → AnyW P T G ds ops md S m K n l sa → Sim T G ds ops md S l sa sc pend → Lc l pend lc → S sa.H →
      Rel G w0 β sc acts a w → wpAny P md ops Q' (n + m + k) lc a w := by
  intro n
  induction n with
  | zero =>
    intro k l sa sc pend lc β a w hk hA hS hL hSH hr
    obtain ⟨S2, h1, h2, h3⟩ := hA
    have := any_sound (w0 := w0) (acts := acts) hT hds hQ m k l sa sc pend lc β a w hk h3 (sim_sub h1 hS) hL h2 hr
    have e : m + k = 0 + m + k := by omega
    rwa [e] at this
  | succ f ihf =>
    intro k
    induction k using Nat.strongRecOn with
    | _ k ihk =>
      intro l sa sc pend lc β a w hk hA hS hL hSH hr
      have e0 : f + 1 + m + k = (f + m + k) + 1 := by omega
      have hp : ∀ pend' c sc' β' a' w', c ∈ Region.ready md ops lc → pend'.length + 1 = pend.length → Sim T G ds ops md S l sa sc' pend' → Lc l pend' (lc.setIfInBounds c true) → Rel G w0 β' sc' acts a' w' → wpAny P md ops Q' (f + m + k) (lc.setIfInBounds c true) a' w' := fun pend' c sc' β' a' w' _ e hS' hL' hr' => by
        have := ihk (k - 1) (by omega) l sa sc' pend' _ β' a' w' (by omega) hA hS' hL' hSH hr'
        have e1 : f + 1 + m + (k - 1) = f + m + k := by omega
        rwa [e1] at this
      rcases id hA with ⟨h1, h2⟩ | ⟨i, o, lv, h1, h2, h3, h4, h5⟩
      · rw [e0]
        refine any_core hT hds hS hL hSH hr (fun e h0 => ?_) hp fun c' o hc hc' hco hw => ?_
        · subst e
          exfalso
          apply h1
          refine List.eq_nil_iff_forall_not_mem.2 fun c hc => ?_
          obtain ⟨c1, o, c2, c3⟩ := mem_ready.1 hc
          have : c ∈ Region.ready md ops lc := mem_ready.2 ⟨unl.2 ⟨by rw [hL.1]; exact (unl.1 c1).1, false_of fun e => by
            have := ((hL.2 c).1 e).1
            rw [(unl.1 c1).2] at this; cases this⟩, o, c2, fun e he hb => (hL.2 _).2 ⟨c3 e he hb, by simp⟩⟩
          rw [h0] at this; cases this
        · obtain ⟨o', hco', hd, hv⟩ := h2 c' hc'
          have eo : o' = o := by rw [hco] at hco'; exact (Option.some.inj hco').symm
          subst eo
          have hc1 := (mem_ready.1 hc').1
          obtain ⟨k1, k2⟩ := hS.step hds hco hc1 hw
          have hn : ∀ p ∈ pend, p.1 ≠ c' := fun p hp e => by
            have := hS.listed p hp
            rw [e, (unl.1 hc1).2] at this; cases this
          have hst : Hm.stepG P T G ds o' sc fun s' => ∃ sa', (S sa'.H ∧ AnyW P T G ds ops md S m K f (l.setIfInBounds c' true) sa') ∧ Sim T G ds ops md S (l.setIfInBounds c' true) sa' s' pend :=
            ⟨by rw [hS.n]; exact hd, stepGV_mono (fun lv H' h => ⟨_, h, k2 lv H'⟩) (stepGV_agr k1.symm hv)⟩
          refine wpOp_mono ?_ (stepGV_sound hT hds hco hr hst)
          rintro a' w' ⟨s', β', ⟨sa', ⟨h6, h7⟩, h8⟩, hr'⟩
          exact ihf k _ sa' s' pend _ β' a' w' hk h7 h8 (hL.set hc1 hn) h6 hr'
      · have := ihf (k + 1) _ _ sc (pend ++ [(i, o, lv)]) lc β a w (by simp; omega) h5 (hS.push h1 (mem_ready.1 h2).1 (ready_deps h1 h2) (fun j oj => Region.free_spec h1 h3 j oj) h4) (hL.push (mem_ready.1 h2).1) (by rw [put_H]; exact hSH) hr
        have e1 : f + m + (k + 1) = f + 1 + m + k := by omega
        rwa [e1] at this
theorem runPlan_soundW' {ol : List Oper} (hol : ops = ol.toArray) {τ : List (Bool × Nat)} {K : St → Prop} : ∀ (plan : List (Bool × Nat)) (l : Array Bool) (s : St), planOkE md ops (planOk md ops τ) plan l = true → S s.H → runPlan P T G ds S ol plan s (fun s' => runPlan P T G ds (fun H' => H' = s'.H) ol τ s' K) → AnyW P T G ds ops md S τ.length K plan.length l s
  | [], l, s, h, hS, h2 => ⟨fun H' => H' = s.H, fun H e => by subst e; exact hS, rfl, runPlan_sound hol τ l s (by simpa [planOkE] using h) rfl h2⟩
  | (true, i) :: r, l, s, h, hS, h2 => by
    simp only [planOkE, Bool.and_eq_true] at h
    obtain ⟨⟨h3, h4⟩, h5⟩ := h
    obtain ⟨o, h6, h7, h8⟩ := h2
    have h6' : ops[i]? = some o := by rw [hol]; simpa using h6
    have hci : i ∈ Region.ready md ops l := by simpa using h3
    refine .inr ?_
    split at h8
    · rename_i hg
      obtain ⟨v, _, k2, k3⟩ := h8
      refine ⟨i, o, v.1, h6', hci, h4, ⟨h7, fun H' hH' => ?_⟩, runPlan_soundW' hol r _ _ h5 (by rw [put_H]; exact hS) k3⟩
      unfold valG
      rw [hg]
      exact k2 H' hH'
    · rename_i j want hg
      obtain ⟨b, k1, k2⟩ := h8
      obtain ⟨g1, g2⟩ := guardK_out k2
      by_cases hbw : b = want
      · obtain ⟨v, _, q2, q3⟩ := g1 hbw
        exact ⟨i, o, v.1, h6', hci, h4, ⟨h7, fun H' hH' => by
          unfold valG
          rw [hg]
          exact ⟨b, k1, guardK_in (fun _ => q2 H' hH') (fun h => absurd hbw h)⟩⟩, runPlan_soundW' hol r _ _ h5 (by rw [put_H]; exact hS) q3⟩
      · exact ⟨i, o, .tup [], h6', hci, h4, ⟨h7, fun H' hH' => by
          unfold valG
          rw [hg]
          exact ⟨b, k1, guardK_in (fun h => absurd h hbw) (fun _ => rfl)⟩⟩, runPlan_soundW' hol r _ _ h5 (by rw [put_H]; exact hS) (g2 hbw)⟩
  | (false, i) :: r, l, s, h, hS, h2 => by
    simp only [planOkE, Bool.and_eq_true] at h
    obtain ⟨h3, h5⟩ := h
    have h4 : Region.ready md ops l = [i] := by
      split at h3
      · rename_i j hj; simp at h3; subst h3; exact hj
      · cases h3
    refine .inl ⟨by rw [h4]; simp, fun j hj => ?_⟩
    rw [h4] at hj
    simp only [List.mem_singleton] at hj
    subst hj
    obtain ⟨o, h6, h8⟩ := runPlan_head hol hS h2
    exact ⟨o, h6, Hm.stepG_mono (fun s' ⟨a, b⟩ => ⟨a, runPlan_soundW' hol r _ _ h5 a b⟩) h8⟩
/-- σ: the first part, which may turn memory; τ: the second, which leaves it. -/
theorem drawnH (σ τ : List Nat) (d r : List Nat) (hT : TOk P T) (hm : P.follows .mixedOrders = true) {s : St} {id : Nat} {ol : List Oper} (hds : ol.map (·.dst) = ds)
    (hok : (decide ((pickPlan ol σ).length + (pickPlan ol τ).length = ol.length) && planOkE .any ol.toArray (planOk .any ol.toArray (pickPlan ol τ)) (pickPlan ol σ) (Array.replicate ol.length false)) = true) {Q : Exit → St → Prop}
    (h0 : preB (xblk d r s) 0 s.H s.H) (h : runAuto P T G ds (preB (xblk d r s) 0 s.H) (pick ol σ) s (fun s' => runAuto P T G ds (fun H' => H' = s'.H) (pick ol τ) s' (fun s' => Q .normal s'))) : AWp P G (.region id ol.toArray true) Q s := by
  intro w0 β acts a w hr
  simp only [Bool.and_eq_true, decide_eq_true_eq] at hok
  obtain ⟨hl, hok⟩ := hok
  refine wp_region_any hm ?_
  have h1 : runPlan P T G ds (preB (xblk d r s) 0 s.H) ol (pickPlan ol σ) s (fun s' => runPlan P T G ds (fun H' => H' = s'.H) ol (pickPlan ol τ) s' (fun s' => Q .normal s')) :=
    runAuto_pick (K := fun s' => runPlan P T G ds (fun H' => H' = s'.H) ol (pickPlan ol τ) s' (fun s' => Q .normal s')) σ s (runAuto_mono (fun s' h => runAuto_pick τ s' h) (pick ol σ) s h)
  have hA := runPlan_soundW' (P := P) (T := T) (G := G) (ds := ds) (ops := ol.toArray) (S := preB (xblk d r s) 0 s.H) rfl _ _ s hok h0 h1
  have := anyW_sound (w0 := w0) (acts := acts) hT (by simpa using hds) (Q' := fun e a' w' => ∃ s' β', Q e s' ∧ Rel G w0 β' s' acts a' w') (fun s β a w hK hr => ⟨s, β, hK, hr⟩) (pickPlan ol σ).length 0 _ s s [] (Array.replicate ol.length false) β a _ rfl hA (SEq.refl s) ⟨rfl, fun j => by simp⟩ h0 (hr.drewN 1)
  rw [Nat.add_zero, hl] at this
  have e : (ol.toArray).size = ol.length := by simp
  rw [e]
  exact this
end
end Go.Proofs.YtkbmkgcenehenaaDoor
