/- A state trimmed: slots and rows that are read no more are spoken of no more. -/
import Derived.Test.YtkbmkgcenehenaaDoorH5
set_option linter.unusedSimpArgs false
set_option linter.unusedVariables false
set_option maxHeartbeats 4000000
set_option maxRecDepth 100000
namespace Go.Proofs.YtkbmkgcenehenaaDoor
open Go Hm Go.ChangeShapes Go.WideShapes Go.ChangeAt Go.RowKit
attribute [local go_sem] Int.reduceEq Int.reduceNe Int.reduceLT Int.reduceLE Int.reduceNeg Int.reduceToNat Int.reduceAdd Int.reduceSub Int.reduceMul Int.reducePow Int.reduceDiv Int.reduceMod ite_eq_left_iff ite_eq_right_iff imp_false Nat.reduceLT Nat.reduceEqDiff Nat.reduceAdd Nat.reduceSub Nat.reduceMul Nat.reduceLeDiff Nat.reduceBEq reduceIte
section
open Go.RowKit
variable {P : Program} {G : Nat → Option (List PV)} {s : St}
def trimF (fr : List (Nat × LV)) : List Nat → List (Nat × LV)
  | [] => []
  | t :: r => match fr.lookup t with
    | some lv => (t, lv) :: trimF fr r
    | none => trimF fr r
theorem trimF_sub {fr : List (Nat × LV)} {t : Nat} {lv : LV} : ∀ {live : List Nat}, (trimF fr live).lookup t = some lv → fr.lookup t = some lv
  | [], h => by simp [trimF] at h
  | u :: r, h => by
    unfold trimF at h
    split at h
    · rename_i x hx
      rw [List.lookup_cons] at h
      by_cases e : t = u
      · subst e
        simp at h
        subst h
        exact hx
      · have e' : (t == u) = false := by simpa using e
        rw [e'] at h
        exact trimF_sub h
    · exact trimF_sub h
theorem Weak.trim (live : List Nat) : Weak G s { s with fr := trimF s.fr live } := fun w0 β acts a w hr =>
  ⟨β, hr.below, hr.nodef, hr.sz, hr.ge, hr.lt, hr.inj, hr.blk, fun t lv h => hr.fr t lv (trimF_sub h), hr.up, hr.gl⟩
theorem Weak.kills : ∀ (kills : List Nat) {s : St}, (∀ b ∈ kills, b < s.H.length) → Weak G s { s with H := killL kills s.H }
  | [], s, _ => fun w0 β acts a w hr => ⟨β, hr⟩
  | b :: r, s, h => fun w0 β acts a w hr => by
    have h1 := (hr.kill (h b (by simp))).1
    exact Weak.kills r (s := { s with H := s.H.set b .gone }) (fun c hc => by simpa using h c (by simp [hc])) w0 β acts a w h1
/-- Ahead of a region: only these slots, and not these rows. -/
theorem AWp.trim {id : Nat} {ops : Array Oper} {m : Bool} {Q : Exit → St → Prop} (live kills : List Nat) (h0 : decide (live.length < s.fr.length) = true) (hk : ∀ b ∈ kills, b < s.H.length)
    (h : AWp P G (.region id ops m) Q { s with fr := trimF s.fr live, H := killL kills s.H }) : AWp P G (.region id ops m) Q s :=
  AWp.weak (Weak.trim live) (AWp.weak (s := { s with fr := trimF s.fr live }) (Weak.kills kills hk) h)
attribute [go_sem] trimF
end
end Go.Proofs.YtkbmkgcenehenaaDoor
