/- slices.SortFunc of a slice of the call's own, at structs of whole numbers, as a rule for walks. -/
import Derived.Shelf.SlSortCmp.NoneTotal
import Derived.Test.YthhjplnhmmhbbaaMG
set_option linter.unusedSimpArgs false
set_option linter.unusedVariables false
set_option maxHeartbeats 4000000
set_option maxRecDepth 100000
namespace Go.Proofs.Ythhjplnhmmhbbaa
open Go Hm Go.ChangeShapes Go.WideShapes Go.ChangeAt Go.RowKit
attribute [local go_sem] Int.reduceEq Int.reduceNe Int.reduceLT Int.reduceLE Int.reduceNeg Int.reduceToNat Int.reduceAdd Int.reduceSub Int.reduceMul Int.reducePow Int.reduceDiv Int.reduceMod ite_eq_left_iff ite_eq_right_iff imp_false Nat.reduceLT Nat.reduceEqDiff Nat.reduceAdd Nat.reduceSub Nat.reduceMul Nat.reduceLeDiff Nat.reduceBEq reduceIte
section
open Go.RowKit Go.Shelf Go.Lib Go.Sort
theorem grown_of {w w' : World} (h : Blw w.heap.size w w') : ∃ q os', w' = grow (w.drewN q) os' := by
  refine ⟨w'.drawn - w.drawn, w'.heap.extract w.heap.size w'.heap.size, ?_⟩
  have e : w'.heap = w.heap ++ w'.heap.extract w.heap.size w'.heap.size := by
    apply Array.ext_getElem?
    intro i
    have hs := h.size
    by_cases hi : i < w.heap.size
    · rw [Array.getElem?_append_left hi]; exact h.block i hi
    · rw [Array.getElem?_append_right (by omega), Array.getElem?_extract]
      split
      · rw [show w.heap.size + (i - w.heap.size) = i by omega]
      · rw [Array.getElem?_eq_none (by omega)]
  obtain ⟨⟨h1, h2, h3, _, _⟩, h5⟩ := h
  obtain ⟨a1, a2, a3, a4, a5⟩ := w
  obtain ⟨b1, b2, b3, b4, b5⟩ := w'
  simp only at h1 h2 h3 h5 e
  subst h1 h2 h3
  show World.mk _ _ _ _ _ = World.mk _ _ _ _ _
  congr 1
  show _ = a3 + (b3 - a3)
  omega
variable {G : Nat → Option (List PV)} {w0 : World} {β : Nat → Nat} {s : St} {acts : List Act} {a : Act} {w : World}
theorem rel_grow (hr : Rel G w0 β s acts a w) (os : Array Obj) : Rel G w0 β s acts a (grow w os) := by
  obtain ⟨l⟩ := os
  induction l generalizing w with
  | nil => simpa using hr
  | cons o t ih =>
    have h := ih (hr.allocAny o)
    rw [alloc_eq_grow, grow_grow] at h
    simpa using h
def ints3 (l : List Int) : List PV := l.map (PV.int .i64)
def encI {α : Type} (ci : α → List Int) (x : α) : List Value := (ci x).map (Value.int .i64)
def cI {α : Type} (ci : α → List Int) (x : α) : List PV := (ci x).map (PV.int .i64)
theorem cI_len {α : Type} {ci : α → List Int} {k : Nat} (hk : ∀ x, (ci x).length = k) (x : α) : (cI ci x).length = k := by simp [cI, hk]
theorem encI_len {α : Type} {ci : α → List Int} {k : Nat} (hk : ∀ x, (ci x).length = k) (x : α) : (encI ci x).length = k := by simp [encI, hk]
/-- The cells of a row, and what the sort calls them. -/
theorem cell_flat {α : Type} [Inhabited α] {ci : α → List Int} {k : Nat} (hk : ∀ x, (ci x).length = k) (l : List α) (j : Nat) (hj : j < l.length * k) :
    ∃ z, (l.flatMap (cI ci))[j]? = some (.int .i64 z) ∧ (flatK (encI ci) k l.toArray)[j]! = .int .i64 z := by
  have k0 : 0 < k := by
    rcases Nat.eq_zero_or_pos k with h | h
    · subst h; simp at hj
    · exact h
  have hq : j / k < l.length := by rw [Nat.div_lt_iff_lt_mul k0]; exact hj
  have hr : j % k < k := Nat.mod_lt _ k0
  have hlt : j % k < (ci (l.getD (j / k) default)).length := by rw [hk]; exact hr
  refine ⟨(ci (l.getD (j / k) default))[j % k], ?_, ?_⟩
  · have h := flat_get (cI_len hk) l default (j / k) (j % k) hq hr
    rw [Nat.div_add_mod' j k] at h
    rw [h]
    simp [cI]
  · rw [get_flatK _ _ _ _ (by simpa using hj)]
    have e : l.toArray[j / k]! = l.getD (j / k) default := by
      simp [List.getD, List.getElem!_eq_getElem?_getD]
    rw [e]
    show ((ci (l.getD (j / k) default)).map (Value.int .i64))[j % k]! = _
    generalize ci (l.getD (j / k) default) = X at hlt ⊢
    simp [hlt]
theorem holds_flat {α : Type} [Inhabited α] {ci : α → List Int} {k : Nat} (hk : ∀ x, (ci x).length = k) (hr : Rel G w0 β s acts a w) {b : Nat} {l : List α} (hb : s.H[b]? = some (.n (l.flatMap (cI ci)))) (hl : Blk.live (.n (l.flatMap (cI ci))) = true) : HoldsK (encI ci) k w (β b) 0 l.toArray := by
  obtain ⟨c, E, fz, h1, h2, h3, h4⟩ := (hr.blk b _ hb hl).row rfl
  intro j hj
  have hj' : j < l.length * k := by simpa using hj
  obtain ⟨z, e1, e2⟩ := cell_flat hk l j hj'
  obtain ⟨_, v, e3, e4⟩ := h4 j (.pv (.int .i64 z)) (by show Option.map _ _ = _; rw [e1]; rfl)
  cases e4 with | pv e4 =>
  cases e4
  have hlt : j < c.size := by
    rcases Nat.lt_or_ge j c.size with h | h
    · exact h
    · rw [Array.getElem?_eq_none h] at e3; cases e3
  rw [e2, Nat.zero_add]
  refine ⟨by simp [World.cell?, h1, e3], ?_⟩
  have := h2.out j hlt
  simp [World.frozen?, h1]
  omega
/-- The row in another order, in the worlds that the sort passes through. -/
theorem rel_sort {α : Type} [Inhabited α] {ci : α → List Int} {k : Nat} (hk : ∀ x, (ci x).length = k) (hr : Rel G w0 β s acts a w) {b : Nat} {l : List α} (hb : s.H[b]? = some (.n (l.flatMap (cI ci)))) (hl : 0 < l.length * k) (m : Nat) (os : Array Obj) (d : Array α) (hd : d.size = l.length) :
    Rel G w0 β { s with H := s.H.set b (.n (d.toList.flatMap (cI ci))) } acts a (sortWorldK (encI ci) k w (β b) 0 m d os) := by
  have hlive : ∀ l' : List α, 0 < l'.length * k → Blk.live (.n (l'.flatMap (cI ci))) = true := fun l' h => by
    have h2 := flat_len (cI_len hk) l'
    cases h3 : l'.flatMap (cI ci) with
    | nil => rw [h3] at h2; simp only [List.length_nil] at h2; omega
    | cons _ _ => rfl
  have hH := holds_flat hk hr hb (hlive l hl)
  have r1 := hr.drewN m
  have hH1 : Holds id (w.drewN m) (β b) 0 (flatK (encI ci) k l.toArray) := holds_flat hk r1 hb (hlive l hl)
  have hdl : d.toList.length = l.length := by simpa using hd
  have hsz : (flatK (encI ci) k d).size = l.length * k := by rw [size_flatK, hd]
  have e1 : putRowK (encI ci) k (Sort.ahead w m) (β b) 0 d = (w.drewN m).setCells (β b) 0 (flatK (encI ci) k d).toList := by
    have h := setCells_putRow (w.drewN m) (β b) 0 (flatK (encI ci) k d).toList 0 (flatK (encI ci) k l.toArray) (by simp [hd])
    rw [putRow_self id _ _ _ _ hH1] at h
    rw [h]
    show putRow id (w.drewN m) (β b) 0 (flatK (encI ci) k d) = _
    congr 1
    refine ext_get! (by simp [hd]) fun t ht => ?_
    have ht' : t < l.length * k := by rw [hsz] at ht; exact ht
    rw [get_setMany _ _ _ t (by simpa using ht'), if_pos (by simp [hd]; omega)]
    simp [List.getElem!_eq_getElem?_getD, Array.getElem!_eq_getD, Array.getD_eq_getD_getElem?]
  unfold sortWorldK
  rw [e1]
  refine rel_grow ?_ os
  refine r1.store (lvs := (d.toList.flatMap (cI ci)).map .pv) hb (hlive l hl) (hlive d.toList (by rw [hdl]; exact hl)) rfl rfl (fun c E fz h => ?_) (fun i hi => ?_) (fun i lv h => ?_) (fun i lv v h1 h2 => ?_)
  · obtain ⟨c2, E2, fz2, h6, _, h7, _⟩ := (r1.blk b _ hb (hlive l hl)).row rfl
    rw [h6] at h
    simp only [Option.some.injEq, Obj.cells.injEq] at h
    obtain ⟨rfl, _, _⟩ := h
    show (d.toList.flatMap (cI ci)).length ≤ _
    have : (l.flatMap (cI ci)).length ≤ c2.size := h7
    rw [flat_len (cI_len hk)] at this ⊢
    rw [hdl]
    exact this
  · have hi' : i < (d.toList.flatMap (cI ci)).length := hi
    rw [flat_len (cI_len hk), hdl] at hi'
    rw [if_pos (by simp [hd]; omega)]
    show Option.map _ _ = _
    simp
  · rw [List.getElem?_map] at h
    cases h2 : (d.toList.flatMap (cI ci))[i]? with
    | none => rw [h2] at h; cases h
    | some p =>
      rw [h2] at h
      cases h
      obtain ⟨x, _, hx⟩ := List.mem_flatMap.1 (List.mem_of_getElem? h2)
      obtain ⟨z, _, rfl⟩ := List.mem_map.1 hx
      rfl
  · have hi : i < l.length * k := by
      rcases Nat.lt_or_ge i (l.length * k) with h | h
      · exact h
      · rw [List.getElem?_eq_none (by simp [hd]; exact h)] at h2; cases h2
    obtain ⟨z, q1, q2⟩ := cell_flat hk d.toList i (by rw [hdl]; exact hi)
    rw [List.getElem?_map, q1] at h1
    cases h1
    have e3 : (flatK (encI ci) k d).toList[i]? = some ((flatK (encI ci) k d)[i]!) := by
      rw [Array.getElem?_toList, getElem!_pos _ i (by rw [hsz]; exact hi)]
      exact Array.getElem?_eq_getElem _
    rw [e3] at h2
    have q2' : (flatK (encI ci) k d)[i]! = .int .i64 z := q2
    rw [q2'] at h2
    cases h2
    exact .pv (.int _ _)
/-- slices.SortFunc: the row holds its elements in order. -/
theorem acall_sort {P : Program} {ρ : Ren} (L : SlLaysF0.n6 P ρ) {α : Type} [Inhabited α] {ci : α → List Int} {k : Nat} (hk : ∀ x, (ci x).length = k) (k0 : 0 < k) (aE : ∀ w, (isAgg (ρ.t 24)).run P w = .ok true w) (zE : ∀ w, (Go.sizeOf (ρ.t 24)).run P w = .ok k w)
    {cf : α → α → Int} (hO : SWO (ltOf cf)) {g : Nat} (hg : ∀ x y, Hm.Sum P G g [.agg (cI ci x), .agg (cI ci y)] (Is (.pv (.int .i64 (cf x y))) []))
    {f : Nat} (hf : ρ.f 6 = f) (hfn : FnOk P f) {s : St} {b n : Nat} {l : List α} {K : LV → List Blk → Prop} (hb : s.H[b]? = some (.n (l.flatMap (cI ci)))) (hn : l.length = n) (hsz : l.length < 4611686018427387904)
    (hK : ∀ d : List α, d.Perm l → d.Pairwise (fun x y => ¬ cf y x < 0) → K (.tup []) (s.H.set b (.n (d.flatMap (cI ci))))) : ACall P G f [.nref b n k, .pv (.fn g [])] s K := by
  intro s1 w0 β acts a w vs e1 e2 hr hl hv
  obtain ⟨v1, v2, rfl⟩ : ∃ v1 v2, vs = [v1, v2] := by
    match vs, hl with
    | [a, b], _ => exact ⟨a, b, rfl⟩
  have q1 := hv 0 _ v1 rfl rfl
  have q2 := hv 1 _ v2 rfl rfl
  cases q2 with | pv q2 =>
  cases q2 with | fn _ _ cvs hcl _ =>
  have hc0 : cvs = #[] := by
    apply Array.eq_empty_of_size_eq_zero
    simpa using hcl.symm
  subst hc0
  subst hf
  have hb1 : s1.H[b]? = some (.n (l.flatMap (cI ci))) := by rw [e1]; exact hb
  have hbl : b < s1.H.length := (List.getElem?_eq_some_iff.1 hb1).1
  have none : ∀ p cap, n = 0 → Runs P (ρ.f 6) #[.slice p 0 cap, .func (.func g) #[] #[]] w fun e w' => ∃ v lv H' β', e = .returned v ∧ K lv H' ∧ Rel G w0 β' { s1 with H := H' } acts a w' ∧ LR β' H'.length w' (okOf w0 β' H' w') lv v := fun p cap h0 => by
    have hl0 : l = [] := List.eq_nil_of_length_eq_zero (by omega)
    refine (Runs.of hfn (AnyF.slices_SortFunc_none L p cap _ w)).mono ?_
    rintro e w' ⟨rfl, rfl⟩
    have h := hK l (List.Perm.refl _) (by subst hl0; exact List.Pairwise.nil)
    refine ⟨.tuple #[], .tup [], s1.H, β, rfl, ?_, hr, .tup [] #[] rfl (fun i p v h => by simp at h)⟩
    rw [← e1] at h
    have e3 : s1.H.set b (.n (l.flatMap (cI ci))) = s1.H := by
      apply List.ext_getElem?
      intro i
      rw [List.getElem?_set]
      split
      · rename_i e
        subst e
        rw [hb1]
      · rfl
    rwa [e3] at h
  cases q1 with
  | nref0 _ _ p => exact none p 0 rfl
  | nref _ _ _ _ h0 q1 =>
    cases q1 with
    | refz => omega
    | ref _ _ _ _ cap c E fz hbn hh hlc hs =>
      have hpos : 0 < l.length * k := Nat.mul_pos (by omega) k0
      have hrel := fun m os d hd => rel_sort hk hr hb1 hpos m os (d : Array α) hd
      have hlive : Blk.live (.n (l.flatMap (cI ci))) = true := by
        have h2 := flat_len (cI_len hk) l
        cases h3 : l.flatMap (cI ci) with
        | nil => rw [h3] at h2; simp only [List.length_nil] at h2; omega
        | cons _ _ => rfl
      have hH := holds_flat hk hr hb1 hlive
      have hcmp : CmpLays P g #[] (encI ci) k cf (β b) 0 l.toArray.size w := fun m os dk hdk x y => by
        have hrs := hrel m os dk (by simpa using hdk)
        have imm : ∀ x, Imm (sortWorldK (encI ci) k w (β b) 0 m dk os) (fun f b' => f = true ∧ b' < (sortWorldK (encI ci) k w (β b) 0 m dk os).heap.size) (.agg (cI ci x)) (.agg (encI ci x).toArray) := fun x => by
          refine .agg _ _ (by simp [cI, encI]) (fun i p h => ?_) (fun i p v h1 h2 => ?_)
          · obtain ⟨z, _, rfl⟩ := List.mem_map.1 (List.mem_of_getElem? h)
            rfl
          · simp only [cI, encI, List.getElem?_map, List.getElem?_toArray] at h1 h2
            cases hz : (ci x)[i]? with
            | none => rw [hz] at h1; cases h1
            | some z =>
              rw [hz] at h1 h2
              cases h1; cases h2
              exact .int _ _
        refine ((hg x y).2 (sortWorldK (encI ci) k w (β b) 0 m dk os) [.agg (encI ci x).toArray, .agg (encI ci y).toArray] hrs.gok rfl (fun i p v h1 h2 => ?_)).mono ?_
        · match i, h1, h2 with
          | 0, h1, h2 => cases h1; cases h2; exact imm x
          | 1, h1, h2 => cases h1; cases h2; exact imm y
        · rintro e w' ⟨v, lv, H, β', rfl, ⟨rfl, rfl⟩, hp, hlr⟩
          cases hlr with | pv hlr =>
          cases hlr
          exact ⟨rfl, grown_of hp.below⟩
      have hblk : β b < w.heap.size := hr.lt b _ hb1 hlive
      have eg : ∀ args w, (callFunc g args).run P w = .ok (.enter g args) w := fun args w => run_call (hg default default).1
      have hcall := AnyQ.slices_SortFunc L k aE zE (encI ci) (encI_len hk) (fun x v hv => by
        obtain ⟨z, _, rfl⟩ := List.mem_map.1 hv
        rfl) cf hO g #[] (β b) 0 cap l.toArray w eg hcmp hH hblk (by simpa using hsz)
      have es : l.toArray.size = n := by simpa using hn
      rw [es] at hcall
      refine (Runs.of hfn hcall).mono ?_
      rintro e w' ⟨rfl, d, m, os, hp, hsd, rfl⟩
      have hd : d.size = l.length := by simpa using hp.1
      have hperm : d.toList.Perm l := by
        have h := hp.2.2
        have e1 : d.extract 0 n = d := by rw [show n = d.size by omega]; simp
        have e2 : l.toArray.extract 0 n = l.toArray := by rw [show n = l.toArray.size by omega]; simp
        rw [e1, e2] at h
        simpa using h
      have hpw : d.toList.Pairwise (fun x y => ¬ cf y x < 0) := by
        rw [List.pairwise_iff_getElem]
        intro i j hi hj hij
        have h := hsd i j (Nat.zero_le _) hij (by simp at hj; omega)
        have h1 : i < d.size := by simpa using hi
        have h2 : j < d.size := by simpa using hj
        rw [getElem!_pos d i h1, getElem!_pos d j h2] at h
        unfold ltOf at h
        simpa using h
      refine ⟨.tuple #[], .tup [], _, β, rfl, hK d.toList hperm hpw, ?_, .tup [] #[] rfl (fun i p v h => by simp at h)⟩
      have := hrel m os d hd
      rwa [e1] at this
end
end Go.Proofs.Ythhjplnhmmhbbaa
