/- Append onto a row that is used again: it lies in the row's own room, or in a new row. -/
import Derived.LoopN
import Derived.Test.YtkbmkgcenehenaaDoorHt
set_option linter.unusedSimpArgs false
set_option linter.unusedVariables false
set_option maxHeartbeats 4000000
set_option maxRecDepth 100000
namespace Go.Proofs.YtkbmkgcenehenaaDoor
open Go Hm Go.ChangeShapes Go.WideShapes Go.ChangeAt Go.RowKit
attribute [local go_sem] Int.reduceEq Int.reduceNe Int.reduceLT Int.reduceLE Int.reduceNeg Int.reduceToNat Int.reduceAdd Int.reduceSub Int.reduceMul Int.reducePow Int.reduceDiv Int.reduceMod ite_eq_left_iff ite_eq_right_iff imp_false Nat.reduceLT Nat.reduceEqDiff Nat.reduceAdd Nat.reduceSub Nat.reduceMul Nat.reduceLeDiff Nat.reduceBEq reduceIte
section
open Go.RowKit
variable {P : Program} {T : TypeId → Option TI} {G : Nat → Option (List PV)} {w0 w : World} {β : Nat → Nat} {s : St} {acts : List Act} {a : Act}
/-- A loop that ends within n rounds, each one walked. -/
def ARounds (P : Program) (G : Nat → Option (List PV)) (c : Code) (Q : Exit → St → Prop) : Nat → St → Prop
  | 0, _ => False
  | n + 1, s => AWp P G c (AThen (ARounds P G c Q n) Q) s
theorem ARounds.go {c : Code} {Q : Exit → St → Prop} {n : Nat} (h : AWp P G c (AThen (ARounds P G c Q n) Q) s) : ARounds P G c Q (n + 1) s := h
theorem AWp.rounds {c : Code} {Q : Exit → St → Prop} (n : Nat) (h : ARounds P G c Q n s) : AWp P G (.loop c) Q s := by
  intro w0 β acts a w hr
  refine wp_loop_rounds n ?_
  induction n generalizing s β a w with
  | zero => exact h.elim
  | succ n ih =>
    rw [rounds_succ]
    refine wp_mono (h w0 β acts a w hr) ?_
    rintro e a' w' ⟨s', β', hQ, hr'⟩
    cases e with
    | normal => exact ih hQ β' a' w' hr'
    | exit id => exact ⟨s', β', hQ, hr'⟩
    | goto l => exact ⟨s', β', hQ, hr'⟩
    | ret => exact ⟨s', β', hQ, hr'⟩
    | panic ch => exact ⟨s', β', hQ, hr'⟩
    | outgrown => exact ⟨s', β', hQ, hr'⟩
/-- A row of the call's own whose cells are rows of the call's own, handed over: all of them are told of as values. -/
theorem ACall.frzA {f : FuncId} {args : List LV} {b off len esz : Nat} {H' : List Blk} {K : LV → List Blk → Prop} (e : frzB s.H b = some H') (h : ACall P G f (.ref b off len esz :: args) { s with H := H' } K) : ACall P G f (.ref b off len esz :: args) s K := by
  intro s1 w0 β acts a w vs e1 e2 hr hl hv
  obtain ⟨hr2, hm2⟩ := hr.frzH (.ref b off len esz)
  have eH : frzH s1.H (.ref b off len esz) = H' := by
    show (match frzB s1.H b with | some H' => H' | none => s1.H) = H'
    rw [e1, e]
  rw [eH] at hr2 hm2
  rw [← e1] at hv
  exact h { s1 with H := H' } w0 β acts a w vs rfl e2 hr2 hl fun i lv v h1 h2 => hm2 _ _ (hv i lv v h1 h2)
/-- A row that is read no more is spoken of no more. -/
theorem AWp.killAt {id b : Nat} {ops : Array Oper} {m : Bool} {cs : List PV} {Q : Exit → St → Prop} (h0 : s.H[b]? = some (.p cs)) (h : AWp P G (.region id ops m) Q { s with H := s.H.set b .gone }) : AWp P G (.region id ops m) Q s :=
  fun w0 β acts a w hr => h w0 β acts a w (hr.kill (List.getElem?_eq_some_iff.1 h0).1).1
def apP (T : TypeId → Option TI) (s : St) (t t2 : TypeId) (x y : LV) : Option ((Nat × Nat × Nat) × Nat × List PV) :=
  match T t, T t2 with
  | some i, some i2 => match i.und with
    | .slice e => match T e with
      | none => none
      | some j => match srcZ s i2.und j y with
        | none => none
        | some (n, new) => match x with
          | .nref b len esz => match s.H[b]? with
            | some (.n cs) => if esz = j.size ∧ cs.length = len * esz ∧ (len + n) * j.bytes ≤ 140737488355328 ∧ len + n ≤ 9223372036854775807 then some ((b, len, esz), n, cs ++ new) else none
            | _ => none
          | _ => none
    | _ => none
  | _, _ => none
theorem rel_filledK (hr : Rel G w0 β s acts a w) {b len n esz cap : Nat} {B B' : Blk} {cs new : List PV} {arr : Array Value} {c : Array Value} {E : TypeId} {fz : Nat × Nat} (hB : s.H[b]? = some B) (hl : B.live = true) (hBg : ∀ k, B.get k = (cs[k]?).map .pv)
    (hl' : B'.live = true) (hBg' : ∀ k, B'.get k = ((cs ++ new)[k]?).map .pv) (hBl' : B'.len = (cs ++ new).length) (hcs : cs.length = len * esz) (hnew : new.length = n * esz) (hc : CR PV.one (Imm w (okOf w0 β s.H w)) new arr)
    (hh : w.heap[β b]? = some (.cells c E fz)) (hroom : len + n ≤ cap) (hcap : cap * esz ≤ c.size)  (hR : B.isRow = true := by rfl) (hR' : B'.isRow = true := by rfl) :
    ∃ w', (storeCells ((⟨β b, 0, none⟩ : Addr).add (len * esz)) arr.toList).run P w = .ok () w' ∧ Rel G w0 β { s with H := s.H.set b B' } acts a w' ∧
      LR β (s.H.set b B').length w' (okOf w0 β (s.H.set b B') w') (.ref b 0 (len + n) esz) (.slice (some ⟨β b, 0, none⟩) (len + n) cap) := by
  obtain ⟨c1, E1, fz1, h1, h2, h3, h4⟩ := (hr.blk b B hB hl).row hR
  rw [hh] at h1
  simp only [Option.some.injEq, Obj.cells.injEq] at h1
  obtain ⟨rfl, rfl, rfl⟩ := h1
  have hb : b < s.H.length := (List.getElem?_eq_some_iff.1 hB).1
  have hal : arr.size = n * esz := by rw [← hc.len, hnew]
  have hle : (len + n) * esz ≤ cap * esz := Nat.mul_le_mul_right _ hroom
  rw [Nat.add_mul] at hle
  have hrun := run_cells (P := P) hh h2 (off := len * esz) (vs := arr.toList) (by simp; omega) (hc.ones fun p v h1 h2 => imm_one h2 h1)
  have hst := hr.store (o := len * esz) (B' := B') (vs := arr.toList) (lvs := new.map .pv) hB hl hl' hR hR' (fun c' E' fz' h => by
      rw [hh] at h
      simp only [Option.some.injEq, Obj.cells.injEq] at h
      obtain ⟨rfl, rfl, rfl⟩ := h
      rw [hBl']; simp; omega) (fun k hk => by
      rw [hBl'] at hk
      simp only [List.length_append] at hk
      rw [hBg', hBg]
      simp only [Array.length_toList, hal]
      by_cases e : len * esz ≤ k ∧ k < len * esz + n * esz
      · rw [if_pos e, List.getElem?_append_right (by omega), hcs]; simp
      · rw [if_neg e, List.getElem?_append_left (by omega)]) (fun k lv hk => by
      simp only [List.getElem?_map, Option.map_eq_some_iff] at hk
      obtain ⟨q, h5, rfl⟩ := hk
      exact hc.one _ _ h5) (fun k lv v hk hv => by
      simp only [List.getElem?_map, Option.map_eq_some_iff] at hk
      obtain ⟨q, h5, rfl⟩ := hk
      exact .pv (hc.rel _ _ _ h5 (by simpa using hv)))
  obtain ⟨c', h5, h6, h7⟩ := heap_setCells (β b) arr.toList (len * esz) w c E fz hh
  refine ⟨_, by rw [add_lit, Nat.zero_add]; exact hrun, hst, ?_⟩
  exact LR.ref b 0 (len + n) esz cap c' E fz (by simpa using hb) h5 hroom (by omega)
/-- What becomes of an append onto a row that is kept. -/
def ApEnd (s : St) (r : (Nat × Nat × Nat) × Nat × List PV) (K : LV → List Blk → Prop) : Prop :=
  K (.nref r.1.1 (r.1.2.1 + r.2.1) r.1.2.2) (s.H.set r.1.1 (.n r.2.2)) ∧ K (.nref s.H.length (r.1.2.1 + r.2.1) r.1.2.2) (s.H ++ [.n r.2.2])
theorem apP_sound (hT : TOk P T) (hr : Rel G w0 β s acts a w) {t t2 ty : TypeId} {x y : LV} {vx vy : Value} {r : (Nat × Nat × Nat) × Nat × List PV} {K : LV → List Blk → Prop} (hx : LR β s.H.length w (okOf w0 β s.H w) x vx) (hy : LR β s.H.length w (okOf w0 β s.H w) y vy) (h : apP T s t t2 x y = some r) (hK : ApEnd s r K) :
    ∃ v w' β' lv H', (Builtin.append_ #[t, t2] ty #[vx, vy]).run P w = .ok v w' ∧ K lv H' ∧ Rel G w0 β' { s with H := H' } acts a w' ∧ LR β' H'.length w' (okOf w0 β' H' w') lv v := by
  unfold apP at h
  split at h
  · rename_i i i2 ht ht2
    split at h
    · rename_i e he
      split at h
      · cases h
      · rename_i j hj
        split at h
        · cases h
        · rename_i n new hsrc
          have hpos : 0 < j.size := by
            obtain ⟨_, _, _, _, _, _, _, _, _, _, _, h2⟩ := (hT _ _ hj).info
            exact h2
          obtain ⟨hnew, arr, hcr, hs⟩ := srcZ_sound (P := P) (ty := ty) hT hr ht he hj ht2 hpos hy hsrc
          have hasz : arr.size = n * j.size := by rw [← hcr.len, hnew]
          split at h
          · rename_i b len esz
            split at h
            · rename_i cs hB
              split at h
              · rename_i hb
                obtain ⟨rfl, hcs, hb, h63⟩ := hb
                simp only [Option.some.injEq] at h
                subst h
                obtain ⟨hK1, hK2⟩ := hK
                have hbl : b < s.H.length := (List.getElem?_eq_some_iff.1 hB).1
                have nw : ∀ (ba : Option Addr) (cap : Nat) (old : Array Value), cap < len + n → vx = .slice ba len cap → (Builtin.firstCells j.size len (.slice ba len cap)).run P w.drew = .ok old w.drew → CR PV.one (Imm w (okOf w0 β s.H w)) cs old →
                    ∃ v w' β' lv H', (Builtin.append_ #[t, t2] ty #[vx, vy]).run P w = .ok v w' ∧ K lv H' ∧ Rel G w0 β' { s with H := H' } acts a w' ∧ LR β' H'.length w' (okOf w0 β' H' w') lv v := fun ba cap old hg hv ho hco => by
                  subst hv
                  obtain ⟨rest, h1, h2⟩ := hs.grow ba len cap old ho hg hb h63
                  have hge := grownCap_ge w (len + n) cap e
                  obtain ⟨β', h3, h4⟩ := hr.grown (B := Blk.n (cs ++ new)) (cs := cs ++ new) (arr := old ++ arr) (rest := rest) (e := e) (len := len + n) (cap := grownCap w (len + n) cap e) (esz := j.size) rfl (fun _ => rfl) (hco.append hcr) hge (by
                    rw [h1, Array.size_append, hasz, ← hco.len, hcs, ← Nat.add_mul, ← Nat.add_mul]; congr 1; omega)
                  have hpos' : 0 < len + n := by omega
                  exact ⟨_, _, β', _, _, h2, hK2, h3, .nref _ _ _ _ hpos' h4⟩
                cases hx with
                | nref0 _ _ ba =>
                  have e0 : cs = [] := List.eq_nil_of_length_eq_zero (by simpa using hcs)
                  subst e0
                  by_cases h0 : n = 0
                  · subst h0
                    have e1 : new = [] := List.eq_nil_of_length_eq_zero (by simpa using hnew)
                    subst e1
                    have e2 : arr = #[] := Array.eq_empty_of_size_eq_zero (by simpa using hasz)
                    subst e2
                    have := hs.room ba 0 0 (by simp) (by omega)
                    cases ba <;> exact ⟨_, _, _, _, _, this, hK2, (hr.addDead (B := Blk.n []) rfl).1, .nref0 _ _ _⟩
                  · exact nw ba 0 #[] (by omega) rfl (by cases ba <;> simp [Builtin.firstCells, loadCells, loadCellsFrom]) ⟨rfl, by simp, by simp⟩
                | nref _ _ _ _ h0 hx =>
                  rcases sl_ref_form hx with ⟨cap, c, E, fz, rfl, hbn, hh, hlc, hcap⟩ | ⟨rfl, _, _⟩
                  · have hl : (Blk.n cs).live = true := by
                      cases cs with
                      | nil =>
                        simp only [List.length_nil] at hcs
                        rcases Nat.mul_eq_zero.1 hcs.symm with h | h <;> omega
                      | cons _ _ => rfl
                    rw [Nat.zero_add] at hcap
                    obtain ⟨vs, hvs⟩ := hr.cells hB hl rfl
                    have hroomc : len * j.size ≤ cap * j.size := Nat.mul_le_mul_right _ hlc
                    by_cases hroom : len + n ≤ cap
                    · have hl' : (Blk.n (cs ++ new)).live = true := by
                        cases cs with
                        | nil => cases hl
                        | cons _ _ => rfl
                      obtain ⟨w', h1, h2, h3⟩ := rel_filledK (P := P) hr (B' := Blk.n (cs ++ new)) hB hl (fun _ => rfl) hl' (fun _ => rfl) rfl hcs hnew hcr hh hroom hcap rfl rfl
                      have := hs.room (some ⟨β b, 0, none⟩) len cap (Nat.le_trans (Nat.mul_le_mul_right _ (Nat.le_add_left _ _)) hb) hroom
                      simp only [h1, Result.andThen_ok] at this
                      have hpos' : 0 < len + n := by omega
                      exact ⟨_, w', β, _, _, this, hK1, h2, .nref _ _ _ _ hpos' h3⟩
                    · refine nw _ cap ((List.range (len * j.size)).map vs).toArray (by omega) rfl ?_ ⟨by simp [hcs], fun k p hp => ?_, fun k p u hp hu => ?_⟩
                      · have h1 := run_firstCells_some (P := P) w.drew j.size len ⟨β b, 0, none⟩ len cap ((List.range (len * j.size)).map vs) (by simp) (fun k v hk => by
                          rw [add_lit, Nat.zero_add]
                          have hk' : k < len * j.size := by have := (List.getElem?_eq_some_iff.1 hk).1; simpa using this
                          simp [hk'] at hk
                          subst hk
                          exact (hvs k (by show k < cs.length; omega)).1)
                        exact h1
                      · exact ((hvs k (by have := (List.getElem?_eq_some_iff.1 hp).1; exact this)).2 (.pv p) (by show Option.map _ _ = _; rw [hp]; rfl)).1
                      · have hk' : k < len * j.size := by have := (List.getElem?_eq_some_iff.1 hp).1; omega
                        simp [hk'] at hu
                        subst hu
                        have := ((hvs k (by show k < cs.length; omega)).2 (.pv p) (by show Option.map _ _ = _; rw [hp]; rfl)).2
                        cases this with | pv h => exact h
                  · omega
              · cases h
            · cases h
          · cases h
    · cases h
  · cases h
def apK (T : TypeId → Option TI) (G : Nat → Option (List PV)) (o : Oper) (s : St) (K : St → Prop) : Prop :=
  dstOk o.dst s.n ∧ match o.op with
  | .call { callee := .builtin .append, args := args, argTypes := ts } => match args.toList, ts.toList with
    | [x, y], [t, t2] => bindK (apP T { s with H := frzH s.H (s.ev G y) } t t2 (s.ev G x) (s.ev G y)) fun r =>
        K ({ s with H := (frzH s.H (s.ev G y)).set r.1.1 (Blk.n r.2.2) }.put o.dst (.nref r.1.1 (r.1.2.1 + r.2.1) r.1.2.2)) ∧
        K ({ s with H := frzH s.H (s.ev G y) ++ [Blk.n r.2.2] }.put o.dst (.nref (frzH s.H (s.ev G y)).length (r.1.2.1 + r.2.1) r.1.2.2))
    | _, _ => False
  | _ => False
theorem apK_sound (hT : TOk P T) (hr : Rel G w0 β s acts a w) {o : Oper} {K : St → Prop} (h : apK T G o s K) {next : Act → World → Prop} {Q' : Exit → Act → World → Prop}
    (hK : ∀ s' β' a' w', K s' → Rel G w0 β' s' acts a' w' → next a' w') : o.wp P a w next Q' := by
  obtain ⟨hd, h⟩ := h
  obtain ⟨dst, op, type, pos, after, guard⟩ := o
  split at h
  · rename_i args ts hop
    split at h
    · rename_i x y t t2 ha hts
      obtain ⟨r, h1, h2, h3⟩ := h
      obtain ⟨hr2, hm2⟩ := hr.frzH (s.ev G y)
      obtain ⟨v, w', β', lv, H', k1, k2, k3, k4⟩ := apP_sound (P := P) (ty := type) (K := fun lv H' => K ({ s with H := H' }.put dst lv)) hT hr2 (hm2 _ _ (hr.ev x)) (hm2 _ _ (hr.ev y)) h1 ⟨h2, h3⟩
      have ea : args = #[x, y] := by rw [← Array.toArray_toList (xs := args), ha]
      have et : ts = #[t, t2] := by rw [← Array.toArray_toList (xs := ts), hts]
      subst ea
      subst et
      simp only at hop
      subst hop
      unfold Oper.wp
      have : (execOp a.eval ⟨dst, .call { callee := .builtin .append, args := #[x, y], argTypes := #[t, t2] }, type, pos, after, guard⟩).run P w = .ok (.value v) w' := by
        simp only [execOp, resolve, invoke, builtin, Sem.run_bind, Sem.run_pure, Result.andThen_ok, List.map_toArray, List.map_cons, List.map_nil, k1]
      rw [this, Oper.upon_value]
      exact hK _ β' _ _ k2 (k3.putO hd k4)
    · exact h.elim
  · exact h.elim
theorem runOpsK_sound (hT : TOk P T) {ops : Array Oper} {ds : List (Option Nat)} (hds : ops.toList.map (·.dst) = ds) {K : St → Prop} {Q' : Exit → Act → World → Prop} {o : Oper} (hg : o.guard = none) {post : List Oper}
    (hQ : ∀ s' β' a' w', K s' → Rel G w0 β' s' acts a' w' → Q' .normal a' w') : ∀ (l : List Oper) (s : St) (β : Nat → Nat) (a : Act) (w : World), runOps P T G ds l s (fun s1 => apK T G o s1 fun s2 => runOps P T G ds post s2 K) → Rel G w0 β s acts a w → wpList P ops Q' (l ++ o :: post) a w
  | [], s, β, a, w, h, hr => by
    show wpList P ops Q' (o :: post) a w
    unfold wpList
    rw [if_pos (by simp [Region.wanted, hg])]
    have h : apK T G o s (fun s2 => runOps P T G ds post s2 K) := h
    exact .inl (apK_sound hT hr h fun s' β' a' w' h' hr' => runOps_sound hT hds hQ post s' β' a' w' h' hr')
  | p :: rest, s, β, a, w, h, hr => by
    simp only [runOps] at h
    show wpList P ops Q' (p :: (rest ++ o :: post)) a w
    unfold wpList
    have step : stepOp P T G p s (fun s' => runOps P T G ds rest s' (fun s1 => apK T G o s1 fun s2 => runOps P T G ds post s2 K)) → p.wp P a w (wpList P ops Q' (rest ++ o :: post)) Q' := fun h =>
      stepOp_sound hT hr h fun s' β' a' w' h' hr' => runOpsK_sound hT hds hg hQ rest s' β' a' w' h' hr'
    split at h
    · rename_i hg
      rw [if_pos (by simp [Region.wanted, hg])]
      exact .inl (step h)
    · rename_i j want hg
      obtain ⟨b, hb, h⟩ := h
      obtain ⟨h1, h2⟩ := guardK_out h
      have hy := guardVal_sound hr hds hb
      by_cases hbw : b = want
      · rw [if_pos (by simp [Region.wanted, hg, hy, hbw])]
        exact .inl (step (h1 hbw))
      · rw [if_neg (by simp [Region.wanted, hg, hy, hbw])]
        obtain ⟨hd, h3⟩ := h2 hbw
        exact runOpsK_sound hT hds ‹_› hQ rest _ β _ w h3 (hr.putO hd .non)
/-- A region whose order is the text's, one operation of which appends onto a row that is kept. -/
theorem AWp.regionK (hT : TOk P T) {id : Nat} {l : List Oper} {ds : List (Option Nat)} (hds : l.map (·.dst) = ds) (k : Nat) {pre post : List Oper} {o : Oper} (hp : l.take k = pre) (hq : l.drop k = o :: post) (hg : o.guard = none) {Q : Exit → St → Prop}
    (h : runOps P T G ds pre s (fun s1 => apK T G o s1 fun s2 => runOps P T G ds post s2 (fun s' => Q .normal s'))) : AWp P G (.region id l.toArray false) Q s :=
  fun w0 β acts a w hr => wp_region_lit (by
    have e : l = pre ++ o :: post := by rw [← hp, ← hq, List.take_append_drop]
    have := runOpsK_sound (ops := l.toArray) (K := fun s' => Q .normal s') (Q' := fun e a' w' => ∃ s' β', Q e s' ∧ Rel G w0 β' s' acts a' w') hT (by simpa using hds) hg (fun s' β' _ _ hK hr' => ⟨s', β', hK, hr'⟩) pre s β a w h hr
    rw [← e] at this
    exact this)
end
end Go.Proofs.YtkbmkgcenehenaaDoor
