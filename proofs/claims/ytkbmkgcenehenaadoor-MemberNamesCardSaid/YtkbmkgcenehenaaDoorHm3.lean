/- The machine without memory, part 3: plain laws about the model, no program in sight. -/
import Derived.Test.YtkbmkgcenehenaaDoorHm2
import Derived.SevenTiedAt
import Derived.Laws.Externs
import Derived.Lib.MakeNoZero
set_option linter.unusedVariables false
set_option linter.unusedSimpArgs false
namespace Hm
open Go Go.RowKit
/-- Blocks that a region may turn: those to which the slots d lead, and those to which what the slots r lead to leads. -/
def xblk (d r : List Nat) (s : St) : List Nat := unN (refsL (d.map (slot s.fr))) (closH s.H (closH s.H (refsL (r.map (slot s.fr)))))
attribute [go_sem] xblk
section
variable {P : Program} {T : TypeId → Option TI} {G : Nat → Option (List PV)} {ds : List (Option Nat)} {ol : List Oper} {Q : Exit → St → Prop} {s : St}
/-- A drawn region by its plan; X: blocks that it uses up. -/
theorem AWp.drawnA (t : PT) (d r : List Nat) (hT : TOk P T) (hm : P.follows .mixedOrders = true) {id : Nat} (hds : ol.map (·.dst) = ds)
    (hok : (decide (t.size ≤ ol.length) && headOk .any ol.toArray t (Array.replicate ol.length false) && planOkT .any ol t (Array.replicate ol.length false)) = true)
    (h0 : preB (xblk d r s) 0 s.H s.H) (h1 : RT P T G ds (preB (xblk d r s) 0 s.H) ol t (fun s' => Q .normal s') s) : AWp P G (.region id ol.toArray true) Q s :=
  AWp.drawnT t hT hm hds _ hok ⟨h0, h1⟩
theorem AWp.drawnB (t : PT) (d r : List Nat) (live : List Nat) (hT : TOk P T) (hm : P.follows .mixedOrders = true) {id : Nat} (hds : ol.map (·.dst) = ds)
    (hok : (decide (t.size ≤ ol.length) && headOk .any ol.toArray t (Array.replicate ol.length false) && planOkT .any ol t (Array.replicate ol.length false)) = true) {u : St}
    (h0 : preB (xblk d r s) 0 s.H s.H) (h1 : RT P T G ds (preB (xblk d r s) 0 s.H) ol t (Mrg live u) s) (h2 : Q .normal u) : AWp P G (.region id ol.toArray true) Q s :=
  AWp.drawnM t live hT hm hds _ hok ⟨u, ⟨h0, h1⟩, h2⟩
end
theorem Mrg.mk {live : List Nat} {u s : St} (h : upB s.up (ordS live s) = true ∧ bindK (s.norm live (ordS live s)) fun t => Keep (t = u)) : Mrg live u s := ⟨h.1, let ⟨t, h1, h2⟩ := h.2; ⟨t, h1, h2.out⟩⟩
/-! ### Loops, told of by what a round turns -/
def ovl : List (Nat × LV) → Nat → LV → LV
  | [], _, d => d
  | (k, v) :: r, t, d => if t = k then v else ovl r t d
def ovf (l : List (Nat × LV)) : List (Nat × LV) → List (Nat × LV)
  | [] => []
  | (t, v) :: r => (t, ovl l t v) :: ovf l r
def ovb : List (Nat × Blk) → Nat → Blk → Blk
  | [], _, d => d
  | (k, v) :: r, t, d => if t = k then v else ovb r t d
def ovh (l : List (Nat × Blk)) : Nat → List Blk → List Blk
  | _, [] => []
  | k, B :: r => ovb l k B :: ovh l (k + 1) r
def stA (s : St) (fr : List (Nat × LV)) (H : List (Nat × Blk)) : St := { s with fr := ovf fr s.fr, H := ovh H 0 s.H }
attribute [go_sem] ovl ovf ovb ovh stA ordS
section
variable {P : Program} {G : Nat → Option (List PV)} {Q : Exit → St → Prop} {s : St} {c : Code} {α : Type}
def RoundA (live : List Nat) (s1 : St) (chg : α → List (Nat × LV)) (blk : α → List (Nat × Blk)) (J : α → Prop) (μ : α → Nat) (x : α) (s' : St) : Prop :=
  upB s'.up (ordS live s') = true ∧ bindK (s'.norm live (ordS live s')) fun t => ∃ x', J x' ∧ μ x' < μ x ∧ t = stA s1 (chg x') (blk x')
def HeadA (P : Program) (G : Nat → Option (List PV)) (c : Code) (Q : Exit → St → Prop) (live : List Nat) (J : α → Prop) (μ : α → Nat) (chg : α → List (Nat × LV)) (blk : α → List (Nat × Blk)) (x0 : α) (s1 : St) : Prop :=
  J x0 ∧ stA s1 (chg x0) (blk x0) = s1 ∧ ∀ x, J x → AWp P G c (AThen (RoundA live s1 chg blk J μ x) Q) (stA s1 (chg x) (blk x))
variable {J : α → Prop} {μ : α → Nat} {chg : α → List (Nat × LV)} {blk : α → List (Nat × Blk)} {x0 x : α} {live : List Nat} {s1 s' : St}
theorem HeadA.mk (hJ : J x0) (hE : stA s1 (chg x0) (blk x0) = s1) (hR : ∀ x, J x → AWp P G c (AThen (RoundA live s1 chg blk J μ x) Q) (stA s1 (chg x) (blk x))) : HeadA P G c Q live J μ chg blk x0 s1 := ⟨hJ, hE, hR⟩
theorem RoundA.mk (x' : α) (hJ : J x') (hM : μ x' < μ x) (hE : upB s'.up (ordS live s') = true ∧ bindK (s'.norm live (ordS live s')) fun t => t = stA s1 (chg x') (blk x')) : RoundA live s1 chg blk J μ x s' :=
  ⟨hE.1, let ⟨t, k1, k2⟩ := hE.2; ⟨t, k1, x', hJ, hM, k2⟩⟩
theorem AWp.loopA (live : List Nat) (J : α → Prop) (μ : α → Nat) (chg : α → List (Nat × LV)) (blk : α → List (Nat × Blk)) (x0 : α)
    (h : upB s.up (ordS live s) = true ∧ bindK (s.norm live (ordS live s)) fun s1 => HeadA P G c Q live J μ chg blk x0 s1) : AWp P G (.loop c) Q s := by
  obtain ⟨hu, s1, h1, hJ, h2, h3⟩ := h
  refine AWp.weak (St.norm_weak hu h1) ?_
  refine AWp.loop (fun g s => ∃ x, J x ∧ μ x = g ∧ s = stA s1 (chg x) (blk x)) (μ x0) ⟨x0, hJ, rfl, h2.symm⟩ ?_
  rintro g s ⟨x, hx, rfl, rfl⟩
  refine AWp.mono ?_ (h3 x hx)
  intro e s' h
  cases e with
  | normal =>
    obtain ⟨hu', t, k1, x', k2, k3, k4⟩ := h
    exact ⟨μ x', k3, t, St.norm_weak hu' k1, x', k2, rfl, k4⟩
  | _ => exact h
@[congr] theorem HeadA_congr (k : s = s') : HeadA P G c Q live J μ chg blk x0 s = HeadA P G c Q live J μ chg blk x0 s' := by rw [k]
end
@[congr] theorem RoundA_congr {α : Type} {live : List Nat} {s1 : St} {chg : α → List (Nat × LV)} {blk : α → List (Nat × Blk)} {J : α → Prop} {μ : α → Nat} {x : α} {s s' : St} (k : s = s') :
    RoundA live s1 chg blk J μ x s = RoundA live s1 chg blk J μ x s' := by rw [k]
theorem St_eq {n : Nat} {fr fr' : List (Nat × LV)} {H H' : List Blk} {up : List (Nat × List (Nat × LV))} (h : fr = fr') (k : H = H') : (St.mk n fr H up) = St.mk n fr' H' up := by rw [h, k]
theorem fr_eq {t : Nat} {a b : LV} {l r : List (Nat × LV)} (h : a = b) (k : l = r) : (t, a) :: l = (t, b) :: r := by rw [h, k]
theorem hb_eq {a b : Blk} {l r : List Blk} (h : a = b) (k : l = r) : a :: l = b :: r := by rw [h, k]
theorem pv_eq {a b : PV} (h : a = b) : LV.pv a = LV.pv b := by rw [h]
theorem ref_eq {b o l e b' o' l' e' : Nat} (h1 : b = b') (h2 : o = o') (h3 : l = l') (h4 : e = e') : LV.ref b o l e = LV.ref b' o' l' e' := by rw [h1, h2, h3, h4]
theorem nref_eq {b l e b' l' e' : Nat} (h1 : b = b') (h3 : l = l') (h4 : e = e') : LV.nref b l e = LV.nref b' l' e' := by rw [h1, h3, h4]
theorem blkp_eq {a b : List PV} (h : a = b) : Blk.p a = Blk.p b := by rw [h]
theorem blkn_eq {a b : List PV} (h : a = b) : Blk.n a = Blk.n b := by rw [h]
theorem int_eq {k : IntKind} {a b : Int} (h : a = b) : PV.int k a = PV.int k b := by rw [h]
attribute [go_sem] false_or or_true true_or or_self and_self not_false_eq_true eq_self
attribute [go_sem] List.range_zero
@[go_sem] theorem rng1 : List.range 1 = [0] := rfl
@[go_sem] theorem rng2 : List.range 2 = [0, 1] := rfl
@[go_sem] theorem rng3 : List.range 3 = [0, 1, 2] := rfl
@[go_sem] theorem rng4 : List.range 4 = [0, 1, 2, 3] := rfl
@[go_sem] theorem rng5 : List.range 5 = [0, 1, 2, 3, 4] := rfl
@[go_sem] theorem rng6 : List.range 6 = [0, 1, 2, 3, 4, 5] := rfl
@[go_sem] theorem rng7 : List.range 7 = [0, 1, 2, 3, 4, 5, 6] := rfl
@[go_sem] theorem rng8 : List.range 8 = [0, 1, 2, 3, 4, 5, 6, 7] := rfl
@[go_sem] theorem rng9 : List.range 9 = [0, 1, 2, 3, 4, 5, 6, 7, 8] := rfl
@[go_sem] theorem rng10 : List.range 10 = [0, 1, 2, 3, 4, 5, 6, 7, 8, 9] := rfl
@[go_sem] theorem rng11 : List.range 11 = [0, 1, 2, 3, 4, 5, 6, 7, 8, 9, 10] := rfl
@[go_sem] theorem rng12 : List.range 12 = [0, 1, 2, 3, 4, 5, 6, 7, 8, 9, 10, 11] := rfl
@[go_sem] theorem upB_cons (m : Nat) (f : List (Nat × LV)) (r : List (Nat × List (Nat × LV))) (π : List Nat) : upB ((m, f) :: r) π = (decide (π.take m = List.range m) && upB r π) := rfl
attribute [go_sem] List.foldl_cons List.foldl_nil
@[go_sem] theorem bytes_beq_dec (a b : ByteArray) : (a == b) = decide (a = b) := by
  by_cases h : a = b
  · rw [decide_eq_true h]; exact (MapKept.bytes_beq a b).2 h
  · rw [decide_eq_false h]
    cases hb : a == b with
    | false => rfl
    | true => exact absurd ((MapKept.bytes_beq a b).1 hb) h
end Hm
/- Plain laws: bits. -/
namespace Hm
open Go

theorem or_lt {a b n : Nat} (ha : a < 2 ^ n) (hb : b < 2 ^ n) : a ||| b < 2 ^ n := Nat.or_lt_two_pow ha hb
theorem ofInt_nat (n : Nat) {a : Int} (h : 0 ≤ a) (h2 : a < 2 ^ n) : (BitVec.ofInt n a).toNat = a.toNat := by
  rw [BitVec.toNat_ofInt]
  congr 1
  exact Int.emod_eq_of_lt h (by exact_mod_cast h2)
/-- Bits of whole numbers that are not less than 0. -/
theorem or_u64 {a b : Int} (ha : 0 ≤ a) (ha2 : a < 18446744073709551616) (hb : 0 ≤ b) (hb2 : b < 18446744073709551616) : ibits .or .u64 a b = ((a.toNat ||| b.toNat : Nat) : Int) := by
  have e : ibits .or .u64 a b = (((BitVec.ofInt 64 a ||| BitVec.ofInt 64 b).toNat : Nat) : Int) % 18446744073709551616 := by
    show IntKind.wrap .u64 _ = _
    rw [wrap_u64]
    rfl
  rw [e, BitVec.toNat_or, ofInt_nat 64 ha (by omega), ofInt_nat 64 hb (by omega)]
  have h : a.toNat ||| b.toNat < 2 ^ 64 := or_lt (by omega) (by omega)
  exact Int.emod_eq_of_lt (by omega) (by omega)
theorem or_mul {v x : Nat} (i : Nat) (hx : x < 2 ^ i) : (v * 2 ^ i) ||| x = v * 2 ^ i + x := by
  rw [Nat.mul_comm, ← Nat.two_pow_add_eq_or_of_lt hx]
theorem or_byte_u64 {v x : Int} (hv : 0 ≤ v) (hv2 : v < 72057594037927936) (hx : 0 ≤ x) (hx2 : x < 256) : ibits .or .u64 (v * 256) x = v * 256 + x := by
  rw [or_u64 (by omega) (by omega) (by omega) (by omega)]
  have : (v * 256).toNat = v.toNat * 2 ^ 8 := by omega
  rw [this, or_mul 8 (by omega)]
  omega
end Hm
/- Plain laws: bytes and strings, elements of lists. -/
namespace Hm
open Go
/-- The byte of a number. -/
def f8 (n : Int) : UInt8 := UInt8.ofNat n.toNat
/-- A string of bytes. -/
def bs (l : List Int) : ByteArray := ⟨(l.map f8).toArray⟩
/-- The bytes of a string. -/
def sb (s : ByteArray) : List Int := s.data.toList.map fun x => (x.toNat : Int)
def Byt (l : List Int) : Prop := ∀ x ∈ l, 0 ≤ x ∧ x < 256
theorem Byt.take {l : List Int} (h : Byt l) (n : Nat) : Byt (l.take n) := fun x hx => h x (List.mem_of_mem_take hx)
theorem Byt.drop {l : List Int} (h : Byt l) (n : Nat) : Byt (l.drop n) := fun x hx => h x (List.mem_of_mem_drop hx)
theorem Byt.get {l : List Int} (h : Byt l) {k : Nat} (hk : k < l.length) : 0 ≤ l.getD k 0 ∧ l.getD k 0 < 256 := by
  have : l.getD k 0 = l[k] := by simp [hk]
  rw [this]; exact h _ (List.getElem_mem hk)
theorem Byt.app {l m : List Int} (h : Byt l) (k : Byt m) : Byt (l ++ m) := fun x hx => (List.mem_append.1 hx).elim (h x) (k x)
theorem Byt.nil : Byt [] := fun _ h => by cases h
theorem Byt.cons {a : Int} {l : List Int} (h : 0 ≤ a ∧ a < 256) (k : Byt l) : Byt (a :: l) := fun x hx => by
  rcases List.mem_cons.1 hx with rfl | hx
  · exact h
  · exact k x hx
theorem Byt.tail {a : Int} {l : List Int} (h : Byt (a :: l)) : Byt l := fun x hx => h x (.tail _ hx)
theorem sb_byt (s : ByteArray) : Byt (sb s) := fun x hx => by
  simp only [sb, List.mem_map] at hx
  obtain ⟨y, _, rfl⟩ := hx
  have : y.toNat < 256 := y.toNat_lt
  omega
theorem sb_length (s : ByteArray) : (sb s).length = s.size := by
  show (s.data.toList.map _).length = s.data.size
  rw [List.length_map, Array.length_toList]
theorem bs_size (l : List Int) : (bs l).size = l.length := by
  show (l.map f8).toArray.size = _
  rw [List.size_toArray, List.length_map]
theorem f8_nat {x : Int} (h : 0 ≤ x ∧ x < 256) : ((f8 x).toNat : Int) = x := by
  unfold f8
  rw [UInt8.toNat_ofNat']
  have : x.toNat % 2 ^ 8 = x.toNat := Nat.mod_eq_of_lt (by omega)
  rw [this]; omega
theorem sb_bs {l : List Int} (h : Byt l) : sb (bs l) = l := by
  simp only [sb, bs, List.map_map]
  conv => rhs; rw [← List.map_id l]
  exact List.map_congr_left fun x hx => f8_nat (h x hx)
theorem f8_of (x : UInt8) : f8 (x.toNat : Int) = x := by simp [f8]
theorem bs_sb (s : ByteArray) : bs (sb s) = s := by
  obtain ⟨⟨l⟩⟩ := s
  simp only [bs, sb, List.map_map]
  congr 2
  conv => rhs; rw [← List.map_id l]
  exact List.map_congr_left fun x _ => f8_of x
theorem bs_inj {l m : List Int} (h : Byt l) (k : Byt m) : bs l = bs m ↔ l = m := ⟨fun e => by rw [← sb_bs h, ← sb_bs k, e], fun e => by rw [e]⟩
theorem sb_inj {s t : ByteArray} : sb s = sb t ↔ s = t := ⟨fun e => by rw [← bs_sb s, ← bs_sb t, e], fun e => by rw [e]⟩
theorem sget_sb (s : ByteArray) (i : Nat) : sget s i = (sb s).getD i 0 := by
  simp only [sget, sb, List.getD_eq_getElem?_getD, List.getElem?_map]
  cases s.data.toList[i]? <;> rfl
theorem bs_app (l m : List Int) : bs l ++ bs m = bs (l ++ m) := by
  apply ByteArray.ext
  simp [bs, ByteArray.data_append]
theorem sb_app (s t : ByteArray) : sb (s ++ t) = sb s ++ sb t := by simp [sb, ByteArray.data_append]
@[go_sem] theorem bytesOf_ints : ∀ l : List Int, bytesOf (l.map (PV.int .u8)) = some (l.map f8)
  | [] => rfl
  | x :: r => by simp only [List.map_cons, bytesOf, bytesOf_ints r, Option.map_some]; rfl
@[go_sem] theorem bs_fold (l : List Int) : ByteArray.mk (l.map f8).toArray = bs l := rfl
@[go_sem] theorem sb_fold (s : ByteArray) : (s.data.toList.map fun x => PV.int .u8 (x.toNat : Int)) = (sb s).map (PV.int .u8) := by simp [sb]
attribute [go_sem] bs_size sb_length List.flatten_cons List.flatten_nil
@[go_sem] theorem toList_beq (a b : ByteArray) : (a.toList == b.toList) = decide (a = b) := by
  rw [← beq_toListBytes, bytes_beq_dec]
@[go_sem] theorem ren_mref (n : Nat) (f : Nat → Option Nat) (b : Nat) : LV.ren n f (.mref b) = (f b).map .mref := by cases n <;> rfl
@[go_sem] theorem ren_emp (n : Nat) (f : Nat → Option Nat) : LV.ren n f .emp = some .emp := by cases n <;> rfl
@[go_sem] theorem fr_mref (n b : Nat) : LV.freshP n (.mref b) = True := by cases n <;> rfl
@[go_sem] theorem fr_emp (n : Nat) : LV.freshP n .emp = True := by cases n <;> rfl
@[go_sem] theorem refs_emp (n : Nat) : LV.refs n .emp = [] := by cases n <;> rfl
@[go_sem] theorem snap_emp (n : Nat) (H : List Blk) : snap n H .emp = snap0 H .emp := by cases n <;> rfl
/-! Lists of structs -/
theorem flat_len {α : Type} {f : α → List PV} {sz : Nat} (hf : ∀ x, (f x).length = sz) : ∀ l : List α, (l.flatMap f).length = l.length * sz
  | [] => by simp
  | x :: r => by rw [List.flatMap_cons, List.length_append, hf, flat_len hf r, List.length_cons, Nat.add_mul]; omega
theorem flat_drop {α : Type} {f : α → List PV} {sz : Nat} (hf : ∀ x, (f x).length = sz) : ∀ (l : List α) (k : Nat), (l.flatMap f).drop (k * sz) = (l.drop k).flatMap f
  | l, 0 => by simp
  | [], k + 1 => by simp
  | x :: r, k + 1 => by
    rw [List.flatMap_cons, List.drop_succ_cons, ← flat_drop hf r k, List.drop_append, List.drop_of_length_le (by rw [hf, Nat.add_mul]; omega), List.nil_append, hf]
    congr 1
    rw [Nat.add_mul]; omega
theorem flat_take {α : Type} {f : α → List PV} {sz : Nat} (hf : ∀ x, (f x).length = sz) : ∀ (l : List α) (k : Nat), (l.flatMap f).take (k * sz) = (l.take k).flatMap f
  | l, 0 => by simp
  | [], k + 1 => by simp
  | x :: r, k + 1 => by
    rw [List.flatMap_cons, List.take_succ_cons, List.flatMap_cons, ← flat_take hf r k, List.take_append, List.take_of_length_le (by rw [hf, Nat.add_mul]; omega), hf]
    congr 2
    rw [Nat.add_mul]; omega
theorem getD_get {α : Type} (l : List α) (d : α) {k : Nat} (h : k < l.length) : l.getD k d = l[k] := by simp [h]
theorem flat_part {α : Type} {f : α → List PV} {sz : Nat} (hf : ∀ x, (f x).length = sz) (l : List α) (d : α) (k : Nat) (h : k < l.length) : ((l.flatMap f).drop (k * sz)).take sz = f (l.getD k d) := by
  rw [flat_drop hf, List.drop_eq_getElem_cons h, List.flatMap_cons, List.take_append_of_le_length (by rw [hf]; exact Nat.le_refl _), List.take_of_length_le (by rw [hf]; exact Nat.le_refl _), getD_get l d h]
theorem opt_if {α β : Type} {c : Prop} [Decidable c] {f : α → β} {a b : Option α} {r : Option β} (h : c) (e : Option.map f a = r) : Option.map f (if c then a else b) = r := by rw [if_pos h, e]
theorem opt_opt_if {α β γ : Type} {c : Prop} [Decidable c] {f : β → γ} {g : α → β} {a b : Option α} {r : Option γ} (h : c) (e : Option.map f (Option.map g a) = r) : Option.map f (Option.map g (if c then a else b)) = r := by rw [if_pos h, e]
theorem flat_sub {α : Type} {f : α → List PV} {sz : Nat} (hf : ∀ x, (f x).length = sz) (l : List α) (d : α) (k o m : Nat) (h : k < l.length) (ho : o + m ≤ sz) : ((l.flatMap f).drop (k * sz + o)).take m = ((f (l.getD k d)).drop o).take m := by
  rw [← flat_part hf l d k h, List.drop_take, List.drop_drop, List.take_take, Nat.min_eq_left (by omega)]
theorem flat_get {α : Type} {f : α → List PV} {sz : Nat} (hf : ∀ x, (f x).length = sz) (l : List α) (d : α) (k o : Nat) (h : k < l.length) (ho : o < sz) : (l.flatMap f)[k * sz + o]? = (f (l.getD k d))[o]? := by
  rw [← flat_part hf l d k h, List.getElem?_take_of_lt ho, List.getElem?_drop]
theorem flat_olds {α β : Type} {f : α → List PV} {g : β → List PV} {h : α → β} (he : ∀ x, PV.olds (f x) = g (h x)) : ∀ l : List α, PV.olds (l.flatMap f) = (l.map h).flatMap g
  | [] => rfl
  | x :: r => by rw [List.flatMap_cons, olds_append, flat_olds he r, he]; rfl
theorem flat_olds' {α : Type} {f g : α → List PV} (he : ∀ x, PV.olds (f x) = g x) : ∀ l : List α, PV.olds (l.flatMap f) = l.flatMap g
  | [] => rfl
  | x :: r => by rw [List.flatMap_cons, olds_append, flat_olds' he r, he]; rfl
theorem flat_gens {α : Type} {f : α → List PV} (he : ∀ x, PV.gens (f x) = f x) : ∀ l : List α, PV.gens (l.flatMap f) = l.flatMap f
  | [] => rfl
  | x :: r => by rw [List.flatMap_cons, gens_append, flat_gens he r, he]
theorem flat_freshs {α : Type} {f : α → List PV} (he : ∀ x, PV.freshs (f x) = true) : ∀ l : List α, PV.freshs (l.flatMap f) = true
  | [] => rfl
  | x :: r => by rw [List.flatMap_cons, freshs_append, flat_freshs he r, he]; rfl
theorem flat_snoc {α : Type} {f : α → List PV} (l : List α) (x : α) : l.flatMap f ++ f x = (l ++ [x]).flatMap f := by simp
/-- Two rows of numbers. -/
def intDs : List TypeDesc → Bool
  | [] => true
  | .int _ :: r => intDs r
  | _ :: _ => false
theorem eqL_ints (k : IntKind) : ∀ (ds : List TypeDesc) (l m : List Int), intDs ds = true → l.length = ds.length → m.length = ds.length → eqL ds (l.map (PV.int k)) (m.map (PV.int k)) = some (decide (l = m))
  | [], [], [], _, _, _ => rfl
  | .int q :: ds, x :: l, y :: m, h, h1, h2 => by
    have ih := eqL_ints k ds l m h (by simpa using h1) (by simpa using h2)
    simp only [List.map_cons, eqL, sameP, if_true, ih]
    by_cases e : x = y
    · subst e; simp
    · simp [e]
theorem take_snocD {α : Type} (l : List α) (d : α) {k : Nat} (hk : k < l.length) : l.take (k + 1) = l.take k ++ [l.getD k d] := by
  rw [List.take_add_one, getD_get l d hk, List.getElem?_eq_getElem hk]; rfl
theorem gdS (l : List ByteArray) (k : Nat) (h : k < l.length) : l[k]? = some (l.getD k .empty) := by simp [h]
@[go_sem] theorem olds_strs (l : List ByteArray) : PV.olds (l.map .str) = l.map .str := by
  rw [olds_eq, List.map_map]; rfl
@[go_sem] theorem gens_strs : ∀ l : List ByteArray, PV.gens (l.map .str) = l.map .str
  | [] => rfl
  | x :: r => by simp only [List.map_cons, PV.gens, PV.gen, gens_strs r]
@[go_sem] theorem freshs_strs : ∀ l : List ByteArray, PV.freshs (l.map .str) = true
  | [] => rfl
  | x :: r => by simp only [List.map_cons, PV.freshs, PV.fresh, freshs_strs r, Bool.and_self]
/-- A set of strings, as a map. -/
def setM (l : List ByteArray) : List (PV × PV) := l.map fun s => (.str s, .bool true)
theorem setM_in {s : ByteArray} : ∀ {l : List ByteArray} (i : Nat), s ∈ l → ∃ j, findP .string (.str s) (setM l) i = some (some (j, .bool true))
  | x :: r, i, h => by
    by_cases e : s = x
    · subst e; exact ⟨i, by simp [setM, findP, sameP, (MapKept.bytes_beq s s).2 rfl]⟩
    · have h' : s ∈ r := by simpa [e] using h
      obtain ⟨j, hj⟩ := setM_in (i + 1) h'
      refine ⟨j, ?_⟩
      have hb : (s == x) = false := by rw [bytes_beq_dec]; simp [e]
      simp only [setM, List.map_cons, findP, sameP, hb]
      exact hj
theorem setM_out {s : ByteArray} : ∀ {l : List ByteArray} (i : Nat), s ∉ l → findP .string (.str s) (setM l) i = some none
  | [], _, _ => rfl
  | x :: r, i, h => by
    have hb : (s == x) = false := by rw [bytes_beq_dec]; simp; exact fun e => h (by simp [e])
    simp only [setM, List.map_cons, findP, sameP, hb]
    exact setM_out (i + 1) fun h' => h (.tail _ h')
theorem setM_snoc (l : List ByteArray) (s : ByteArray) : setM l ++ [(.str s, .bool true)] = setM (l ++ [s]) := by simp [setM]
theorem nodup_snoc {α : Type} {l : List α} {x : α} (h : l.Nodup) (hx : x ∉ l) : (l ++ [x]).Nodup := by
  rw [List.nodup_append]
  exact ⟨h, by simp, fun a ha b hb e => by simp at hb; subst hb; subst e; exact hx ha⟩
theorem nodup_take_not {l : List ByteArray} {k : Nat} (hk : k < l.length) (h : l.getD k .empty ∈ l.take k) : ¬ l.Nodup := fun hn => by
  rw [getD_get l _ hk, List.mem_take_iff_getElem] at h
  obtain ⟨i, hi, he⟩ := h
  exact (List.pairwise_iff_getElem.1 hn) i k (by omega) hk (by omega) he
theorem getD_app {α : Type} (l m : List α) (d : α) {i : Nat} (h : i < l.length) : (l ++ m).getD i d = l.getD i d := by simp [List.getElem?_append_left h]
theorem getD_app0 {α : Type} (l : List α) (x d : α) : (l ++ [x]).getD l.length d = x := by simp
theorem all_succ {P : Nat → Prop} {k : Nat} (h : ∀ i, i < k → P i) (hk : P k) : ∀ i, i < k + 1 → P i := fun i hi => by
  by_cases e : i = k
  · subst e; exact hk
  · exact h i (by omega)
theorem bool_no {p : Prop} [Decidable p] (h : ¬p) : PV.bool false = PV.bool (decide p) := by rw [decide_eq_false h]
theorem bool_yes {p : Prop} [Decidable p] (h : p) : PV.bool true = PV.bool (decide p) := by rw [decide_eq_true h]
theorem bool_niff {p q : Prop} [Decidable p] [Decidable q] (h : ¬p ↔ q) : PV.bool (!decide p) = PV.bool (decide q) := by
  by_cases c : p
  · rw [decide_eq_true c, decide_eq_false (fun hq => h.2 hq c)]; rfl
  · rw [decide_eq_false c, decide_eq_true (h.1 c)]; rfl
theorem bool_iff {p q : Prop} [Decidable p] [Decidable q] (h : p ↔ q) : PV.bool (decide p) = PV.bool (decide q) := by simp only [h]
end Hm
namespace Hm
open Go Go.RowKit Go.WideShapes Go.ChangeShapes

theorem trodAll_len {H : Type} {enc : TypeId × Value → H} {P : Program} {w : World} {base : Nat} {spare : Nat → Bool} {held : Bool} : ∀ {ts : List TypeId} {vs : List Value} {ds : List (DataW H)} {p : List MemPlace}, DataW.TrodAll enc P w base spare held ts vs ds p → ds.length = ts.length
  | [], [], [], _, _ => rfl
  | _ :: _, _ :: _, _ :: _, _, ⟨_, _, _, h, _⟩ => by simp [trodAll_len h]
  | [], _ :: _, _, _, h => h.elim
  | [], [], _ :: _, _, h => h.elim
  | _ :: _, [], _, _, h => h.elim
  | _ :: _, _ :: _, [], _, h => h.elim

section
variable {T : TypeId → Option TI} {n : Nat} {t e : TypeId} {i j : TI} {k : IntKind} {q : PV}
theorem typ_int {cs : List PV} (h : Typ T (n + 1) t cs) (ht : T t = some i) (hu : i.und = .int k) : ∃ m, cs = [.int k m] ∧ (Lit.int k m).wf = true := by
  unfold Typ at h
  simp only [ht, hu] at h
  exact h
theorem typ_bool {cs : List PV} (h : Typ T (n + 1) t cs) (ht : T t = some i) (hu : i.und = .bool) : ∃ b, cs = [.bool b] := by
  unfold Typ at h
  simp only [ht, hu] at h
  exact h
theorem typ_str {cs : List PV} (h : Typ T (n + 1) t cs) (ht : T t = some i) (hu : i.und = .string) : ∃ s, cs = [.str s] ∧ s.size ≤ maxLen := by
  unfold Typ at h
  simp only [ht, hu] at h
  exact h
theorem typ_slice {cs : List PV} (h : Typ T (n + 1) t cs) (ht : T t = some i) (hu : i.und = .slice e) : ∃ es : List (List PV), cs = [.asl true es.flatten es.length] ∧ es.length ≤ maxLen ∧ ∀ c ∈ es, Typ T n e c := by
  unfold Typ at h
  simp only [ht, hu] at h
  exact h
theorem typ_array {m : Nat} {cs : List PV} (h : Typ T (n + 1) t cs) (ht : T t = some i) (hu : i.und = .array m e) : ∃ es : List (List PV), cs = es.flatten ∧ es.length = m ∧ ∀ c ∈ es, Typ T n e c := by
  unfold Typ at h
  simp only [ht, hu] at h
  exact h
theorem typ_struct {fs : Array Field} {cs : List PV} (h : Typ T (n + 1) t cs) (ht : T t = some i) (hu : i.und = .struct fs) : TypF (Typ T n) (fs.toList.map (·.type)) cs := by
  unfold Typ at h
  simp only [ht, hu] at h
  exact h
/-- Elements, one by one. -/
theorem typ_elems {α : Type} {f : α → List PV} {R : α → Prop} {es : List (List PV)} (h : ∀ c ∈ es, ∃ x, c = f x ∧ R x) : ∃ l : List α, es = l.map f ∧ ∀ x ∈ l, R x := by
  induction es with
  | nil => exact ⟨[], rfl, by simp⟩
  | cons c es ih =>
    obtain ⟨x, rfl, hx⟩ := h c (by simp)
    obtain ⟨l, rfl, hl⟩ := ih fun c hc => h c (by simp [hc])
    refine ⟨x :: l, rfl, fun y hy => ?_⟩
    rcases List.mem_cons.1 hy with rfl | hy
    · exact hx
    · exact hl y hy
theorem flatten_one {α : Type} (f : α → PV) (l : List α) : (l.map fun x => [f x]).flatten = l.map f := by
  induction l with
  | nil => rfl
  | cons a l ih => simp only [List.map_cons, List.flatten_cons, ih]; rfl
theorem typ_ints {cs : List PV} (h : Typ T (n + 2) t cs) (ht : T t = some i) (hu : i.und = .slice e) (he : T e = some j) (hk : j.und = .int k) : ∃ l : List Int, cs = [.asl true (l.map (PV.int k)) l.length] ∧ l.length ≤ maxLen ∧ ∀ x ∈ l, (Lit.int k x).wf = true := by
  obtain ⟨es, rfl, h1, h2⟩ := typ_slice h ht hu
  obtain ⟨l, rfl, h3⟩ := typ_elems (f := fun x => [PV.int k x]) (R := fun x => (Lit.int k x).wf = true) fun c hc => typ_int (h2 c hc) he hk
  exact ⟨l, by rw [flatten_one, List.length_map], by simpa using h1, h3⟩
theorem typ_arr {m : Nat} {cs : List PV} (h : Typ T (n + 2) t cs) (ht : T t = some i) (hu : i.und = .array m e) (he : T e = some j) (hk : j.und = .int k) : ∃ l : List Int, cs = l.map (PV.int k) ∧ l.length = m ∧ ∀ x ∈ l, (Lit.int k x).wf = true := by
  obtain ⟨es, rfl, h1, h2⟩ := typ_array h ht hu
  obtain ⟨l, rfl, h3⟩ := typ_elems (f := fun x => [PV.int k x]) (R := fun x => (Lit.int k x).wf = true) fun c hc => typ_int (h2 c hc) he hk
  exact ⟨l, flatten_one _ _, by simpa using h1, h3⟩
theorem typV_one (h : TypV T n t q) (ht : T t = some i) (ha : isAggD i.und = false) : Typ T n t [q] := by
  unfold TypV at h
  simp only [ht, ha] at h
  simpa using h
theorem typV_agg (h : TypV T n t q) (ht : T t = some i) (ha : isAggD i.und = true) : ∃ ps, q = .agg ps ∧ Typ T n t ps := by
  unfold TypV at h
  simp only [ht, ha] at h
  simpa using h
theorem typV_int (h : TypV T (n + 1) t q) (ht : T t = some i) (hu : i.und = .int k) : ∃ m, q = .int k m ∧ (Lit.int k m).wf = true := by
  obtain ⟨m, h1, h2⟩ := typ_int (typV_one h ht (by rw [hu]; rfl)) ht hu
  exact ⟨m, by simpa using h1, h2⟩
theorem typV_str (h : TypV T (n + 1) t q) (ht : T t = some i) (hu : i.und = .string) : ∃ s, q = .str s ∧ s.size ≤ maxLen := by
  obtain ⟨m, h1, h2⟩ := typ_str (typV_one h ht (by rw [hu]; rfl)) ht hu
  exact ⟨m, by simpa using h1, h2⟩
theorem typV_ints (h : TypV T (n + 2) t q) (ht : T t = some i) (hu : i.und = .slice e) (he : T e = some j) (hk : j.und = .int k) : ∃ l : List Int, q = .asl true (l.map (PV.int k)) l.length ∧ l.length ≤ maxLen ∧ ∀ x ∈ l, (Lit.int k x).wf = true := by
  obtain ⟨l, h1, h2⟩ := typ_ints (typV_one h ht (by rw [hu]; rfl)) ht hu he hk
  exact ⟨l, by simpa using h1, h2⟩
theorem typVs_cons {ts : List TypeId} {qs : List PV} (h : TypVs T n (t :: ts) qs) : ∃ q r, qs = q :: r ∧ TypV T n t q ∧ TypVs T n ts r := by
  cases qs with
  | nil => exact h.elim
  | cons q r => exact ⟨q, r, rfl, h.1, h.2⟩
theorem typVs_nil {qs : List PV} (h : TypVs T n [] qs) : qs = [] := by
  cases qs with
  | nil => rfl
  | cons => exact h.elim
theorem wf_i64 {m : Int} (h : (Lit.int .i64 m).wf = true) : -9223372036854775808 ≤ m ∧ m ≤ 9223372036854775807 := by
  simpa [Lit.wf, IntKind.min, IntKind.max, IntKind.bits, IntKind.signed] using h
theorem wf_u64 {m : Int} (h : (Lit.int .u64 m).wf = true) : 0 ≤ m ∧ m ≤ 18446744073709551615 := by
  simpa [Lit.wf, IntKind.min, IntKind.max, IntKind.bits, IntKind.signed] using h
theorem wf_u8 {m : Int} (h : (Lit.int .u8 m).wf = true) : 0 ≤ m ∧ m ≤ 255 := by
  simpa [Lit.wf, IntKind.min, IntKind.max, IntKind.bits, IntKind.signed] using h
theorem byt_wf {m : Int} (h : (Lit.int .u8 m).wf = true) : 0 ≤ m ∧ m < 256 := by have := wf_u8 h; omega
end

/-- A law's contract, as the row's form asks for it. -/
theorem law_contract {H : Type} {enc : TypeId × Value → H} {P : Program} {T : TypeId → Option TI} {G : Nat → Option (List PV)} {n : Nat} {f : FuncId} {fn : Func} {s : ChangeSpec} {tb : TypeId} (hT : TOk P T)
    (hvars : s.vars = []) (hspec : ∀ ds : List (DataW H), ds.length = fn.params.toList.length → s.fn H ds = { results := [.lit (.bool true)], args := ds }) (hres : fn.resultTypes = #[tb]) (hb : P.underlying tb = some .bool)
    (hlaw : ∀ qs, TypVs T n fn.params.toList qs → Sum P G f qs (Is (.pv (.bool true)) [])) (hs : (fn.params.toList.all fun t => supB T n t && P.readableRec t && decide (t < P.types.size)) = true) (hl : laidOutB P = true)
    (W : World) (base : Nat) (args : Array Value) (ds gs : List (DataW H)) (before : List MemPlace) (hval : ∀ (j : Nat) t v, fn.params[j]? = some t → args[j]? = some v → Value.okWide P W .any base t v)
    (hW : DataW.Whole enc P fn.params.toList s.vars false W args.toList ds gs before) (hG : GOk G W) : Calls P f args W fun e W' => ∃ v, e = .returned v ∧ s.post enc P fn false true false false W args v W' := by
  have hW' := hW
  obtain ⟨p, q, hA0, hV, rfl, hfz, hnd⟩ := hW
  have hA : DataW.TrodAll enc P W 0 (fun _ => true) true fn.params.toList args.toList ds p := hA0
  rw [hvars] at hV
  obtain ⟨rfl, rfl⟩ := trodVars_none hV
  have hall : ∀ t ∈ fn.params.toList, supB T n t = true ∧ P.readableRec t = true ∧ t < P.types.size := fun t ht => by
    have := List.all_eq_true.1 hs t ht
    simp only [Bool.and_eq_true, decide_eq_true_eq] at this
    exact ⟨this.1.1, this.1.2, this.2⟩
  refine (law_calls hT hlaw hG (fun t ht => (hall t ht).1) (b0 := base) (fun j t v ht hv => hval j t v (by simpa using ht) hv) hA).mono ?_
  rintro e W' ⟨rfl, hbw⟩
  refine ⟨_, rfl, ds, [], _, [], p, [], hW', ?_, ?_, ?_, hbw.frame _, fun h => by cases h⟩
  · rw [List.append_nil, hspec ds (trodAll_len hA), hres]
    exact trodAll_mk1 (shut_bool hb true)
  · rw [List.append_nil, hspec ds (trodAll_len hA)]
    exact args_back hl hbw (fun t ht => (hall t ht).2) hA
  · rw [List.append_nil, hspec ds (trodAll_len hA), hvars]
    exact hV
end Hm
namespace Hm
open Go Go.RowKit Go.WideShapes Go.ChangeShapes

/-- Slices among the arguments take no more bytes than an address can tell. -/
def WtVs (P : Program) (ts : List TypeId) (qs : List PV) : Prop :=
  ∀ (j : Nat) t f cells n e, ts[j]? = some t → qs[j]? = some (.asl f cells n) → P.underlying t = some (.slice e) → n * P.bytesOf e ≤ reachBytes

theorem datPs_len {H : Type} : ∀ {l : List (DataW H)} {es : List (List PV)}, datPs l = some es → es.length = l.length
  | [], es, h => by simp only [datPs, Option.some.injEq] at h; subst h; rfl
  | d :: l, es, h => by
    simp only [datPs] at h
    split at h
    · rename_i a b h1 h2
      simp only [Option.some.injEq] at h
      subst h
      simp [datPs_len h2]
    · cases h

section
variable {H : Type} {enc : TypeId × Value → H} {P : Program} {T : TypeId → Option TI} {G : Nat → Option (List PV)} {W : World} {base b0 : Nat} {spare : Nat → Bool} {held : Bool}

theorem datP_weight {d : DataW H} {q : PV} {f : Bool} {cells : List PV} {n : Nat} {t e : TypeId} (hd : d = .nil ∨ ∃ es sp, d = .slice es sp) (h : datP d = some [.asl f cells n]) (hu : P.underlying t = some (.slice e)) (hw : (d.weights P t).all (· ≤ reachBytes) = true) : n * P.bytesOf e ≤ reachBytes := by
  rcases hd with rfl | ⟨es, sp, rfl⟩
  · simp only [datP, Option.some.injEq, List.cons.injEq, PV.asl.injEq] at h
    obtain ⟨⟨_, _, rfl⟩, _⟩ := h
    simp
  · simp only [datP, Option.map_eq_some_iff] at h
    obtain ⟨l, h1, h2⟩ := h
    simp only [List.cons.injEq, PV.asl.injEq] at h2
    obtain ⟨⟨_, _, rfl⟩, _⟩ := h2
    rw [datPs_len h1]
    simp only [DataW.weights, hu, List.all_cons, Bool.and_eq_true, decide_eq_true_eq] at hw
    refine Nat.le_trans (Nat.mul_le_mul_right _ (Nat.le_add_right _ _)) hw.1

theorem arg_typW (hT : TOk P T) {n : Nat} {t : TypeId} {v : Value} {d : DataW H} {p : List MemPlace} (hs : supB T n t = true) (hval : Value.okWide P W .any b0 t v) (h : DataW.Trod enc P W base spare held t v d p) :
    ∃ q, TypV T n t q ∧ Imm W (okW W) q v ∧ ((d.weights P t).all (· ≤ reachBytes) = true → ∀ f cells n e, q = .asl f cells n → P.underlying t = some (.slice e) → n * P.bytesOf e ≤ reachBytes) := by
  obtain ⟨i, hi⟩ : ∃ i, T t = some i := by
    cases n with
    | zero => cases hs
    | succ n => unfold supB at hs; split at hs
                · cases hs
                · rename_i j hj; exact ⟨j, hj⟩
  have hu := (hT t i hi).und
  by_cases hsl : ∃ e, i.und = .slice e
  · obtain ⟨e, he⟩ := hsl
    obtain ⟨fuel, hf⟩ := h
    obtain ⟨ps, h1, h2, h3⟩ := trod_typ hT n fuel t _ _ hs hf
    have hv : ∀ cs, v ≠ .agg cs := fun cs e' => by
      subst e'
      unfold Value.okWide at hval
      rw [hu, he] at hval
      simp [Cell.okWide, Cell.ok, hu, he] at hval
    rw [agg_cells v hv] at h2
    obtain ⟨q, rfl⟩ : ∃ q, ps = [q] := List.length_eq_one_iff.1 (by simpa using h2.1)
    refine ⟨q, ?_, (h2.2 0 q v rfl (by simp)).2, fun hw f cells m e' hq hu' => ?_⟩
    · unfold TypV
      rw [hi]
      simp only [he, isAggD]
      exact h1
    · subst hq
      refine datP_weight (q := .nil) ?_ h3 hu' hw
      cases fuel with
      | zero => simp [DataW.trod] at hf
      | succ fuel =>
        rw [he] at hu
        rcases DataW.trod_slice hu hf with ⟨_, hx⟩ | ⟨a, len, cap, elems, rest, fuel', _, _, hx, _⟩
        · exact .inl (congrArg Prod.fst hx)
        · exact .inr ⟨_, _, congrArg Prod.fst hx⟩
  · obtain ⟨q, h1, h2⟩ := arg_typ hT hs hval h
    refine ⟨q, h1, h2, fun _ f cells m e hq hu' => ?_⟩
    rw [hu] at hu'
    exact absurd ⟨e, Option.some.inj hu'⟩ hsl

theorem args_typW (hT : TOk P T) {n : Nat} : ∀ {ts : List TypeId} {vs : List Value} {ds : List (DataW H)} {p : List MemPlace}, (∀ t ∈ ts, supB T n t = true) → (∀ (j : Nat) t v, ts[j]? = some t → vs[j]? = some v → Value.okWide P W .any b0 t v) →
    (DataW.weightsEach P ts ds).all (· ≤ reachBytes) = true → DataW.TrodAll enc P W base spare held ts vs ds p → ∃ qs, TypVs T n ts qs ∧ WtVs P ts qs ∧ qs.length = vs.length ∧ ∀ (i : Nat) q v, qs[i]? = some q → vs[i]? = some v → Imm W (okW W) q v
  | [], [], [], _, _, _, _, _ => ⟨[], trivial, fun _ _ _ _ _ _ h => by simp at h, rfl, by simp⟩
  | t :: ts, v :: vs, d :: ds, _, hs, hv, hw, ⟨p, q, h1, h2, _⟩ => by
    simp only [DataW.weightsEach, List.all_append, Bool.and_eq_true] at hw
    obtain ⟨x, h3, h4, h8⟩ := arg_typW hT (hs t (by simp)) (hv 0 t v rfl rfl) h1
    obtain ⟨qs, h5, h9, h6, h7⟩ := args_typW hT (fun t ht => hs t (.tail _ ht)) (fun j t v ht hv' => hv (j + 1) t v ht hv') hw.2 h2
    refine ⟨x :: qs, ⟨h3, h5⟩, fun j t f cells n e ht hq hu => ?_, by simp [h6], fun i q v hq hv' => ?_⟩
    · cases j with
      | zero => simp at ht hq; subst ht; exact h8 hw.1 f cells n e hq hu
      | succ j => exact h9 j t f cells n e (by simpa using ht) (by simpa using hq) hu
    · cases i with
      | zero => simp at hq hv'; subst hq; subst hv'; exact h4
      | succ i => exact h7 i q v hq hv'
  | [], _ :: _, _, _, _, _, _, h => h.elim
  | [], [], _ :: _, _, _, _, _, h => h.elim
  | _ :: _, [], _, _, _, _, _, h => h.elim
  | _ :: _, _ :: _, [], _, _, _, _, h => h.elim

theorem law_callsW (hT : TOk P T) {n : Nat} {f : FuncId} {ts : List TypeId} (hlaw : ∀ qs, TypVs T n ts qs → WtVs P ts qs → Sum P G f qs (Is (.pv (.bool true)) [])) (hG : GOk G W) (hs : ∀ t ∈ ts, supB T n t = true) {args : Array Value} {ds : List (DataW H)} {p : List MemPlace}
    (hv : ∀ (j : Nat) t v, ts[j]? = some t → args[j]? = some v → Value.okWide P W .any b0 t v) (hw : (DataW.weightsEach P ts ds).all (· ≤ reachBytes) = true) (h : DataW.TrodAll enc P W base spare held ts args.toList ds p) :
    Calls P f args W fun e W' => e = .returned (.bool true) ∧ Below W.heap.size W W' := by
  obtain ⟨qs, h1, h0, h2, h3⟩ := args_typW hT hs (fun j t v ht hv' => hv j t v ht (by simpa using hv')) hw h
  refine ((hlaw qs h1 h0).2 W args.toList hG h2 h3).mono ?_
  rintro e W' ⟨v, lv, H, β, rfl, ⟨rfl, rfl⟩, h4, h5⟩
  cases h5 with | pv h5 =>
  generalize v = z at h5
  cases h5
  exact ⟨rfl, h4.below⟩

/-- A law's contract with its arguments' sizes, as the row's form asks for it. -/
theorem law_contractW {n : Nat} {f : FuncId} {fn : Func} {s : ChangeSpec} {tb : TypeId} (hT : TOk P T)
    (hvars : s.vars = []) (hspec : ∀ ds : List (DataW H), ds.length = fn.params.toList.length → s.fn H ds = { results := [.lit (.bool true)], args := ds }) (hres : fn.resultTypes = #[tb]) (hb : P.underlying tb = some .bool)
    (hlaw : ∀ qs, TypVs T n fn.params.toList qs → WtVs P fn.params.toList qs → Sum P G f qs (Is (.pv (.bool true)) [])) (hs : (fn.params.toList.all fun t => supB T n t && P.readableRec t && decide (t < P.types.size)) = true) (hl : laidOutB P = true)
    (W : World) (base : Nat) (args : Array Value) (ds gs : List (DataW H)) (before : List MemPlace) (hval : ∀ (j : Nat) t v, fn.params[j]? = some t → args[j]? = some v → Value.okWide P W .any base t v)
    (hW : DataW.Whole enc P fn.params.toList s.vars false W args.toList ds gs before) (hz : (DataW.weightsEach P (fn.params.toList ++ s.plain.varTypes P) (ds ++ gs)).all (· ≤ reachBytes) = true) (hG : GOk G W) : Calls P f args W fun e W' => ∃ v, e = .returned v ∧ s.post enc P fn false true false false W args v W' := by
  have hW' := hW
  obtain ⟨p, q, hA0, hV, rfl, hfz, hnd⟩ := hW
  have hA : DataW.TrodAll enc P W 0 (fun _ => true) true fn.params.toList args.toList ds p := hA0
  rw [hvars] at hV
  obtain ⟨rfl, rfl⟩ := trodVars_none hV
  have hvt : s.plain.varTypes P = [] := by
    have : s.plain.vars = [] := hvars
    simp [DataSpec.varTypes, this]
  rw [hvt, List.append_nil, List.append_nil] at hz
  have hall : ∀ t ∈ fn.params.toList, supB T n t = true ∧ P.readableRec t = true ∧ t < P.types.size := fun t ht => by
    have := List.all_eq_true.1 hs t ht
    simp only [Bool.and_eq_true, decide_eq_true_eq] at this
    exact ⟨this.1.1, this.1.2, this.2⟩
  refine (law_callsW hT hlaw hG (fun t ht => (hall t ht).1) (b0 := base) (fun j t v ht hv => hval j t v (by simpa using ht) hv) hz hA).mono ?_
  rintro e W' ⟨rfl, hbw⟩
  refine ⟨_, rfl, ds, [], _, [], p, [], hW', ?_, ?_, ?_, hbw.frame _, fun h => by cases h⟩
  · rw [List.append_nil, hspec ds (trodAll_len hA), hres]
    exact trodAll_mk1 (shut_bool hb true)
  · rw [List.append_nil, hspec ds (trodAll_len hA)]
    exact args_back hl hbw (fun t ht => (hall t ht).2) hA
  · rw [List.append_nil, hspec ds (trodAll_len hA), hvars]
    exact hV

/-- As returnsInHanded_of_change, with the sizes and the world's shape handed on. -/
theorem handedW {a : Assume} {C : Checked} {os : Os} {f : FuncId} {fn : Func} {s : ChangeSpec} {conds : List PathCond} {apart fresh handsOn again : Bool}
    (own : ownKnob C.prog.godebug = none) (started : os.Started) (noInit : C.prog.inits.idxOf? f = none) (hfn : C.prog.funcs[f]? = some fn)
    (witness : ∃ (w : World) (tape : Tape) (i : Input), w.os = os ∧ (w.forCall tape i).Shaped C.prog ∧ i.vars = [] ∧ Input.okWide C.prog (w.forCall tape i) .any w.heap.size f i ∧
      s.pre6 enc C.prog fn conds apart (w.forCall tape i).memory i.args ∧ a.holds C.prog (lone (Frame.enter C.prog f i.args .normal) [] (w.forCall tape i)))
    (contract : ∀ (W : World) (base : Nat) (args : Array Value) (ds gs : List (DataW H)) (before : List MemPlace), W.ShapedOpen C.prog →
      (∀ (j : Nat) t v, fn.params[j]? = some t → args[j]? = some v → Value.okWide C.prog W .any base t v) →
      DataW.Whole enc C.prog fn.params.toList s.vars apart W args.toList ds gs before →
      (DataW.weightsEach C.prog (fn.params.toList ++ s.plain.varTypes C.prog) (ds ++ gs)).all (· ≤ reachBytes) = true →
      Calls C.prog f args W fun e W' => ∃ v, e = .returned v ∧ s.post enc C.prog fn apart fresh handsOn again W args v W') :
    ReturnsInHanded a C os f .any (s.pre6 enc C.prog fn conds apart) (s.post enc C.prog fn apart fresh handsOn again) := by
  refine returnsInHanded_of_calls own started noInit witness ?_
  intro w tape i _ hsh _ hok hpre _
  obtain ⟨_, _, _, fn', hfn', _, _, _, _, hval⟩ := hok
  have e : fn' = fn := Option.some.inj (hfn'.symm.trans hfn)
  subst e
  obtain ⟨⟨ds, gs, before, hw, hc⟩, hz⟩ := hpre
  have hw' := DataW.Whole.of_heap (w' := w.forCall tape i) (by rfl) hw
  refine (contract (w.forCall tape i) w.heap.size i.args ds gs before hsh hval hw' (hz.weights hw)).mono fun e W' ⟨v, he, hp⟩ => ?_
  subst he
  exact ChangeSpec.post_blind hp
end
end Hm
namespace Hm
open Go Go.RowKit
/- Functions that the machine has by itself. -/
theorem digits_get : ∀ (n t : Nat) (acc : Array Value), (∀ (i : Nat) v, acc[i]? = some v → ∃ x : Int, v = .int .u8 x ∧ 0 ≤ x ∧ x < 256) → ∀ (i : Nat) v, (Extern.BytealgMakeNoZero.digits n t acc)[i]? = some v → ∃ x : Int, v = .int .u8 x ∧ 0 ≤ x ∧ x < 256
  | 0, _, _, h => h
  | n + 1, t, acc, h => by
    rw [Extern.BytealgMakeNoZero.digits]
    refine digits_get n _ _ fun i v hv => ?_
    rw [Array.getElem?_push] at hv
    split at hv
    · refine ⟨Int.ofNat (t % 256), (Option.some.inj hv).symm, ?_⟩
      have h0 : t % 256 < 256 := Nat.mod_lt _ (by omega)
      have h1 : (Int.ofNat (t % 256)) = ((t % 256 : Nat) : Int) := rfl
      omega
    · exact h i v hv
theorem run_noZero {P : Program} (w : World) (ps : Array TypeId) (t e : TypeId) (ht : P.underlying t = some (.slice e)) (n : Nat) (hn : n ≤ 281474976710656) :
    ∃ cs : Array Value, (Extern.BytealgMakeNoZero.makeNoZero ps #[t] #[.int .i64 n]).run P w = .ok (.slice (some ⟨w.heap.size, 0, none⟩) n cs.size) (w.drew.drew.alloc (.cells cs e)) ∧ n ≤ cs.size ∧ ∀ (i : Nat) v, cs[i]? = some v → ∃ x : Int, v = .int .u8 x ∧ 0 ≤ x ∧ x < 256 := by
  have hdef : Extern.BytealgMakeNoZero.makeNoZero ps #[t] #[.int .i64 n] =
      (do
        let .slice elem ← underlying t | stuck "bytealg.MakeNoZero: slice type expected"
        if (n : Int) < 0 || (n : Int) > 2 ^ 48 then runtimePanic (.error "makeslice: len out of range")
        let cap ← choose (.appendCap (n : Int).toNat 0 elem)
        askRoom cap
        let bytes ← choose (.extern "internal/bytealg.MakeNoZero.bytes" 0)
        let a ← newRow elem (Extern.BytealgMakeNoZero.digits cap bytes #[])
        pure (.slice (some a) (n : Int).toNat cap)) := rfl
  refine ⟨Extern.BytealgMakeNoZero.digits (grownCap w n 0 e) ((Question.extern "internal/bytealg.MakeNoZero.bytes" 0).cut (w.tape (w.drawn + 1) (.extern "internal/bytealg.MakeNoZero.bytes" 0))) #[], ?_, ?_, ?_⟩
  · rw [hdef]
    have h1 : ¬ (n : Int) < 0 := by omega
    have h2 : ¬ (281474976710656 : Int) < (n : Int) := by omega
    simp [run_underlying ht, h1, h2, Question.forced, newRow, Lib.size_digits, grownCap]
  · rw [Lib.size_digits]
    simpa using grownCap_ge w n 0 e
  · exact digits_get _ _ _ (fun i v h => by simp at h)
theorem repl_flat (k : IntKind) (x : Int) : ∀ n : Nat, (List.replicate n (PV.int k x)).mapM PV.flat = some (List.replicate n (Value.int k x))
  | 0 => rfl
  | n + 1 => by
    rw [List.replicate_succ, List.mapM_cons, repl_flat k x n]
    rfl
/-- An array of numbers. -/
theorem TOk1.arr {P : Program} {t : TypeId} {n : Nat} {e : TypeId} {k : IntKind} {y : Nat} (hn : 0 < n) (hu : P.underlying t = some (.array n e))
    (hm : (P.info? t).map (fun x => (x.zero, x.size, x.bytes)) = some (some (.agg (Array.replicate n (.int k 0))), n, y)) : TOk1 P t ⟨.array n e, n, y, List.replicate n (.int k 0), false⟩ :=
  TOk1.of (z := .agg (Array.replicate n (.int k 0))) (vs := List.replicate n (.int k 0)) hu hm (repl_flat k 0 n) (by simp [isAggD]) (by simp) (fun h => by cases h) hn (fun h => by cases h)
section
variable {P : Program} {T : TypeId → Option TI} {G : Nat → Option (List PV)} {s : St}
/-- internal/bytealg.MakeNoZero: a new row of some bytes. -/
theorem ACall.noZero {f : FuncId} {fn : Func} {ps : Array TypeId} {t e : TypeId} (hf : P.funcs[f]? = some fn) (hname : (fn.name == "runtime.NumGoroutine") = false)
    (hb : fn.body.isNone = true) (hn : Extern.findNext fn = none) (he : Extern.find fn = some (Extern.BytealgMakeNoZero.makeNoZero ps #[t])) (ht : P.underlying t = some (.slice e)) {n : Nat} (hle : n ≤ 65536)
    {K : LV → List Blk → Prop} (h : ∀ l : List Int, l.length = n → Byt l → K (.ref s.H.length 0 n 1) (s.H ++ [.p (l.map (PV.int .u8))])) : ACall P G f [.pv (.int .i64 n)] s K := by
  intro s1 w0 β acts a w vs e1 e2 hr hl hv
  obtain ⟨v, rfl⟩ : ∃ v, vs = [v] := by
    match vs, hl with
    | [v], _ => exact ⟨v, rfl⟩
  have hv0 := hv 0 _ v rfl rfl
  cases hv0 with | pv hv0 =>
  cases hv0
  obtain ⟨cs, h1, h2, h3⟩ := run_noZero (P := P) w ps t e ht n (by omega)
  refine .inr ⟨_, _, by rw [run_callFunc_extern hf hname hb hn he, h1]; rfl, ?_⟩
  have hx : ∀ k, k < n → ∃ x : Int, cs[k]? = some (.int .u8 x) ∧ 0 ≤ x ∧ x < 256 := fun k hk => by
    have hk' : k < cs.size := by omega
    obtain ⟨x, h4, h5⟩ := h3 k cs[k] (by simp [hk'])
    exact ⟨x, by rw [← h4]; simp [hk'], h5⟩
  obtain ⟨l, hln, hlg⟩ := exists_list n hx
  have hB : Byt l := fun x hx' => by
    obtain ⟨i, hi, rfl⟩ := List.getElem_of_mem hx'
    exact (hlg i _ (by simp [hi])).2
  have hr2 := (hr.drewN 2)
  have hwd : w.drewN 2 = w.drew.drew := rfl
  rw [hwd] at hr2
  obtain ⟨h5, h6⟩ := hr2.alloc (B := Blk.p (l.map (PV.int .u8))) (c := cs) (E := e) (fz := (0, 0)) (.inl rfl) rfl (by simp only [Blk.len, List.length_map]; omega) (fun k lv hlv => by
    simp only [Blk.get, List.getElem?_map, Option.map_eq_some_iff] at hlv
    obtain ⟨q, ⟨x, h8, rfl⟩, rfl⟩ := hlv
    exact ⟨rfl, _, (hlg k x h8).1, .pv (.int _ _)⟩)
  have h7 := LR.ref (β := ext β s1.H.length w.drew.drew.heap.size) (n := (s1.H ++ [Blk.p (l.map (PV.int .u8))]).length) (w := w.drew.drew.alloc (.cells cs e)) (ok := okOf w0 (ext β s1.H.length w.drew.drew.heap.size) (s1.H ++ [Blk.p (l.map (PV.int .u8))]) (w.drew.drew.alloc (.cells cs e))) s1.H.length 0 n 1 cs.size cs e (0, 0) (by simp) (by rw [ext_eq]; exact heap_new _ _) h2 (by omega)
  rw [ext_eq] at h7
  refine ⟨_, _, _, ext β s1.H.length w.drew.drew.heap.size, rfl, h l hln hB, ?_, ?_⟩
  · rw [← e1]; exact h5
  · rw [← e1]; exact h7
end
end Hm
namespace Hm
open Go Go.RowKit
/-! ### A region whose order is drawn, but for its last operation: that one waits for all others, and changes memory -/
section
variable {P : Program} {T : TypeId → Option TI} {G : Nat → Option (List PV)} {ds : List (Option Nat)} {ops : Array Oper} {md : Region.Mode} {w0 : World} {acts : List Act}
/-- Operation c waits for operation j, at once or by others. -/
def need (md : Region.Mode) (ops : Array Oper) : Nat → Nat → Nat → Bool
  | m, c, j => match ops[c]? with
    | none => false
    | some o => (o.after.any fun e => Region.binds md e && decide (e.on = j)) || match m with
      | 0 => false
      | m + 1 => o.after.any fun e => Region.binds md e && need md ops m e.on j
/-- What is carried out had all carried out that it waits for. -/
def Cl (md : Region.Mode) (ops : Array Oper) (lc : Array Bool) : Prop := ∀ j o, lc.getD j false = true → ops[j]? = some o → ∀ e ∈ o.after, Region.binds md e = true → lc.getD e.on false = true
theorem Cl.need {lc : Array Bool} (h : Cl md ops lc) : ∀ (m c j : Nat) (o : Oper), ops[c]? = some o → (∀ e ∈ o.after, Region.binds md e = true → lc.getD e.on false = true) → need md ops m c j = true → lc.getD j false = true := by
  intro m
  induction m with
  | zero =>
    intro c j o ho hd hn
    unfold Hm.need at hn
    rw [ho] at hn
    simp only [Bool.or_false] at hn
    obtain ⟨e, he, h7⟩ := Array.any_eq_true'.1 hn
    simp only [Bool.and_eq_true, decide_eq_true_eq] at h7
    rw [← h7.2]; exact hd e he h7.1
  | succ m ih =>
    intro c j o ho hd hn
    unfold Hm.need at hn
    rw [ho] at hn
    simp only [Bool.or_eq_true] at hn
    rcases hn with hn | hn
    · obtain ⟨e, he, h7⟩ := Array.any_eq_true'.1 hn
      simp only [Bool.and_eq_true, decide_eq_true_eq] at h7
      rw [← h7.2]; exact hd e he h7.1
    · obtain ⟨e, he, h7⟩ := Array.any_eq_true'.1 hn
      simp only [Bool.and_eq_true] at h7
      cases hk : ops[e.on]? with
      | none => unfold Hm.need at h7; rw [hk] at h7; cases h7.2
      | some oe => exact ih e.on j oe hk (h e.on oe (hd e he h7.1) hk) h7.2
theorem Cl.set {lc : Array Bool} (h : Cl md ops lc) {c : Nat} (hc : c ∈ Region.ready md ops lc) : Cl md ops (lc.setIfInBounds c true) := by
  obtain ⟨c1, o, c2, c3⟩ := mem_ready.1 hc
  have up : ∀ j, lc.getD j false = true → (lc.setIfInBounds c true).getD j false = true := fun j hj => by
    by_cases e : c = j
    · subst e; exact getD_set_self (unl.1 c1).1
    · rw [getD_set_false e]; exact hj
  intro j oj hj hoj e he hb
  by_cases ecj : c = j
  · subst ecj
    rw [c2] at hoj
    cases hoj
    exact up _ (c3 e he hb)
  · rw [getD_set_false ecj] at hj
    exact up _ (h j oj hj hoj e he hb)
variable (P T G ds ops md) in
def AnyT (H0 : List Blk) (c : Nat) (K : St → Prop) : Nat → Array Bool → St → Prop
  | 0, l, s => ∃ o, Region.ready md ops l = [c] ∧ ops[c]? = some o ∧ o.guard = none ∧ (∀ j, l.getD j false = true → need md ops 4 c j = true) ∧
      Region.ready md ops (l.setIfInBounds c true) = [] ∧ stepOp P T G o s K
  | n + 1, l, s => ∃ i o lv, ops[i]? = some o ∧ i ∈ Region.ready md ops l ∧ Region.free md ops l i = true ∧ Yst T G ds (fun H' => H' = H0) o s lv ∧ AnyT H0 c K n (l.setIfInBounds i true) (s.put o.dst lv)
theorem anyT_sound (hT : TOk P T) (hds : ops.toList.map (·.dst) = ds) {H0 : List Blk} {c : Nat} {K : St → Prop} {Q' : Exit → Act → World → Prop} (hQ : ∀ s β a w, K s → Rel G w0 β s acts a w → Q' .normal a w) :
    ∀ (n k : Nat) (l : Array Bool) (sa sc : St) (pend : List (Nat × Oper × LV)) (lc : Array Bool) (β : Nat → Nat) (a : Act) (w : World), pend.length = k → AnyT P T G ds ops md H0 c K n l sa → Sim T G ds ops md (fun H' => H' = H0) l sa sc pend → Lc l pend lc → sa.H = H0 → Cl md ops lc →
      Rel G w0 β sc acts a w → wpAny P md ops Q' (n + k + 1) lc a w := by
  intro n
  induction n with
  | zero =>
    intro k
    induction k using Nat.strongRecOn with
    | _ k ihk =>
      intro l sa sc pend lc β a w hk hA hS hL hSH hCl hr
      obtain ⟨o, h1, h2, hg, h3, h4, h5⟩ := id hA
      have hcr : c ∈ Region.ready md ops l := by rw [h1]; simp
      have hc1 := (mem_ready.1 hcr).1
      refine any_core hT hds (m := 0 + k) hS hL hSH hr (fun e h0 => ?_) (fun pend' c' sc' β' a' w' hcr' e hS' hL' hr' => ?_) fun c' o' hcr' hc hco hw => ?_
      · subst e
        exfalso
        obtain ⟨c1, o, c2, c3⟩ := mem_ready.1 hcr
        have : c ∈ Region.ready md ops lc := mem_ready.2 ⟨unl.2 ⟨by rw [hL.1]; exact (unl.1 c1).1, false_of fun e => by
          have := ((hL.2 c).1 e).1
          rw [(unl.1 c1).2] at this; cases this⟩, o, c2, fun e he hb => (hL.2 _).2 ⟨c3 e he hb, by simp⟩⟩
        rw [h0] at this; cases this
      · have := ihk (k - 1) (by omega) l sa sc' pend' _ β' a' w' (by omega) hA hS' hL' hSH (hCl.set hcr') hr'
        have e1 : 0 + (k - 1) + 1 = 0 + k := by omega
        rwa [e1] at this
      · have ec : c' = c := by rw [h1] at hc; simpa using hc
        subst ec
        rw [h2] at hco
        cases hco
        have hp : pend = [] := by
          cases pend with
          | nil => rfl
          | cons p r =>
            exfalso
            have h7 := hCl.need 4 c' p.1 o h2 (fun e he hb => by obtain ⟨_, o2, c2, c3⟩ := mem_ready.1 hcr'; rw [h2] at c2; cases c2; exact c3 e he hb) (h3 p.1 (hS.listed p (.head _)))
            exact ((hL.2 p.1).1 h7).2 p (.head _) rfl
        subst hp
        obtain ⟨k1, k2⟩ := hS.step hds h2 hc1 hw
        obtain ⟨hd, hv⟩ := stepOp_iff.1 h5
        have hst : stepG P T G ds o sc fun s' => ∃ sa', K sa' ∧ SEq s' sa' :=
          ⟨by rw [hS.n]; exact hd, stepGV_mono (fun lv H' h => ⟨_, h, k2 lv H'⟩) (stepGV_agr k1.symm (by unfold stepGV; rw [hg]; exact hv))⟩
        refine wpOp_mono ?_ (stepGV_sound hT hds h2 hr hst)
        rintro a' w' ⟨s', β', ⟨sa', h6, h8⟩, hr'⟩
        have hk0 : k = 0 := by simpa using hk.symm
        subst hk0
        refine ⟨List.eq_nil_iff_forall_not_mem.2 fun c'' hc'' => ?_, hQ sa' β' a' w' h6 (hr'.seq h8)⟩
        have := (hL.set hc1 (by simp)).ready hc'' (by simp)
        rw [h4] at this; cases this
  | succ n ih =>
    intro k l sa sc pend lc β a w hk hA hS hL hSH hCl hr
    obtain ⟨i, o, lv, h1, h2, h3, h4, h5⟩ := hA
    have := ih (k + 1) _ _ sc (pend ++ [(i, o, lv)]) lc β a w (by simp; omega) h5 (hS.push h1 (mem_ready.1 h2).1 (ready_deps h1 h2) (fun j oj => Region.free_spec h1 h3 j oj) h4) (hL.push (mem_ready.1 h2).1) (by rw [put_H]; exact hSH) hCl hr
    have e1 : n + (k + 1) + 1 = n + 1 + k + 1 := by omega
    rwa [e1] at this
def finOk (md : Region.Mode) (ops : Array Oper) (c : Nat) : List Nat → Array Bool → Bool
  | [], l => decide (Region.ready md ops l = [c]) && (match ops[c]? with | some o => o.guard.isNone && (List.range l.size).all fun j => !(l.getD j false) || need md ops 4 c j | none => false) && (Region.ready md ops (l.setIfInBounds c true)).isEmpty
  | i :: r, l => (match ops[i]? with | some o => calmOp o.op | none => false) && (Region.ready md ops l).contains i && Region.free md ops l i && finOk md ops c r (l.setIfInBounds i true)
theorem runCalm_anyT {ol : List Oper} (hol : ops = ol.toArray) {c : Nat} {oc : Oper} (hc : ol[c]? = some oc) {K : St → Prop} : ∀ (σ : List Nat) (l : Array Bool) (s : St), finOk md ops c σ l = true → runCalm T G ds (pick ol σ) s (fun s' => stepOp P T G oc s' K) → AnyT P T G ds ops md s.H c K σ.length l s
  | [], l, s, h, h2 => by
    simp only [finOk, Bool.and_eq_true, decide_eq_true_eq, List.isEmpty_iff] at h
    obtain ⟨⟨h3, h4⟩, h5⟩ := h
    have hc' : ops[c]? = some oc := by rw [hol]; simpa using hc
    rw [hc'] at h4
    simp only [Bool.and_eq_true, List.all_eq_true, List.mem_range, Bool.or_eq_true, Bool.not_eq_true'] at h4
    refine ⟨oc, h3, hc', by simpa using h4.1, fun j hj => ?_, h5, h2⟩
    have hjs : j < l.size := by
      rcases Nat.lt_or_ge j l.size with h' | h'
      · exact h'
      · simp [Array.getElem?_eq_none h'] at hj
    rcases h4.2 j hjs with h6 | h6
    · rw [hj] at h6; cases h6
    · exact h6
  | i :: r, l, s, h, h2 => by
    simp only [finOk, Bool.and_eq_true] at h
    obtain ⟨⟨⟨h0, h3⟩, h4⟩, h5⟩ := h
    have hrd : i ∈ Region.ready md ops l := by simpa using h3
    cases hi : ops[i]? with
    | none => rw [hi] at h0; cases h0
    | some o =>
    have hi' : ol[i]? = some o := by rw [hol] at hi; simpa using hi
    unfold pick at h2
    rw [hi'] at h2
    unfold runCalm at h2
    have st : ∀ v, opF T s (s.ev G) o.op = some v → v.2 = s.H → ∀ H', H' = s.H → opF T { s with H := H' } (St.ev G { s with H := H' }) o.op = some (v.1, H') := fun v h e H' e' => by
      subst e'
      exact h.trans (by rw [← e])
    have go : ∀ lv, runCalm T G ds (pick ol r) (s.put o.dst lv) (fun s' => stepOp P T G oc s' K) → AnyT P T G ds ops md s.H c K r.length (l.setIfInBounds i true) (s.put o.dst lv) := fun lv h => by
      have := runCalm_anyT hol hc r _ _ h5 h
      rwa [put_H] at this
    obtain ⟨h7, h8⟩ := h2
    cases hg : o.guard with
    | none =>
      rw [hg] at h8
      simp only at h8
      obtain ⟨v, k1, k2, k3⟩ := h8
      refine ⟨i, o, v.1, hi, hrd, h4, ⟨h7, fun H' hH' => ?_⟩, go _ k3⟩
      unfold valG
      rw [hg]
      exact st v k1 k2 H' hH'
    | some g =>
      obtain ⟨j, want⟩ := g
      rw [hg] at h8
      simp only at h8
      obtain ⟨b, k1, k2⟩ := h8
      obtain ⟨g1, g2⟩ := guardK_out k2
      by_cases hbw : b = want
      · obtain ⟨v, q1, q2, q3⟩ := g1 hbw
        refine ⟨i, o, v.1, hi, hrd, h4, ⟨h7, fun H' hH' => ?_⟩, go _ q3⟩
        unfold valG
        rw [hg]
        exact ⟨b, k1, guardK_in (fun _ => st v q1 q2 H' hH') (fun h => absurd hbw h)⟩
      · refine ⟨i, o, .tup [], hi, hrd, h4, ⟨h7, fun H' hH' => ?_⟩, go _ (g2 hbw)⟩
        unfold valG
        rw [hg]
        exact ⟨b, k1, guardK_in (fun h => absurd h hbw) (fun _ => rfl)⟩
/-- σ: the operations ahead, c: the last one. -/
theorem AWp.drawnF (σ : List Nat) (c : Nat) (hT : TOk P T) (hm : P.follows .mixedOrders = true) {s : St} {id : Nat} {ol : List Oper} {oc : Oper} (hds : ol.map (·.dst) = ds) (hc : ol[c]? = some oc)
    (hok : (decide (σ.length + 1 = ol.length) && finOk .any ol.toArray c σ (Array.replicate ol.length false)) = true) {Q : Exit → St → Prop}
    (h : runCalm T G ds (pick ol σ) s (fun s' => stepOp P T G oc s' (fun s' => Q .normal s'))) : AWp P G (.region id ol.toArray true) Q s := by
  intro w0 β acts a w hr
  simp only [Bool.and_eq_true, decide_eq_true_eq] at hok
  obtain ⟨hl, hok⟩ := hok
  refine wp_region_any hm ?_
  have hA := runCalm_anyT (P := P) (T := T) (G := G) (ds := ds) (ops := ol.toArray) rfl hc σ _ s hok h
  have := anyT_sound (w0 := w0) (acts := acts) hT (by simpa using hds) (Q' := fun e a' w' => ∃ s' β', Q e s' ∧ Rel G w0 β' s' acts a' w') (fun s β a w hK hr => ⟨s, β, hK, hr⟩) σ.length 0 _ s s [] (Array.replicate ol.length false) β a _ rfl hA (SEq.refl s) ⟨rfl, fun j => by simp⟩ rfl (fun j o hj => by rw [Array.getD_eq_getD_getElem?, Array.getElem?_replicate] at hj; split at hj <;> cases hj) (hr.drewN 1)
  rw [Nat.add_zero, hl] at this
  have e : (ol.toArray).size = ol.length := by simp
  rw [e]
  exact this
end
end Hm
namespace Hm
open Go Go.RowKit
theorem ACall.genB {P : Program} {G : Nat → Option (List PV)} {s : St} {f : FuncId} {args : List LV} {pvs : List PV} {x : LV} {H : List Blk} {K : LV → List Blk → Prop} (eG : bindK (mapO (snap 4 s.H) args) fun p => PV.gens p = pvs) (eS : Sum P G f pvs (Is x H))
    (eK : Keep (K (x.toImm H) s.H)) : ACall P G f args s K := let ⟨_, h1, h2⟩ := eG; ACall.gen h1 h2 eS eK
theorem ACall.genRB {P : Program} {G : Nat → Option (List PV)} {s : St} {f : FuncId} {args : List LV} {pvs : List PV} {x : LV} {H : List Blk} {K : LV → List Blk → Prop} (eG : bindK (mapO (snap 4 s.H) args) fun p => PV.gens p = pvs) (eS : Sum P G f pvs (Is x H))
    (eK : Keep (K (x.shift s.H.length) (s.H ++ H))) : ACall P G f args s K := let ⟨_, h1, h2⟩ := eG; ACall.genR h1 h2 eS eK
end Hm
namespace Hm
open Go Go.RowKit
/-! ### A region whose order is drawn, but for its last operation, with calls ahead of it -/
section
variable {P : Program} {T : TypeId → Option TI} {G : Nat → Option (List PV)} {ds : List (Option Nat)} {ops : Array Oper} {md : Region.Mode} {w0 : World} {acts : List Act} {S : List Blk → Prop}
variable (P T G ds ops md) in
def AnyF (S : List Blk → Prop) (c m : Nat) (K : St → Prop) : Nat → Array Bool → St → Prop
  | 0, l, s => ∃ o, Region.ready md ops l = [c] ∧ ops[c]? = some o ∧ o.guard = none ∧ (∀ j, l.getD j false = true → need md ops 10 c j = true) ∧
      stepOp P T G o s fun s' => AnyS P T G ds ops md (fun _ => True) K m (l.setIfInBounds c true) s'
  | n + 1, l, s => (Region.ready md ops l ≠ [] ∧ ∀ i ∈ Region.ready md ops l, ∃ o, ops[i]? = some o ∧ stepG P T G ds o s fun s' => S s'.H ∧ AnyF S c m K n (l.setIfInBounds i true) s') ∨
      (∃ i o lv, ops[i]? = some o ∧ i ∈ Region.ready md ops l ∧ Region.free md ops l i = true ∧ Yst T G ds S o s lv ∧ AnyF S c m K n (l.setIfInBounds i true) (s.put o.dst lv))
theorem anyF_sound (hT : TOk P T) (hds : ops.toList.map (·.dst) = ds) {c m : Nat} {K : St → Prop} {Q' : Exit → Act → World → Prop} (hQ : ∀ s β a w, K s → Rel G w0 β s acts a w → Q' .normal a w) :
    ∀ (n k : Nat) (l : Array Bool) (sa sc : St) (pend : List (Nat × Oper × LV)) (lc : Array Bool) (β : Nat → Nat) (a : Act) (w : World), pend.length = k → AnyF P T G ds ops md S c m K n l sa → Sim T G ds ops md S l sa sc pend → Lc l pend lc → S sa.H → Cl md ops lc →
      Rel G w0 β sc acts a w → wpAny P md ops Q' (n + k + 1 + m) lc a w := by
  intro n
  induction n with
  | zero =>
    intro k
    induction k using Nat.strongRecOn with
    | _ k ihk =>
      intro l sa sc pend lc β a w hk hA hS hL hSH hCl hr
      obtain ⟨o, h1, h2, hg, h3, h5⟩ := id hA
      have hcr : c ∈ Region.ready md ops l := by rw [h1]; simp
      have hc1 := (mem_ready.1 hcr).1
      have e9 : 0 + k + 1 + m = (0 + k + m) + 1 := by omega
      rw [e9]
      refine any_core hT hds (m := 0 + k + m) hS hL hSH hr (fun e h0 => ?_) (fun pend' c' sc' β' a' w' hcr' e hS' hL' hr' => ?_) fun c' o' hcr' hc hco hw => ?_
      · subst e
        exfalso
        obtain ⟨c1, o, c2, c3⟩ := mem_ready.1 hcr
        have : c ∈ Region.ready md ops lc := mem_ready.2 ⟨unl.2 ⟨by rw [hL.1]; exact (unl.1 c1).1, false_of fun e => by
          have := ((hL.2 c).1 e).1
          rw [(unl.1 c1).2] at this; cases this⟩, o, c2, fun e he hb => (hL.2 _).2 ⟨c3 e he hb, by simp⟩⟩
        rw [h0] at this; cases this
      · have := ihk (k - 1) (by omega) l sa sc' pend' _ β' a' w' (by omega) hA hS' hL' hSH (hCl.set hcr') hr'
        have e1 : 0 + (k - 1) + 1 + m = 0 + k + m := by omega
        rwa [e1] at this
      · have ec : c' = c := by rw [h1] at hc; simpa using hc
        subst ec
        rw [h2] at hco
        cases hco
        have hp : pend = [] := by
          cases pend with
          | nil => rfl
          | cons p r =>
            exfalso
            have h7 := hCl.need 10 c' p.1 o h2 (fun e he hb => by obtain ⟨_, o2, c2, c3⟩ := mem_ready.1 hcr'; rw [h2] at c2; cases c2; exact c3 e he hb) (h3 p.1 (hS.listed p (.head _)))
            exact ((hL.2 p.1).1 h7).2 p (.head _) rfl
        subst hp
        obtain ⟨k1, k2⟩ := hS.step hds h2 hc1 hw
        obtain ⟨hd, hv⟩ := stepOp_iff.1 h5
        have hst : stepG P T G ds o sc fun s' => ∃ sa', AnyS P T G ds ops md (fun _ => True) K m (l.setIfInBounds c' true) sa' ∧ SEq s' sa' :=
          ⟨by rw [hS.n]; exact hd, stepGV_mono (fun lv H' h => ⟨_, h, k2 lv H'⟩) (stepGV_agr k1.symm (by unfold stepGV; rw [hg]; exact hv))⟩
        refine wpOp_mono ?_ (stepGV_sound hT hds h2 hr hst)
        rintro a' w' ⟨s', β', ⟨sa', h6, h8⟩, hr'⟩
        have hk0 : k = 0 := by simpa using hk.symm
        subst hk0
        have := any_sound (w0 := w0) (acts := acts) hT hds hQ m 0 _ sa' s' [] _ β' a' w' rfl h6 h8 (hL.set hc1 (by simp)) trivial hr'
        have e1 : m + 0 = 0 + 0 + m := by omega
        rwa [e1] at this
  | succ f ihf =>
    intro k
    induction k using Nat.strongRecOn with
    | _ k ihk =>
      intro l sa sc pend lc β a w hk hA hS hL hSH hCl hr
      have e0 : f + 1 + k + 1 + m = (f + k + 1 + m) + 1 := by omega
      have hp : ∀ pend' c sc' β' a' w', c ∈ Region.ready md ops lc → pend'.length + 1 = pend.length → Sim T G ds ops md S l sa sc' pend' → Lc l pend' (lc.setIfInBounds c true) → Rel G w0 β' sc' acts a' w' → wpAny P md ops Q' (f + k + 1 + m) (lc.setIfInBounds c true) a' w' := fun pend' c sc' β' a' w' hcr' e hS' hL' hr' => by
        have := ihk (k - 1) (by omega) l sa sc' pend' _ β' a' w' (by omega) hA hS' hL' hSH (hCl.set hcr') hr'
        have e1 : f + 1 + (k - 1) + 1 + m = f + k + 1 + m := by omega
        rwa [e1] at this
      rcases id hA with ⟨h1, h2⟩ | ⟨i, o, lv, h1, h2, h3, h4, h5⟩
      · rw [e0]
        refine any_core hT hds hS hL hSH hr (fun e h0 => ?_) hp fun c' o hc hc' hco hw => ?_
        · subst e
          exfalso
          apply h1
          refine List.eq_nil_iff_forall_not_mem.2 fun c hc => ?_
          obtain ⟨c1, o, c2, c3⟩ := mem_ready.1 hc
          have : c ∈ Region.ready md ops lc := mem_ready.2 ⟨unl.2 ⟨by rw [hL.1]; exact (unl.1 c1).1, false_of fun e => by
            have := ((hL.2 c).1 e).1
            rw [(unl.1 c1).2] at this; cases this⟩, o, c2, fun e he hb => (hL.2 _).2 ⟨c3 e he hb, by simp⟩⟩
          rw [h0] at this; cases this
        · obtain ⟨o', hco', hd, hv⟩ := h2 c' hc'
          have eo : o' = o := by rw [hco] at hco'; exact (Option.some.inj hco').symm
          subst eo
          have hc1 := (mem_ready.1 hc').1
          obtain ⟨k1, k2⟩ := hS.step hds hco hc1 hw
          have hn : ∀ p ∈ pend, p.1 ≠ c' := fun p hp e => by
            have := hS.listed p hp
            rw [e, (unl.1 hc1).2] at this; cases this
          have hst : stepG P T G ds o' sc fun s' => ∃ sa', (S sa'.H ∧ AnyF P T G ds ops md S c m K f (l.setIfInBounds c' true) sa') ∧ Sim T G ds ops md S (l.setIfInBounds c' true) sa' s' pend :=
            ⟨by rw [hS.n]; exact hd, stepGV_mono (fun lv H' h => ⟨_, h, k2 lv H'⟩) (stepGV_agr k1.symm hv)⟩
          refine wpOp_mono ?_ (stepGV_sound hT hds hco hr hst)
          rintro a' w' ⟨s', β', ⟨sa', ⟨h6, h7⟩, h8⟩, hr'⟩
          exact ihf k _ sa' s' pend _ β' a' w' hk h7 h8 (hL.set hc1 hn) h6 (hCl.set hc) hr'
      · have := ihf (k + 1) _ _ sc (pend ++ [(i, o, lv)]) lc β a w (by simp; omega) h5 (hS.push h1 (mem_ready.1 h2).1 (ready_deps h1 h2) (fun j oj => Region.free_spec h1 h3 j oj) h4) (hL.push (mem_ready.1 h2).1) (by rw [put_H]; exact hSH) hCl hr
        have e1 : f + (k + 1) + 1 + m = f + 1 + k + 1 + m := by omega
        rwa [e1] at this
def lastOk (md : Region.Mode) (ops : Array Oper) (c : Nat) (τ : List (Bool × Nat)) (l : Array Bool) : Bool :=
  decide (Region.ready md ops l = [c]) && (match ops[c]? with | some o => o.guard.isNone && (List.range l.size).all fun j => !(l.getD j false) || need md ops 10 c j | none => false) && planOk md ops τ (l.setIfInBounds c true)
theorem runPlan_soundF {ol : List Oper} (hol : ops = ol.toArray) {c : Nat} {oc : Oper} (hc : ol[c]? = some oc) {τ : List (Bool × Nat)} {K : St → Prop} : ∀ (plan : List (Bool × Nat)) (l : Array Bool) (s : St), planOkE md ops (lastOk md ops c τ) plan l = true → S s.H → runPlan P T G ds S ol plan s (fun s' => stepOp P T G oc s' fun s' => runPlan P T G ds (fun _ => True) ol τ s' K) → AnyF P T G ds ops md S c τ.length K plan.length l s
  | [], l, s, h, _, h2 => by
    simp only [planOkE, lastOk, Bool.and_eq_true, decide_eq_true_eq] at h
    obtain ⟨⟨h3, h4⟩, h5⟩ := h
    have hc' : ops[c]? = some oc := by rw [hol]; simpa using hc
    rw [hc'] at h4
    simp only [Bool.and_eq_true, List.all_eq_true, List.mem_range, Bool.or_eq_true, Bool.not_eq_true'] at h4
    have h7 : stepOp P T G oc s fun s' => AnyS P T G ds ops md (fun _ => True) K τ.length (l.setIfInBounds c true) s' := by
      have h2' : stepOp P T G oc s fun s' => runPlan P T G ds (fun _ => True) ol τ s' K := h2
      obtain ⟨a, b⟩ := stepOp_iff.1 h2'
      exact stepOp_iff.2 ⟨a, stepV_mono (fun _ _ h => runPlan_sound hol τ _ _ h5 trivial h) b⟩
    refine ⟨oc, h3, hc', by simpa using h4.1, fun j hj => ?_, h7⟩
    have hjs : j < l.size := by
      rcases Nat.lt_or_ge j l.size with h' | h'
      · exact h'
      · simp [Array.getElem?_eq_none h'] at hj
    rcases h4.2 j hjs with h6 | h6
    · rw [hj] at h6; cases h6
    · exact h6
  | (true, i) :: r, l, s, h, hS, h2 => by
    simp only [planOkE, Bool.and_eq_true] at h
    obtain ⟨⟨h3, h4⟩, h5⟩ := h
    obtain ⟨o, h6, h7, h8⟩ := h2
    have h6' : ops[i]? = some o := by rw [hol]; simpa using h6
    have hci : i ∈ Region.ready md ops l := by simpa using h3
    refine .inr ?_
    split at h8
    · rename_i hg
      obtain ⟨v, _, k2, k3⟩ := h8
      refine ⟨i, o, v.1, h6', hci, h4, ⟨h7, fun H' hH' => ?_⟩, runPlan_soundF hol hc r _ _ h5 (by rw [put_H]; exact hS) k3⟩
      unfold valG
      rw [hg]
      exact k2 H' hH'
    · rename_i j want hg
      obtain ⟨b, k1, k2⟩ := h8
      obtain ⟨g1, g2⟩ := guardK_out k2
      by_cases hbw : b = want
      · obtain ⟨v, _, q2, q3⟩ := g1 hbw
        exact ⟨i, o, v.1, h6', hci, h4, ⟨h7, fun H' hH' => by
          unfold valG
          rw [hg]
          exact ⟨b, k1, guardK_in (fun _ => q2 H' hH') (fun h => absurd hbw h)⟩⟩, runPlan_soundF hol hc r _ _ h5 (by rw [put_H]; exact hS) q3⟩
      · exact ⟨i, o, .tup [], h6', hci, h4, ⟨h7, fun H' hH' => by
          unfold valG
          rw [hg]
          exact ⟨b, k1, guardK_in (fun h => absurd h hbw) (fun _ => rfl)⟩⟩, runPlan_soundF hol hc r _ _ h5 (by rw [put_H]; exact hS) (g2 hbw)⟩
  | (false, i) :: r, l, s, h, hS, h2 => by
    simp only [planOkE, Bool.and_eq_true] at h
    obtain ⟨h3, h5⟩ := h
    have h4 : Region.ready md ops l = [i] := by
      split at h3
      · rename_i j hj; simp at h3; subst h3; exact hj
      · cases h3
    refine .inl ⟨by rw [h4]; simp, fun j hj => ?_⟩
    rw [h4] at hj
    simp only [List.mem_singleton] at hj
    subst hj
    obtain ⟨o, h6, h8⟩ := runPlan_head hol hS h2
    exact ⟨o, h6, stepG_mono (fun s' ⟨a, b⟩ => ⟨a, runPlan_soundF hol hc r _ _ h5 a b⟩) h8⟩
theorem runAuto_mono {K K' : St → Prop} (hK : ∀ s, K s → K' s) : ∀ (l : List Oper) (s : St), runAuto P T G ds S l s K → runAuto P T G ds S l s K'
  | [], s, h => hK s h
  | o :: r, s, h => by
    have ih := runAuto_mono hK r
    have am : ∀ {A B : St → Prop}, (∀ s, A s → B s) → stepOp P T G o s A → stepOp P T G o s B := fun hAB h => by
      obtain ⟨a, b⟩ := stepOp_iff.1 h
      exact stepOp_iff.2 ⟨a, stepV_mono (fun _ _ h => hAB _ h) b⟩
    unfold runAuto at h ⊢
    split
    · rename_i hc
      rw [if_pos hc] at h
      refine ⟨h.1, ?_⟩
      have h2 := h.2
      split at h2
      · rename_i hg
        try simp only [hg]
        obtain ⟨v, k1, k2, k3⟩ := h2
        exact ⟨v, k1, k2, ih _ k3⟩
      · rename_i j want hg
        try simp only [hg]
        obtain ⟨b, k1, k2⟩ := h2
        obtain ⟨g1, g2⟩ := guardK_out k2
        exact ⟨b, k1, guardK_in (fun e => let ⟨v, k1, k2, k3⟩ := g1 e; ⟨v, k1, k2, ih _ k3⟩) (fun e => ih _ (g2 e))⟩
    · rename_i hc
      rw [if_neg hc] at h
      split at h
      · rename_i hg
        try simp only [hg]
        exact am (fun s h => ⟨h.1, ih _ h.2⟩) h
      · rename_i j want hg
        try simp only [hg]
        obtain ⟨b, k1, k2⟩ := h
        obtain ⟨g1, g2⟩ := guardK_out k2
        exact ⟨b, k1, guardK_in (fun e => am (fun s h => ⟨h.1, ih _ h.2⟩) (g1 e)) (fun e => ⟨(g2 e).1, ih _ (g2 e).2⟩)⟩
/-- σ: the operations ahead; c: the one that waits for all of them; τ: what comes behind. -/
theorem AWp.drawnG (σ : List Nat) (c : Nat) (τ : List Nat) (d r : List Nat) (hT : TOk P T) (hm : P.follows .mixedOrders = true) {s : St} {id : Nat} {ol : List Oper} {oc : Oper} (hds : ol.map (·.dst) = ds) (hc : ol[c]? = some oc)
    (hok : (decide ((pickPlan ol σ).length + 1 + (pickPlan ol τ).length = ol.length) && planOkE .any ol.toArray (lastOk .any ol.toArray c (pickPlan ol τ)) (pickPlan ol σ) (Array.replicate ol.length false)) = true) {Q : Exit → St → Prop}
    (h0 : preB (xblk d r s) 0 s.H s.H) (h : runAuto P T G ds (preB (xblk d r s) 0 s.H) (pick ol σ) s (fun s' => stepOp P T G oc s' (fun s' => runAuto P T G ds (fun _ => True) (pick ol τ) s' (fun s' => Q .normal s')))) : AWp P G (.region id ol.toArray true) Q s := by
  intro w0 β acts a w hr
  simp only [Bool.and_eq_true, decide_eq_true_eq] at hok
  obtain ⟨hl, hok⟩ := hok
  refine wp_region_any hm ?_
  have h1 : runPlan P T G ds (preB (xblk d r s) 0 s.H) ol (pickPlan ol σ) s (fun s' => stepOp P T G oc s' (fun s' => runPlan P T G ds (fun _ => True) ol (pickPlan ol τ) s' (fun s' => Q .normal s'))) := by
    refine runAuto_pick (K := fun s' => stepOp P T G oc s' (fun s' => runPlan P T G ds (fun _ => True) ol (pickPlan ol τ) s' (fun s' => Q .normal s'))) σ s (runAuto_mono ?_ (pick ol σ) s h)
    intro s' h
    obtain ⟨a, b⟩ := stepOp_iff.1 h
    exact stepOp_iff.2 ⟨a, stepV_mono (fun _ _ h => runAuto_pick τ _ h) b⟩
  have hA := runPlan_soundF (P := P) (T := T) (G := G) (ds := ds) (ops := ol.toArray) (S := preB (xblk d r s) 0 s.H) rfl hc _ _ s hok h0 h1
  have := anyF_sound (w0 := w0) (acts := acts) hT (by simpa using hds) (Q' := fun e a' w' => ∃ s' β', Q e s' ∧ Rel G w0 β' s' acts a' w') (fun s β a w hK hr => ⟨s, β, hK, hr⟩) (pickPlan ol σ).length 0 _ s s [] (Array.replicate ol.length false) β a _ rfl hA (SEq.refl s) ⟨rfl, fun j => by simp⟩ h0 (fun j o hj => by rw [Array.getD_eq_getD_getElem?, Array.getElem?_replicate] at hj; split at hj <;> cases hj) (hr.drewN 1)
  rw [Nat.add_zero, hl] at this
  have e : (ol.toArray).size = ol.length := by simp
  rw [e]
  exact this
end
section
variable {G : Nat → Option (List PV)}
/-- A row of which no more is known than that it is there. -/
theorem St.cut_weak {s : St} {b : Nat} {B : Blk} (h : s.H[b]? = some B) (hl : B.live = true) (hR : B.isRow = true) : Weak G s { s with H := s.H.set b (.p []) } := by
  intro w0 β acts a w hr
  exact ⟨β, hr.store (o := 0) (B' := .p []) (vs := []) (lvs := []) h hl rfl hR rfl (fun c E fz h => by simp [Blk.len]) (fun i hi => by simp [Blk.len] at hi) (by simp) (by simp)⟩
end
end Hm
