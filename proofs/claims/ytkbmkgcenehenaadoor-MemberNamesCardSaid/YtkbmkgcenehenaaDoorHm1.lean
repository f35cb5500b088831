/- The machine without memory, part 1: plain laws about the model, no program in sight. -/
import Derived.OrdersHeld
import Derived.Below
import Derived.Deep.LoopGhost
import Derived.Deep.Draws
import Derived.Laws.IdiomCopy
import Derived.Laws.AppendOwn
import Derived.RowKit3
import Derived.Laws.Slices
import Derived.Laws.Cells
import Derived.Laws.Entries
import Derived.Lib.ConvBytes
import Derived.Laws.BytesString
import Derived.MapKept
import Derived.Laws.StructEq
import Derived.ChangeKeysEq
set_option linter.unusedVariables false
set_option linter.unusedSimpArgs false
namespace Hm
open Go Go.RowKit

/-- Values without memory: what a slice holds stands in the value. -/
inductive PV where
  | int (k : IntKind) (n : Int)
  | bool (b : Bool)
  | str (s : ByteArray)
  | nil
  | sl (f : Bool) (cells : List PV) (len : Nat)      -- f: it may lie in memory that was there when the call began
  | nsl (f : Bool) (cells : List PV) (len : Nat)      -- nil, if it is empty
  | asl (f : Bool) (cells : List PV) (len : Nat)      -- it may be nil, if it is empty
  | agg (cells : List PV)
  | fn (f : FuncId) (cap : List PV)
  | nilfn
  | nilp
  | ip (f : Bool) (cells : List PV) (off : Nat)
  | ifc (t : TypeId) (v : PV)
  | nilif
  | nilmap
  | raw (v : Value)      -- just this value, of one cell

/-- Values of a call's own: they may lead to its own blocks. -/
inductive LV where
  | pv (p : PV)
  | ref (b off len esz : Nat)
  | nref (b len esz : Nat)      -- nil or without room, if it is empty
  | ptr (b off : Nat)
  | agg (cells : List LV)
  | fn (f : FuncId) (cap : List LV)
  | tup (vs : List LV)
  | ifc (t : TypeId) (v : LV)
  | emp      -- an empty slice that is not nil, without room
  | mref (b : Nat)
  | dead

/-- A block of a call's own. -/
inductive Blk where
  | p (cells : List PV)
  | n (cells : List PV)      -- not there, if it is empty
  | l (cells : List LV)
  | m (kvs : List (PV × PV))      -- a map, its entries in the order in which they came
  | gone

def Blk.get : Blk → Nat → Option LV
  | .p c, i => (c[i]?).map .pv
  | .n c, i => (c[i]?).map .pv
  | .l c, i => c[i]?
  | .m _, _ => none
  | .gone, _ => none
def Blk.len : Blk → Nat
  | .p c => c.length
  | .n c => c.length
  | .l c => c.length
  | .m _ => 0
  | .gone => 0
def Blk.live : Blk → Bool
  | .gone => false
  | .n c => !c.isEmpty
  | _ => true

def PV.one : PV → Bool
  | .agg _ => false
  | _ => true
/-- What one cell can hold. -/
def LV.one : LV → Bool
  | .pv p => p.one
  | .agg _ | .tup _ | .dead => false
  | _ => true

inductive Imm (w : World) (ok : Bool → Nat → Prop) : PV → Value → Prop
  | int (k : IntKind) (n : Int) : Imm w ok (.int k n) (.int k n)
  | bool (b : Bool) : Imm w ok (.bool b) (.bool b)
  | str (s : ByteArray) : Imm w ok (.str s) (.string s)
  | nil : Imm w ok .nil (.slice none 0 0)
  | sl (f : Bool) (cells : List PV) (len blk off cap : Nat) (vs : Nat → Value) (hl : len ≤ cap) (h1 : ∀ (i : Nat) p, cells[i]? = some p → p.one = true)
      (hc : ∀ (i : Nat), i < cells.length → ok f blk ∧ w.cell? ⟨blk, off + i, none⟩ = some (vs i))
      (hv : ∀ (i : Nat) p, cells[i]? = some p → Imm w ok p (vs i)) : Imm w ok (.sl f cells len) (.slice (some ⟨blk, off, none⟩) len cap)
  | nsl0 (f : Bool) (cells : List PV) : Imm w ok (.nsl f cells 0) (.slice none 0 0)
  | nsl (f : Bool) (cells : List PV) (len : Nat) (v : Value) (h0 : 0 < len) (h : Imm w ok (.sl f cells len) v) : Imm w ok (.nsl f cells len) v
  | asl0 (f : Bool) (cells : List PV) : Imm w ok (.asl f cells 0) (.slice none 0 0)
  | asl (f : Bool) (cells : List PV) (len : Nat) (v : Value) (h : Imm w ok (.sl f cells len) v) : Imm w ok (.asl f cells len) v
  | slz (f : Bool) (cells : List PV) (a : Addr) (cap : Nat) : Imm w ok (.sl f cells 0) (.slice (some a) 0 cap)
  | agg (cells : List PV) (vs : Array Value) (hl : cells.length = vs.size) (h1 : ∀ (i : Nat) p, cells[i]? = some p → p.one = true)
      (hv : ∀ (i : Nat) p v, cells[i]? = some p → vs[i]? = some v → Imm w ok p v) : Imm w ok (.agg cells) (.agg vs)
  | fn (f : FuncId) (cap : List PV) (vs : Array Value) (hl : cap.length = vs.size)
      (hv : ∀ (i : Nat) p v, cap[i]? = some p → vs[i]? = some v → Imm w ok p v) : Imm w ok (.fn f cap) (.func (.func f) #[] vs)
  | nilfn : Imm w ok .nilfn .nilFunc
  | nilp : Imm w ok .nilp (.pointer none)
  | ip (f : Bool) (cells : List PV) (off blk o : Nat) (vs : Nat → Value) (h1 : ∀ (i : Nat) p, cells[i]? = some p → p.one = true)
      (hc : ∀ (i : Nat), i < cells.length → ok f blk ∧ w.cell? ⟨blk, o + i, none⟩ = some (vs i))
      (hv : ∀ (i : Nat) p, cells[i]? = some p → Imm w ok p (vs i)) : Imm w ok (.ip f cells off) (.pointer (some ⟨blk, o + off, none⟩))
  | ifc (t : TypeId) (p : PV) (v : Value) (h : Imm w ok p v) : Imm w ok (.ifc t p) (.iface t v)
  | nilif : Imm w ok .nilif .nilIface
  | nilmap : Imm w ok .nilmap (.map none)
  | raw (v : Value) (h : v.oneCell' = true) : Imm w ok (.raw v) v

theorem cell?_of_heap {w w' : World} {a : Addr} (h : w'.heap[a.block]? = w.heap[a.block]?) : w'.cell? a = w.cell? a := by
  unfold World.cell?; rw [h]

theorem Imm.mono {w w' : World} {ok ok' : Bool → Nat → Prop} (hw : ∀ f b, ok f b → w'.heap[b]? = w.heap[b]?) (ho : ∀ f b, ok f b → ok' f b) {p : PV} {v : Value}
    (h : Imm w ok p v) : Imm w' ok' p v := by
  induction h with
  | int k n => exact .int k n
  | bool b => exact .bool b
  | str s => exact .str s
  | nil => exact .nil
  | sl f cells len blk off cap vs hl h1 hc hv ih =>
    exact .sl f cells len blk off cap vs hl h1 (fun i hi => ⟨ho _ _ (hc i hi).1, by rw [cell?_of_heap (hw _ _ (hc i hi).1)]; exact (hc i hi).2⟩) ih
  | nsl0 f cells => exact .nsl0 f cells
  | nsl f cells len v h0 h ih => exact .nsl f cells len v h0 ih
  | asl0 f cells => exact .asl0 f cells
  | asl f cells len v h ih => exact .asl f cells len v ih
  | slz f cells a cap => exact .slz f cells a cap
  | agg cells vs hl h1 hv ih => exact .agg cells vs hl h1 ih
  | fn f cap vs hl hv ih => exact .fn f cap vs hl ih
  | nilfn => exact .nilfn
  | nilp => exact .nilp
  | ip f cells off blk o vs h1 hc hv ih =>
    exact .ip f cells off blk o vs h1 (fun i hi => ⟨ho _ _ (hc i hi).1, by rw [cell?_of_heap (hw _ _ (hc i hi).1)]; exact (hc i hi).2⟩) ih
  | ifc t p v h ih => exact .ifc t p v ih
  | nilif => exact .nilif
  | nilmap => exact .nilmap
  | raw v h => exact .raw v h

/-- How values of a call's own stand in the memory: block i of its own is block β i; n: how many blocks of its own there are. -/
inductive LR (β : Nat → Nat) (n : Nat) (w : World) (ok : Bool → Nat → Prop) : LV → Value → Prop
  | pv {p : PV} {v : Value} (h : Imm w ok p v) : LR β n w ok (.pv p) v
  | ref (b off len esz cap : Nat) (c : Array Value) (E : TypeId) (fz : Nat × Nat) (hb : b < n) (hh : w.heap[β b]? = some (.cells c E fz)) (hl : len ≤ cap)
      (hs : off + cap * esz ≤ c.size) : LR β n w ok (.ref b off len esz) (.slice (some ⟨β b, off, none⟩) len cap)
  | refz (b off esz : Nat) (a : Addr) (hb : b < n) : LR β n w ok (.ref b off 0 esz) (.slice (some a) 0 0)
  | nref0 (b esz : Nat) (a : Option Addr) : LR β n w ok (.nref b 0 esz) (.slice a 0 0)
  | nref (b len esz : Nat) (v : Value) (h0 : 0 < len) (h : LR β n w ok (.ref b 0 len esz) v) : LR β n w ok (.nref b len esz) v
  | ptr (b off : Nat) (hb : b < n) : LR β n w ok (.ptr b off) (.pointer (some ⟨β b, off, none⟩))
  | agg (cells : List LV) (vs : Array Value) (hl : cells.length = vs.size) (h1 : ∀ (i : Nat) p, cells[i]? = some p → p.one = true)
      (hv : ∀ (i : Nat) p v, cells[i]? = some p → vs[i]? = some v → LR β n w ok p v) : LR β n w ok (.agg cells) (.agg vs)
  | fn (f : FuncId) (cap : List LV) (vs : Array Value) (hl : cap.length = vs.size)
      (hv : ∀ (i : Nat) p v, cap[i]? = some p → vs[i]? = some v → LR β n w ok p v) : LR β n w ok (.fn f cap) (.func (.func f) #[] vs)
  | tup (cells : List LV) (vs : Array Value) (hl : cells.length = vs.size)
      (hv : ∀ (i : Nat) p v, cells[i]? = some p → vs[i]? = some v → LR β n w ok p v) : LR β n w ok (.tup cells) (.tuple vs)
  | ifc (t : TypeId) (p : LV) (v : Value) (h : LR β n w ok p v) : LR β n w ok (.ifc t p) (.iface t v)
  | emp (a : Addr) : LR β n w ok .emp (.slice (some a) 0 0)
  | mref (b : Nat) (hb : b < n) : LR β n w ok (.mref b) (.map (some (β b)))
  | dead (v : Value) : LR β n w ok .dead v

/-- The world goes on: rows keep their sizes, and rows outside of 'tch' their cells. -/
structure Goes (tch : Nat → Prop) (w w' : World) : Prop where
  size : w.heap.size ≤ w'.heap.size
  row : ∀ (b : Nat) (c : Array Value) (E : TypeId) (fz : Nat × Nat), w.heap[b]? = some (.cells c E fz) → ∃ (c' : Array Value) (fz' : Nat × Nat), w'.heap[b]? = some (.cells c' E fz') ∧ c'.size = c.size
  keep : ∀ b, b < w.heap.size → ¬ tch b → w'.heap[b]? = w.heap[b]?

theorem Goes.refl (tch : Nat → Prop) (w : World) : Goes tch w w := ⟨Nat.le_refl _, fun _ c _ fz h => ⟨c, fz, h, rfl⟩, fun _ _ _ => rfl⟩

theorem LR.mono {β β' : Nat → Nat} {n n' : Nat} {w w' : World} {ok ok' : Bool → Nat → Prop} (hn : n ≤ n') (hβ : ∀ i, i < n → β' i = β i)
    (hr : ∀ (b : Nat) (c : Array Value) (E : TypeId) (fz : Nat × Nat), w.heap[b]? = some (.cells c E fz) → ∃ (c' : Array Value) (fz' : Nat × Nat), w'.heap[b]? = some (.cells c' E fz') ∧ c'.size = c.size)
    (hw : ∀ f b, ok f b → w'.heap[b]? = w.heap[b]?) (ho : ∀ f b, ok f b → ok' f b) {p : LV} {v : Value}
    (h : LR β n w ok p v) : LR β' n' w' ok' p v := by
  induction h with
  | pv h => exact .pv (h.mono hw ho)
  | ref b off len esz cap c E fz hb hh hl hs =>
    obtain ⟨c', fz', h', hc'⟩ := hr _ _ _ _ hh
    rw [← hβ b hb] at h' ⊢
    exact .ref b off len esz cap c' E fz' (Nat.lt_of_lt_of_le hb hn) h' hl (hc' ▸ hs)
  | refz b off esz a hb => exact .refz b off esz a (Nat.lt_of_lt_of_le hb hn)
  | nref0 b esz a => exact .nref0 b esz a
  | nref b len esz v h0 h ih => exact .nref b len esz v h0 ih
  | ptr b off hb => rw [← hβ b hb]; exact .ptr b off (Nat.lt_of_lt_of_le hb hn)
  | agg cells vs hl h1 hv ih => exact .agg cells vs hl h1 ih
  | fn f cap vs hl hv ih => exact .fn f cap vs hl ih
  | tup cells vs hl hv ih => exact .tup cells vs hl ih
  | ifc t p v h ih => exact .ifc t p v ih
  | emp a => exact .emp a
  | mref b hb => rw [← hβ b hb]; exact .mref b (Nat.lt_of_lt_of_le hb hn)
  | dead v => exact .dead v

structure St where
  n : Nat
  fr : List (Nat × LV)
  H : List Blk
  up : List (Nat × List (Nat × LV))

/-- Which blocks are not the call's own; f = false: of those, which were not there when it began. -/
def okOf (w0 : World) (β : Nat → Nat) (H : List Blk) (w : World) (f : Bool) (b : Nat) : Prop := b < w.heap.size ∧ (f = false → w0.heap.size ≤ b) ∧ ∀ i B, H[i]? = some B → B.live = true → β i ≠ b

def FrRel (β : Nat → Nat) (n : Nat) (w : World) (ok : Bool → Nat → Prop) (f : List (Nat × LV)) (tmps : Array Value) : Prop :=
  ∀ t lv, f.lookup t = some lv → LR β n w ok lv (tmps.getD t undef)

/-- No cell of the row is shut. -/
def FzOk (fz : Nat × Nat) (n : Nat) : Prop := fz.1 = fz.2 ∨ n ≤ fz.1
theorem FzOk.out {fz : Nat × Nat} {n : Nat} (h : FzOk fz n) : ∀ i, i < n → ¬ (fz.1 ≤ i ∧ i < fz.2) := fun i hi => by
  rcases h with h | h <;> omega
def BlkRow (β : Nat → Nat) (n : Nat) (w : World) (ok : Bool → Nat → Prop) (B : Blk) (k : Nat) : Prop :=
  ∃ c E fz, w.heap[k]? = some (.cells c E fz) ∧ FzOk fz c.size ∧ B.len ≤ c.size ∧
    ∀ i lv, B.get i = some lv → lv.one = true ∧ ∃ v, c[i]? = some v ∧ LR β n w ok lv v
/-- A map's entries. -/
def KV (w : World) (ok : Bool → Nat → Prop) (kvs : List (PV × PV)) (es : Array MapEntry) : Prop :=
  kvs.length = es.size ∧ ∀ (i : Nat) kv e, kvs[i]? = some kv → es[i]? = some e → Imm w ok kv.1 e.key ∧ Imm w ok kv.2 e.val
def Blk.isRow : Blk → Bool
  | .m _ => false
  | _ => true
def BlkRel (β : Nat → Nat) (n : Nat) (w : World) (ok : Bool → Nat → Prop) (B : Blk) (k : Nat) : Prop :=
  (B.isRow = true → BlkRow β n w ok B k) ∧ ∀ kvs, B = .m kvs → ∃ es clock, w.heap[k]? = some (.map es clock) ∧ KV w ok kvs es
theorem BlkRel.row {β : Nat → Nat} {n : Nat} {w : World} {ok : Bool → Nat → Prop} {B : Blk} {k : Nat} (h : BlkRel β n w ok B k) (hB : B.isRow = true) : BlkRow β n w ok B k := h.1 hB
theorem BlkRow.rel {β : Nat → Nat} {n : Nat} {w : World} {ok : Bool → Nat → Prop} {B : Blk} {k : Nat} (h : BlkRow β n w ok B k) (hB : B.isRow = true) : BlkRel β n w ok B k :=
  ⟨fun _ => h, fun kvs e => by subst e; cases hB⟩
theorem BlkRel.trans {β β' : Nat → Nat} {n n' : Nat} {w w' : World} {ok ok' : Bool → Nat → Prop} {B : Blk} {k k' : Nat} (h : BlkRel β n w ok B k) (hh : w'.heap[k']? = w.heap[k]?) (hm : ∀ lv v, LR β n w ok lv v → LR β' n' w' ok' lv v) : BlkRel β' n' w' ok' B k' := by
  refine ⟨fun hB => ?_, fun kvs e => ?_⟩
  · obtain ⟨c, E, fz, h1, h2, h3, h4⟩ := h.1 hB
    exact ⟨c, E, fz, hh.trans h1, h2, h3, fun i lv hi => let ⟨h5, v, h6, h7⟩ := h4 i lv hi; ⟨h5, v, h6, hm _ _ h7⟩⟩
  · obtain ⟨es, clock, h1, h2, h3⟩ := h.2 kvs e
    refine ⟨es, clock, hh.trans h1, h2, fun i kv x hi hx => ?_⟩
    have h4 := h3 i kv x hi hx
    have a := hm _ _ (.pv h4.1)
    have b := hm _ _ (.pv h4.2)
    cases a with | pv a => cases b with | pv b => exact ⟨a, b⟩

theorem BlkRel.transM {β β' : Nat → Nat} {n n' : Nat} {w w' : World} {ok ok' : Bool → Nat → Prop} {kvs : List (PV × PV)} {k k' : Nat} (h : BlkRel β n w ok (.m kvs) k) (hh : w'.heap[k']? = w.heap[k]?) (hm : ∀ p v, Imm w ok p v → Imm w' ok' p v) : BlkRel β' n' w' ok' (.m kvs) k' := by
  refine ⟨(fun hB => by cases hB), fun kvs' e => ?_⟩
  obtain ⟨es, clock, h1, h2, h3⟩ := h.2 kvs' e
  exact ⟨es, clock, hh.trans h1, h2, fun i kv x hi hx => ⟨hm _ _ (h3 i kv x hi hx).1, hm _ _ (h3 i kv x hi hx).2⟩⟩

/-- How a state of the machine without memory stands in the memory. w0: the world in which the call began. -/
structure Rel (G : Nat → Option (List PV)) (w0 : World) (β : Nat → Nat) (s : St) (acts : List Act) (a : Act) (w : World) : Prop where
  below : Below w0.heap.size w0 w
  nodef : a.defers = []
  sz : a.tmps.size = s.n
  ge : ∀ i B, s.H[i]? = some B → B.live = true → w0.heap.size ≤ β i
  lt : ∀ i B, s.H[i]? = some B → B.live = true → β i < w.heap.size
  inj : ∀ i j B C, s.H[i]? = some B → B.live = true → s.H[j]? = some C → C.live = true → β i = β j → i = j
  blk : ∀ i B, s.H[i]? = some B → B.live = true → BlkRel β s.H.length w (okOf w0 β s.H w) B (β i)
  fr : FrRel β s.H.length w (okOf w0 β s.H w) s.fr a.tmps
  up : ∀ (i : Nat) f, s.up[i]? = some f → f.1 ≤ s.H.length ∧ ∃ act : Act, acts[i]? = some act ∧ FrRel β f.1 w (okOf w0 β s.H w) f.2 act.tmps
  gl : ∀ g cells, G g = some cells → Imm w0 (fun f b => f = true ∧ b < w0.heap.size) (.ip true cells 0) (.pointer (some ⟨g, 0, none⟩))

/-- A piece of code, as seen by the machine without memory. -/
def AWp (P : Program) (G : Nat → Option (List PV)) (c : Code) (Q : Exit → St → Prop) (s : St) : Prop :=
  ∀ w0 β acts a w, Rel G w0 β s acts a w → c.wp P (fun e a' w' => ∃ s' β', Q e s' ∧ Rel G w0 β' s' acts a' w') a w

theorem AWp.mono {P : Program} {G : Nat → Option (List PV)} {c : Code} {Q Q' : Exit → St → Prop} {s : St} (hq : ∀ e s, Q e s → Q' e s) (h : AWp P G c Q s) : AWp P G c Q' s :=
  fun w0 β acts a w hr => wp_mono (h w0 β acts a w hr) fun _ _ _ ⟨s', β', hQ, hr'⟩ => ⟨s', β', hq _ _ hQ, hr'⟩

/-- 's'' says no more than 's'. -/
def Weak (G : Nat → Option (List PV)) (s s' : St) : Prop := ∀ w0 β acts a w, Rel G w0 β s acts a w → ∃ β', Rel G w0 β' s' acts a w

theorem Weak.refl (G : Nat → Option (List PV)) (s : St) : Weak G s s := fun _ β _ _ _ h => ⟨β, h⟩

theorem AWp.weak {P : Program} {G : Nat → Option (List PV)} {c : Code} {Q : Exit → St → Prop} {s s' : St} (hw : Weak G s s') (h : AWp P G c Q s') : AWp P G c Q s :=
  fun w0 β acts a w hr => let ⟨β', hr'⟩ := hw w0 β acts a w hr; h w0 β' acts a w hr'

theorem AWp.post {P : Program} {G : Nat → Option (List PV)} {c : Code} {Q : Exit → St → Prop} {s : St} (h : AWp P G c (fun e s' => ∃ s'', Weak G s' s'' ∧ Q e s'') s) : AWp P G c Q s :=
  fun w0 β acts a w hr => wp_mono (h w0 β acts a w hr) fun _ _ _ ⟨_, β', ⟨s'', hw, hQ⟩, hr'⟩ => let ⟨β'', hr''⟩ := hw _ β' _ _ _ hr'; ⟨s'', β'', hQ, hr''⟩

/-- What goes on behind a piece of code that ends as pieces of code mostly do. -/
def AThen (next : St → Prop) (Q : Exit → St → Prop) : Exit → St → Prop
  | .normal, s => next s
  | e, s => Q e s

def AInBlock (id : Nat) (Q : Exit → St → Prop) : Exit → St → Prop
  | .exit id', s => if id' = id then Q .normal s else Q (.exit id') s
  | e, s => Q e s

section
variable {P : Program} {G : Nat → Option (List PV)} {Q : Exit → St → Prop} {s : St}

theorem AWp.seq {x y : Code} (h : AWp P G x (AThen (AWp P G y Q) Q) s) : AWp P G (.seq x y) Q s := by
  intro w0 β acts a w hr
  refine wp_seq (wp_mono (h w0 β acts a w hr) ?_)
  rintro e a' w' ⟨s', β', hQ, hr'⟩
  cases e with
  | normal => exact hQ w0 β' acts a' w' hr'
  | exit id => exact ⟨s', β', hQ, hr'⟩
  | goto l => exact ⟨s', β', hQ, hr'⟩
  | ret => exact ⟨s', β', hQ, hr'⟩
  | panic ch => exact ⟨s', β', hQ, hr'⟩
  | outgrown => exact ⟨s', β', hQ, hr'⟩

theorem AWp.skip (h : Q .normal s) : AWp P G .skip Q s := fun _ β _ _ _ hr => wp_skip ⟨s, β, h, hr⟩
theorem AWp.label {l : Nat} (h : Q .normal s) : AWp P G (.label l) Q s := fun _ β _ _ _ hr => wp_label ⟨s, β, h, hr⟩
theorem AWp.exit {id : Nat} (h : Q (.exit id) s) : AWp P G (.exit id) Q s := fun _ β _ _ _ hr => wp_exit ⟨s, β, h, hr⟩
theorem AWp.goto {l : Nat} (h : Q (.goto l) s) : AWp P G (.goto l) Q s := fun _ β _ _ _ hr => wp_goto ⟨s, β, h, hr⟩
theorem AWp.ret (h : Q .ret s) : AWp P G .ret Q s := fun _ β _ _ _ hr => wp_ret ⟨s, β, h, hr⟩

theorem AWp.block {id : Nat} {c : Code} (h : AWp P G c (AInBlock id Q) s) : AWp P G (.block id c) Q s := by
  intro w0 β acts a w hr
  refine wp_block (wp_mono (h w0 β acts a w hr) ?_)
  rintro e a' w' ⟨s', β', hQ, hr'⟩
  cases e with
  | exit id' =>
    simp only [AInBlock] at hQ
    simp only [Exit.inBlock]
    split
    · rename_i e; rw [if_pos e] at hQ; exact ⟨s', β', hQ, hr'⟩
    · rename_i e; rw [if_neg e] at hQ; exact ⟨s', β', hQ, hr'⟩
  | normal => exact ⟨s', β', hQ, hr'⟩
  | goto l => exact ⟨s', β', hQ, hr'⟩
  | ret => exact ⟨s', β', hQ, hr'⟩
  | panic ch => exact ⟨s', β', hQ, hr'⟩
  | outgrown => exact ⟨s', β', hQ, hr'⟩

/-- A loop: 'I g' holds at each round's head; each round lowers g. -/
theorem AWp.loop {c : Code} (I : Nat → St → Prop) (g₀ : Nat) (h₀ : I g₀ s) (round : ∀ g s, I g s → AWp P G c (AThen (fun s' => ∃ g', g' < g ∧ ∃ s'', Weak G s' s'' ∧ I g' s'') Q) s) :
    AWp P G (.loop c) Q s := by
  intro w0 β acts a w hr
  refine wp_loop_ghost (fun n a w => ∃ s β, I n s ∧ Rel G w0 β s acts a w) g₀ ⟨s, β, h₀, hr⟩ ?_
  rintro n a w ⟨s, β, hI, hr⟩
  refine wp_mono (round n s hI w0 β acts a w hr) ?_
  rintro e a' w' ⟨s', β', hQ, hr'⟩
  cases e with
  | normal =>
    obtain ⟨g', hlt, s'', hw, hI'⟩ := hQ
    obtain ⟨β'', hr''⟩ := hw _ _ _ _ _ hr'
    exact ⟨g', hlt, s'', β'', hI', hr''⟩
  | exit id => exact ⟨s', β', hQ, hr'⟩
  | goto l => exact ⟨s', β', hQ, hr'⟩
  | ret => exact ⟨s', β', hQ, hr'⟩
  | panic ch => exact ⟨s', β', hQ, hr'⟩
  | outgrown => exact ⟨s', β', hQ, hr'⟩
end
end Hm
namespace Hm
open Go Go.RowKit

variable {G : Nat → Option (List PV)} {w0 : World} {β : Nat → Nat} {s : St} {acts : List Act} {a : Act} {w : World}

/-- The general step: the world has gone on, and the call's own blocks with it. -/
theorem Rel.step (hr : Rel G w0 β s acts a w) {β' : Nat → Nat} {H' : List Blk} {w' : World} (hlen : s.H.length ≤ H'.length)
    (hβ : ∀ i, i < s.H.length → β' i = β i) (hbelow : Below w0.heap.size w w')
    (hrow : ∀ (b : Nat) (c : Array Value) (E : TypeId) (fz : Nat × Nat), w.heap[b]? = some (.cells c E fz) → ∃ (c' : Array Value) (fz' : Nat × Nat), w'.heap[b]? = some (.cells c' E fz') ∧ c'.size = c.size)
    (hkeep : ∀ f b, okOf w0 β s.H w f b → w'.heap[b]? = w.heap[b]?) (hok : ∀ f b, okOf w0 β s.H w f b → okOf w0 β' H' w' f b)
    (hge : ∀ i B, H'[i]? = some B → B.live = true → w0.heap.size ≤ β' i) (hlt : ∀ i B, H'[i]? = some B → B.live = true → β' i < w'.heap.size)
    (hinj : ∀ i j B C, H'[i]? = some B → B.live = true → H'[j]? = some C → C.live = true → β' i = β' j → i = j)
    (hblk : ∀ i B, H'[i]? = some B → B.live = true → BlkRel β' H'.length w' (okOf w0 β' H' w') B (β' i)) :
    Rel G w0 β' { s with H := H' } acts a w' where
  below := hr.below.trans hbelow
  nodef := hr.nodef
  sz := hr.sz
  ge := hge
  lt := hlt
  inj := hinj
  blk := hblk
  fr := fun t lv h => (hr.fr t lv h).mono hlen hβ hrow hkeep hok
  up := fun i f h => let ⟨hm, act, h1, h2⟩ := hr.up i f h; ⟨Nat.le_trans hm hlen, act, h1, fun t lv h => (h2 t lv h).mono (Nat.le_refl _) (fun j hj => hβ j (Nat.lt_of_lt_of_le hj hm)) hrow hkeep hok⟩
  gl := hr.gl

theorem Rel.lr_mono (_hr : Rel G w0 β s acts a w) {β' : Nat → Nat} {H' : List Blk} {w' : World} (hlen : s.H.length ≤ H'.length)
    (hβ : ∀ i, i < s.H.length → β' i = β i)
    (hrow : ∀ (b : Nat) (c : Array Value) (E : TypeId) (fz : Nat × Nat), w.heap[b]? = some (.cells c E fz) → ∃ (c' : Array Value) (fz' : Nat × Nat), w'.heap[b]? = some (.cells c' E fz') ∧ c'.size = c.size)
    (hkeep : ∀ f b, okOf w0 β s.H w f b → w'.heap[b]? = w.heap[b]?) (hok : ∀ f b, okOf w0 β s.H w f b → okOf w0 β' H' w' f b) {lv : LV} {v : Value}
    (h : LR β s.H.length w (okOf w0 β s.H w) lv v) : LR β' H'.length w' (okOf w0 β' H' w') lv v := h.mono hlen hβ hrow hkeep hok

/-- A slot is written. -/
theorem Rel.put (hr : Rel G w0 β s acts a w) {t : Nat} {lv : LV} {v : Value} (ht : t < s.n) (h : LR β s.H.length w (okOf w0 β s.H w) lv v) :
    Rel G w0 β { s with fr := (t, lv) :: s.fr } acts (a.put (some t) v) w where
  below := hr.below
  nodef := hr.nodef
  sz := by simpa [Act.put] using hr.sz
  ge := hr.ge
  lt := hr.lt
  inj := hr.inj
  blk := hr.blk
  fr := fun t' lv' h' => by
    simp only [List.lookup_cons] at h'
    by_cases e : t' = t
    · subst e
      simp at h'
      subst h'
      have : t' < a.tmps.size := by rw [hr.sz]; exact ht
      simpa [Act.put, this] using h
    · have e' : (t' == t) = false := by simpa using e
      rw [e'] at h'
      have := hr.fr t' lv' h'
      have e2 : (a.tmps.setIfInBounds t v)[t']? = a.tmps[t']? := by rw [Array.getElem?_setIfInBounds, if_neg (Ne.symm e)]
      simpa [Act.put, e2] using this
  up := hr.up
  gl := hr.gl

/-- A slot may hold whatever it holds; it is not spoken of any more. -/
theorem Rel.putAny (hr : Rel G w0 β s acts a w) {t : Nat} {v : Value} (ht : t < s.n) : Rel G w0 β { s with fr := (t, .dead) :: s.fr } acts (a.put (some t) v) w :=
  hr.put ht (.dead v)

theorem Rel.drewN (hr : Rel G w0 β s acts a w) (n : Nat) : Rel G w0 β s acts a (w.drewN n) := by
  have := hr.step (β' := β) (H' := s.H) (w' := w.drewN n) (Nat.le_refl _) (fun _ _ => rfl) ⟨rfl, rfl, rfl, Nat.le_refl _, fun _ _ => rfl⟩ (fun _ c _ fz h => ⟨c, fz, h, rfl⟩)
    (fun _ _ _ => rfl) (fun _ _ h => h) hr.ge hr.lt hr.inj (fun i B h hl => by
      exact (hr.blk i B h hl).trans rfl fun lv v h6 => LR.mono (β := β) (β' := β) (n := s.H.length) (w := w) (ok := okOf w0 β s.H w) (w' := w.drewN n) (ok' := okOf w0 β s.H (w.drewN n)) (Nat.le_refl _) (fun _ _ => rfl) (fun _ c _ fz h => ⟨c, fz, h, rfl⟩) (fun _ _ _ => rfl) (fun _ _ h => h) h6)
  exact this

/-- The numbering of blocks with one more block. -/
def ext (β : Nat → Nat) (n k : Nat) : Nat → Nat := fun i => if i = n then k else β i
theorem ext_lt {β : Nat → Nat} {n k i : Nat} (h : i < n) : ext β n k i = β i := by unfold ext; rw [if_neg (by omega)]
theorem ext_eq {β : Nat → Nat} {n k : Nat} : ext β n k n = k := by unfold ext; rw [if_pos rfl]

theorem getElem?_snoc {α : Type} {l : List α} {x y : α} {i : Nat} (h : (l ++ [x])[i]? = some y) : (i < l.length ∧ l[i]? = some y) ∨ (i = l.length ∧ y = x) := by
  rw [List.getElem?_append] at h
  split at h
  · exact .inl ⟨‹_›, h⟩
  · right
    have : i - l.length = 0 := by
      rcases Nat.eq_zero_or_pos (i - l.length) with h' | h'
      · exact h'
      · rw [List.getElem?_eq_none (by simp; omega)] at h; cases h
    rw [this] at h
    simp at h
    exact ⟨by omega, h.symm⟩

theorem heap_alloc_lt {w : World} {o : Obj} {k : Nat} (h : k < w.heap.size) : (w.alloc o).heap[k]? = w.heap[k]? := Below.heap_alloc w o k h
theorem lt_of_some {α : Type} {l : Array α} {k : Nat} {o : α} (h : l[k]? = some o) : k < l.size := by
  rcases Nat.lt_or_ge k l.size with h' | h'
  · exact h'
  · simp [Array.getElem?_eq_none h'] at h

theorem row_alloc {w : World} {o : Obj} : ∀ (b : Nat) (c : Array Value) (E : TypeId) (fz : Nat × Nat), w.heap[b]? = some (.cells c E fz) → ∃ (c' : Array Value) (fz' : Nat × Nat), (w.alloc o).heap[b]? = some (.cells c' E fz') ∧ c'.size = c.size :=
  fun b c E fz h => ⟨c, fz, by rw [heap_alloc_lt (lt_of_some h)]; exact h, rfl⟩

/-- A block of the call's own is made. -/
theorem Rel.allocO (hr : Rel G w0 β s acts a w) {B : Blk} (o : Obj) (hB : (w.alloc o).heap[w.heap.size]? = some o → (∀ lv v, LR β s.H.length w (okOf w0 β s.H w) lv v → LR (ext β s.H.length w.heap.size) (s.H ++ [B]).length (w.alloc o) (okOf w0 (ext β s.H.length w.heap.size) (s.H ++ [B]) (w.alloc o)) lv v) →
      BlkRel (ext β s.H.length w.heap.size) (s.H ++ [B]).length (w.alloc o) (okOf w0 (ext β s.H.length w.heap.size) (s.H ++ [B]) (w.alloc o)) B w.heap.size) :
    Rel G w0 (ext β s.H.length w.heap.size) { s with H := s.H ++ [B] } acts a (w.alloc o) ∧
    (∀ lv v, LR β s.H.length w (okOf w0 β s.H w) lv v → LR (ext β s.H.length w.heap.size) (s.H ++ [B]).length (w.alloc o) (okOf w0 (ext β s.H.length w.heap.size) (s.H ++ [B]) (w.alloc o)) lv v) := by
  have hn : (s.H ++ [B]).length = s.H.length + 1 := by simp
  have hkeep : ∀ f b, okOf w0 β s.H w f b → (w.alloc o).heap[b]? = w.heap[b]? := fun f b h => heap_alloc_lt h.1
  have hok : ∀ f b, okOf w0 β s.H w f b → okOf w0 (ext β s.H.length w.heap.size) (s.H ++ [B]) (w.alloc o) f b := fun f b h => by
    refine ⟨by have := h.1; simp; omega, h.2.1, fun i C hi hl => ?_⟩
    rcases getElem?_snoc hi with ⟨h1, h2⟩ | ⟨rfl, rfl⟩
    · rw [ext_lt h1]; exact h.2.2 i C h2 hl
    · rw [ext_eq]; have := h.1; omega
  have hsz : w0.heap.size ≤ w.heap.size := hr.below.size
  have hmono : ∀ lv v, LR β s.H.length w (okOf w0 β s.H w) lv v → LR (ext β s.H.length w.heap.size) (s.H ++ [B]).length (w.alloc o) (okOf w0 (ext β s.H.length w.heap.size) (s.H ++ [B]) (w.alloc o)) lv v :=
    fun lv v h => h.mono (by omega) (fun i hi => ext_lt hi) row_alloc hkeep hok
  refine ⟨hr.step (by omega) (fun i hi => ext_lt hi) ⟨rfl, rfl, rfl, by simp, fun k hk => heap_alloc_lt (by omega)⟩ row_alloc hkeep hok ?_ ?_ ?_ ?_, hmono⟩
  · intro i C hi hl
    rcases getElem?_snoc hi with ⟨h1, h2⟩ | ⟨rfl, rfl⟩
    · rw [ext_lt h1]; exact hr.ge i C h2 hl
    · rw [ext_eq]; exact hsz
  · intro i C hi hl
    rcases getElem?_snoc hi with ⟨h1, h2⟩ | ⟨rfl, rfl⟩
    · rw [ext_lt h1]; have := hr.lt i C h2 hl; simp; omega
    · rw [ext_eq]; simp
  · intro i j C D hi hlC hj hlD he
    rcases getElem?_snoc hi with ⟨h1, h2⟩ | ⟨rfl, rfl⟩
    · rcases getElem?_snoc hj with ⟨h3, h4⟩ | ⟨rfl, rfl⟩
      · rw [ext_lt h1, ext_lt h3] at he; exact hr.inj i j C D h2 hlC h4 hlD he
      · rw [ext_lt h1, ext_eq] at he; have := hr.lt i C h2 hlC; omega
    · rcases getElem?_snoc hj with ⟨h3, h4⟩ | ⟨rfl, rfl⟩
      · rw [ext_lt h3, ext_eq] at he; have := hr.lt j D h4 hlD; omega
      · rfl
  · intro i C hi hl2
    rcases getElem?_snoc hi with ⟨h1, h2⟩ | ⟨rfl, rfl⟩
    · rw [ext_lt h1]
      exact (hr.blk i C h2 hl2).trans (heap_alloc_lt (hr.lt i C h2 hl2)) hmono
    · rw [ext_eq]
      exact hB (by (show (w.heap.push _)[w.heap.size]? = _); simp) hmono

theorem Rel.alloc (hr : Rel G w0 β s acts a w) {B : Blk} {c : Array Value} {E : TypeId} {fz : Nat × Nat} (hfz : FzOk fz c.size) (hR : B.isRow = true)
    (hlc : B.len ≤ c.size) (hB : ∀ i lv, B.get i = some lv → lv.one = true ∧ ∃ v, c[i]? = some v ∧ LR β s.H.length w (okOf w0 β s.H w) lv v) :
    Rel G w0 (ext β s.H.length w.heap.size) { s with H := s.H ++ [B] } acts a (w.alloc (.cells c E fz)) ∧
    (∀ lv v, LR β s.H.length w (okOf w0 β s.H w) lv v → LR (ext β s.H.length w.heap.size) (s.H ++ [B]).length (w.alloc (.cells c E fz)) (okOf w0 (ext β s.H.length w.heap.size) (s.H ++ [B]) (w.alloc (.cells c E fz))) lv v) :=
  hr.allocO (.cells c E fz) fun hh hmono => BlkRow.rel ⟨c, E, fz, hh, hfz, hlc, fun j lv hj => let ⟨h0, v, h7, h8⟩ := hB j lv hj; ⟨h0, v, h7, hmono _ _ h8⟩⟩ hR

/-- Some other block is made (a callee's, or one that nobody speaks of). -/
theorem Rel.allocAny (hr : Rel G w0 β s acts a w) (o : Obj) : Rel G w0 β s acts a (w.alloc o) := by
  have hok : ∀ f b, okOf w0 β s.H w f b → okOf w0 β s.H (w.alloc o) f b := fun f b h => ⟨by have := h.1; simp; omega, h.2⟩
  have hkeep : ∀ f b, okOf w0 β s.H w f b → (w.alloc o).heap[b]? = w.heap[b]? := fun f b h => heap_alloc_lt h.1
  have hsz : w0.heap.size ≤ w.heap.size := hr.below.size
  have := hr.step (β' := β) (H' := s.H) (w' := w.alloc o) (Nat.le_refl _) (fun _ _ => rfl) ⟨rfl, rfl, rfl, by simp, fun k hk => heap_alloc_lt (by omega)⟩ row_alloc
    hkeep hok hr.ge (fun i B h hl => by have := hr.lt i B h hl; simp; omega) hr.inj (fun i B h hl => by
      exact (hr.blk i B h hl).trans (heap_alloc_lt (hr.lt i B h hl)) fun lv v h6 => h6.mono (Nat.le_refl _) (fun _ _ => rfl) row_alloc hkeep hok)
  exact this

/-- A row's mark behind its last cell. -/
theorem Rel.freeze (hr : Rel G w0 β s acts a w) {b : Nat} {B : Blk} {c : Array Value} {E : TypeId} {fz : Nat × Nat} (hB : s.H[b]? = some B) (hl : B.live = true) (hR : B.isRow = true) (hh : w.heap[β b]? = some (.cells c E fz)) (_k : Option Addr → Nat) :
    Rel G w0 β s acts a (w.freeze { block := β b, off := c.size } 1) ∧ ∀ lv v, LR β s.H.length w (okOf w0 β s.H w) lv v → LR β s.H.length (w.freeze { block := β b, off := c.size } 1) (okOf w0 β s.H (w.freeze { block := β b, off := c.size } 1)) lv v := by
  have hfz : ∀ fz' : Nat × Nat, fz' = (if fz.1 == fz.2 then (c.size, c.size + 1) else (min fz.1 c.size, max fz.2 (c.size + 1))) → FzOk fz c.size → FzOk fz' c.size := fun fz' e h => by
    subst e
    by_cases h0 : fz.1 = fz.2
    · rw [if_pos (by simpa using h0)]; exact .inr (Nat.le_refl _)
    · rw [if_neg (by simpa using h0)]
      rcases h with h | h
      · exact absurd h h0
      · exact .inr (by simp only; omega)
  obtain ⟨c0, E0, fz0, h1, h2, h3, h4⟩ := (hr.blk b B hB hl).row hR
  rw [hh] at h1
  simp only [Option.some.injEq, Obj.cells.injEq] at h1
  obtain ⟨rfl, rfl, rfl⟩ := h1
  generalize hw' : w.freeze { block := β b, off := c.size } 1 = w'
  have hheap : w'.heap = w.heap.modify (β b) fun
      | .cells c' elem (lo, hi) => .cells c' elem (if lo == hi then (c.size, c.size + 1) else (min lo c.size, max hi (c.size + 1)))
      | o => o := by rw [← hw']; rfl
  have hsz : w'.heap.size = w.heap.size := by rw [hheap]; simp
  have hne : ∀ j, j ≠ β b → w'.heap[j]? = w.heap[j]? := fun j hj => by rw [hheap, Array.getElem?_modify, if_neg (fun e => hj e.symm)]
  have heq : ∃ fz', w'.heap[β b]? = some (.cells c E fz') ∧ FzOk fz' c.size := by
    refine ⟨_, ?_, hfz _ rfl h2⟩
    rw [hheap, Array.getElem?_modify, if_pos rfl, hh]
    rfl
  obtain ⟨fz', heq, hfz'⟩ := heq
  have hbelow : Below w0.heap.size w w' := by
    refine ⟨?_, ?_, ?_, Nat.le_of_eq hsz.symm, fun j hj => hne j ?_⟩
    · rw [← hw']; rfl
    · rw [← hw']; rfl
    · rw [← hw']; rfl
    · have := hr.ge b B hB hl; omega
  have hkeep : ∀ f j, okOf w0 β s.H w f j → w'.heap[j]? = w.heap[j]? := fun f j hj => hne j fun e => hj.2.2 b B hB hl e.symm
  have hok : ∀ f j, okOf w0 β s.H w f j → okOf w0 β s.H w' f j := fun f j hj => ⟨by rw [hsz]; exact hj.1, hj.2.1, hj.2.2⟩
  have hrow : ∀ (j : Nat) (d : Array Value) (F : TypeId) (gz : Nat × Nat), w.heap[j]? = some (.cells d F gz) → ∃ (d' : Array Value) (gz' : Nat × Nat), w'.heap[j]? = some (.cells d' F gz') ∧ d'.size = d.size := fun j d F gz h => by
    by_cases e : j = β b
    · subst e
      rw [hh] at h
      simp only [Option.some.injEq, Obj.cells.injEq] at h
      obtain ⟨rfl, rfl, rfl⟩ := h
      exact ⟨c, fz', heq, rfl⟩
    · exact ⟨d, gz, by rw [hne j e]; exact h, rfl⟩
  have hmono : ∀ lv v, LR β s.H.length w (okOf w0 β s.H w) lv v → LR β s.H.length w' (okOf w0 β s.H w') lv v := fun lv v h => h.mono (Nat.le_refl _) (fun _ _ => rfl) hrow hkeep hok
  refine ⟨hr.step (Nat.le_refl _) (fun _ _ => rfl) hbelow hrow hkeep hok hr.ge (fun i C hi hl => by rw [hsz]; exact hr.lt i C hi hl) hr.inj ?_, hmono⟩
  intro i C hi hlC
  by_cases e : β i = β b
  · have := hr.inj i b C B hi hlC hB hl e
    subst this
    rw [hB] at hi
    simp only [Option.some.injEq] at hi
    subst hi
    exact BlkRow.rel ⟨c, E, fz', heq, hfz', h3, fun j lv hj => let ⟨h5, v, h6, h7⟩ := h4 j lv hj; ⟨h5, v, h6, hmono _ _ h7⟩⟩ hR
  · exact (hr.blk i C hi hlC).trans (hne _ e) hmono

theorem heap_setCells_other (b : Nat) : ∀ (vs : List Value) (o : Nat) (w : World) (k : Nat), k ≠ b → (w.setCells b o vs).heap[k]? = w.heap[k]?
  | [], _, _, _, _ => rfl
  | v :: r, o, w, k, h => by rw [World.setCells, heap_setCells_other b r (o + 1) _ k h]; exact Below.heap_setCell _ _ _ _ h

theorem size_setCells (b : Nat) : ∀ (vs : List Value) (o : Nat) (w : World), (w.setCells b o vs).heap.size = w.heap.size
  | [], _, _ => rfl
  | v :: r, o, w => by rw [World.setCells, size_setCells b r]; simp

theorem heap_setCells (b : Nat) : ∀ (vs : List Value) (o : Nat) (w : World) (c : Array Value) (E : TypeId) (fz : Nat × Nat), w.heap[b]? = some (.cells c E fz) →
    ∃ c' : Array Value, (w.setCells b o vs).heap[b]? = some (.cells c' E fz) ∧ c'.size = c.size ∧ ∀ i, i < c.size → c'[i]? = if o ≤ i ∧ i < o + vs.length then vs[i - o]? else c[i]?
  | [], o, w, c, E, fz, h => ⟨c, h, rfl, fun i _ => by rw [if_neg (by simp)]⟩
  | v :: r, o, w, c, E, fz, h => by
    have h1 : (w.setCell ⟨b, o, none⟩ v).heap[b]? = some (.cells (c.setIfInBounds o v) E fz) := by simp only [World.setCell, Array.getElem?_modify, if_true, h, Option.map_some]; simp
    obtain ⟨c', h2, h3, h4⟩ := heap_setCells b r (o + 1) _ _ E fz h1
    refine ⟨c', h2, by simpa using h3, fun i hi => ?_⟩
    rw [h4 i (by simpa using hi)]
    by_cases e : i = o
    · subst e
      rw [if_neg (by omega), if_pos (by simp), Array.getElem?_setIfInBounds]
      simp [hi]
    · by_cases e2 : o + 1 ≤ i ∧ i < o + 1 + r.length
      · rw [if_pos e2, if_pos (by simp; omega)]
        rw [show i - o = (i - (o + 1)) + 1 by omega, List.getElem?_cons_succ]
      · rw [if_neg e2, if_neg (by simp; omega), Array.getElem?_setIfInBounds, if_neg (by omega)]

theorem below_setCells {B b : Nat} {o : Nat} {vs : List Value} (h : B ≤ b) : Below B w (w.setCells b o vs) := by
  induction vs generalizing o w with
  | nil => exact Below.refl _ _
  | cons v r ih => rw [World.setCells]; exact (Below.setCell (Below.refl _ _) h v).trans ih

theorem Blk.get_lt {B : Blk} {i : Nat} {lv : LV} (h : B.get i = some lv) : i < B.len := by
  cases B with
  | p c =>
    simp only [Blk.get, Option.map_eq_some_iff] at h
    obtain ⟨x, h1, _⟩ := h
    exact (List.getElem?_eq_some_iff.1 h1).1
  | n c =>
    simp only [Blk.get, Option.map_eq_some_iff] at h
    obtain ⟨x, h1, _⟩ := h
    exact (List.getElem?_eq_some_iff.1 h1).1
  | l c => exact (List.getElem?_eq_some_iff.1 h).1
  | m _ => cases h
  | gone => cases h

/-- Cells of a block of the call's own are written. -/
theorem Rel.store (hr : Rel G w0 β s acts a w) {b o : Nat} {B B' : Blk} {vs : List Value} {lvs : List LV} (hB : s.H[b]? = some B) (hl : B.live = true) (hl' : B'.live = true) (hR : B.isRow = true) (hR' : B'.isRow = true)
    (hsz : ∀ c E fz, w.heap[β b]? = some (.cells c E fz) → B'.len ≤ c.size) 
    (hget : ∀ i, i < B'.len → B'.get i = if o ≤ i ∧ i < o + vs.length then lvs[i - o]? else B.get i)
    (hone : ∀ (i : Nat) lv, lvs[i]? = some lv → lv.one = true) (hlv : ∀ (i : Nat) lv v, lvs[i]? = some lv → vs[i]? = some v → LR β s.H.length w (okOf w0 β s.H w) lv v) :
    Rel G w0 β { s with H := s.H.set b B' } acts a (w.setCells (β b) o vs) := by
  obtain ⟨c, E, fz, h1, h2, h3, h4⟩ := (hr.blk b B hB hl).row hR
  obtain ⟨c', h5, h6, h7⟩ := heap_setCells (β b) vs o w c E fz h1
  have hbl : b < s.H.length := by
    rcases Nat.lt_or_ge b s.H.length with h | h
    · exact h
    · rw [List.getElem?_eq_none h] at hB; cases hB
  have hset : ∀ i C, (s.H.set b B')[i]? = some C → (i = b ∧ C = B') ∨ (i ≠ b ∧ s.H[i]? = some C) := fun i C h => by
    by_cases e : b = i
    · subst e; rw [List.getElem?_set_self hbl] at h; exact .inl ⟨rfl, by simpa using h.symm⟩
    · rw [List.getElem?_set_ne e] at h; exact .inr ⟨Ne.symm e, h⟩
  have hok' : ∀ f k, okOf w0 β s.H w f k → k ≠ β b := fun f k hk e => hk.2.2 b B hB hl e.symm
  have hkeep : ∀ f k, okOf w0 β s.H w f k → (w.setCells (β b) o vs).heap[k]? = w.heap[k]? := fun f k hk => heap_setCells_other _ _ _ _ _ (hok' f k hk)
  have hok : ∀ f k, okOf w0 β s.H w f k → okOf w0 β (s.H.set b B') (w.setCells (β b) o vs) f k := fun f k hk => by
    refine ⟨by rw [size_setCells]; exact hk.1, hk.2.1, fun i C hi hlC => ?_⟩
    rcases hset i C hi with ⟨rfl, rfl⟩ | ⟨_, h⟩
    · exact hk.2.2 _ B hB hl
    · exact hk.2.2 i C h hlC
  have hrow : ∀ (k : Nat) (d : Array Value) (F : TypeId) (gz : Nat × Nat), w.heap[k]? = some (.cells d F gz) → ∃ (d' : Array Value) (gz' : Nat × Nat), (w.setCells (β b) o vs).heap[k]? = some (.cells d' F gz') ∧ d'.size = d.size := fun k d F gz h => by
    by_cases e : k = β b
    · subst e
      rw [h1] at h
      simp only [Option.some.injEq, Obj.cells.injEq] at h
      obtain ⟨rfl, rfl, rfl⟩ := h
      exact ⟨c', fz, h5, h6⟩
    · exact ⟨d, gz, by rw [heap_setCells_other _ _ _ _ _ e]; exact h, rfl⟩
  have hmono : ∀ lv v, LR β s.H.length w (okOf w0 β s.H w) lv v → LR β (s.H.set b B').length (w.setCells (β b) o vs) (okOf w0 β (s.H.set b B') (w.setCells (β b) o vs)) lv v :=
    fun lv v h => h.mono (by simp) (fun _ _ => rfl) hrow hkeep hok
  refine hr.step (by simp) (fun _ _ => rfl) (below_setCells (hr.ge b B hB hl)) hrow hkeep hok ?_ ?_ ?_ ?_
  · intro i C hi hlC
    rcases hset i C hi with ⟨rfl, rfl⟩ | ⟨_, h⟩
    · exact hr.ge _ B hB hl
    · exact hr.ge i C h hlC
  · intro i C hi hlC
    rw [size_setCells]
    rcases hset i C hi with ⟨rfl, rfl⟩ | ⟨_, h⟩
    · exact hr.lt _ B hB hl
    · exact hr.lt i C h hlC
  · intro i j C D hi hlC hj hlD he
    rcases hset i C hi with ⟨rfl, rfl⟩ | ⟨_, h⟩
    · rcases hset j D hj with ⟨rfl, rfl⟩ | ⟨_, h'⟩
      · rfl
      · exact hr.inj _ j B D hB hl h' hlD he
    · rcases hset j D hj with ⟨rfl, rfl⟩ | ⟨_, h'⟩
      · exact hr.inj i _ C B h hlC hB hl he
      · exact hr.inj i j C D h hlC h' hlD he
  · intro i C hi hlC
    rcases hset i C hi with ⟨rfl, rfl⟩ | ⟨hne, h⟩
    · refine BlkRow.rel (n := _) (hB := hR') ⟨c', E, fz, h5, by rw [h6]; exact h2, by rw [h6]; exact hsz c E fz h1, fun j lv hj => ?_⟩
      have hjl := Blk.get_lt hj
      have hszc := hsz c E fz h1
      rw [h7 j (by omega)]
      rw [hget j hjl] at hj
      by_cases e : o ≤ j ∧ j < o + vs.length
      · rw [if_pos e] at hj ⊢
        have : j - o < vs.length := by omega
        refine ⟨hone _ _ hj, vs[j - o], by simp [this], ?_⟩
        exact hmono _ _ (hlv (j - o) lv _ hj (by simp [this]))
      · rw [if_neg e] at hj ⊢
        obtain ⟨h0, v, h8, h9⟩ := h4 j lv hj
        exact ⟨h0, v, h8, hmono _ _ h9⟩
    · have hne' : β i ≠ β b := fun e => hne (hr.inj i b C B h hlC hB hl e)
      exact (hr.blk i C h hlC).trans (heap_setCells_other _ _ _ _ _ hne') hmono
end Hm
namespace Hm
open Go Go.RowKit

/-- What is known of a type. -/
structure TI where
  und : TypeDesc
  size : Nat
  bytes : Nat
  zero : List PV
  eqok : Bool

def PV.flat : PV → Option Value
  | .int k n => some (.int k n)
  | .bool b => some (.bool b)
  | .str s => some (.string s)
  | .nil => some (.slice none 0 0)
  | .nilp => some (.pointer none)
  | .nilif => some .nilIface
  | .nilfn => some .nilFunc
  | .nilmap => some (.map none)
  | _ => none

def isAggD : TypeDesc → Bool
  | .struct _ | .array _ _ => true
  | _ => false

def zeroIs (i : TI) (z : Value) : Bool :=
  match i.zero.mapM PV.flat with
  | none => false
  | some vs => if isAggD i.und then (match z with | .agg cs => decide (cs.size = vs.length) | _ => false) else decide (vs.length = 1)

structure TOk1 (P : Program) (t : TypeId) (i : TI) : Prop where
  und : P.underlying t = some i.und
  info : ∃ inf z vs, P.info? t = some inf ∧ inf.size = i.size ∧ inf.bytes = i.bytes ∧ inf.zero = some z ∧ i.zero.mapM PV.flat = some vs ∧ z = (if isAggD i.und then .agg vs.toArray else vs.headD undef) ∧ vs.length = i.size ∧ (isAggD i.und = false → i.size = 1) ∧ 0 < i.size
  eqok : i.eqok = true → P.stoodInHeld t = false ∧ P.eqGuardType P.depth t = false ∧ ∀ fs, i.und = .struct fs → ∀ f ∈ fs.toList, f.name ≠ "_"
def TOk (P : Program) (T : TypeId → Option TI) : Prop := ∀ t i, T t = some i → TOk1 P t i

theorem flat_imm {w : World} {ok : Bool → Nat → Prop} {p : PV} {v : Value} (h : p.flat = some v) : Imm w ok p v := by
  cases p <;> simp [PV.flat] at h <;> subst h <;> constructor

theorem flat_one {p : PV} {v : Value} (h : p.flat = some v) : v.oneCell' = true := by
  cases p <;> simp [PV.flat] at h <;> subst h <;> rfl

def ofConst : Value → LV
  | .int k n => .pv (.int k n)
  | .bool b => .pv (.bool b)
  | .string s => .pv (.str s)
  | .slice none 0 0 => .pv .nil
  | .pointer none => .pv .nilp
  | .nilIface => .pv .nilif
  | .nilFunc => .pv .nilfn
  | .map none => .pv .nilmap
  | _ => .dead

def slot (fr : List (Nat × LV)) (t : Nat) : LV := (fr.lookup t).getD .dead

def St.ev (G : Nat → Option (List PV)) (s : St) : Operand → LV
  | .tmp t => slot s.fr t
  | .const v => ofConst v
  | .global g => match G g with | some cs => .pv (.ip true cs 0) | none => .dead
  | .func f => .pv (.fn f [])

section
variable {P : Program} {G : Nat → Option (List PV)} {w0 : World} {β : Nat → Nat} {s : St} {acts : List Act} {a : Act} {w : World}

theorem ofConst_rel {n : Nat} {ok : Bool → Nat → Prop} (v : Value) : LR β n w ok (ofConst v) v := by
  unfold ofConst
  split <;> first | exact .pv (by constructor) | exact .dead _

theorem Rel.old_ok (hr : Rel G w0 β s acts a w) {b : Nat} (h : b < w0.heap.size) : okOf w0 β s.H w true b :=
  ⟨Nat.lt_of_lt_of_le h hr.below.size, (fun h => by cases h), fun i B hi hl => by have := hr.ge i B hi hl; omega⟩

theorem Rel.old (hr : Rel G w0 β s acts a w) {p : PV} {v : Value} (h : Imm w0 (fun f b => f = true ∧ b < w0.heap.size) p v) : Imm w (okOf w0 β s.H w) p v :=
  h.mono (fun _ b hb => hr.below.block b hb.2) (fun f _ hb => by obtain ⟨rfl, hb⟩ := hb; exact hr.old_ok hb)

theorem Rel.slot (hr : Rel G w0 β s acts a w) (t : Nat) : LR β s.H.length w (okOf w0 β s.H w) (Hm.slot s.fr t) (a.tmps.getD t undef) := by
  unfold Hm.slot
  cases h : s.fr.lookup t with
  | none => exact .dead _
  | some lv => exact hr.fr t lv h

theorem Rel.ev (hr : Rel G w0 β s acts a w) (x : Operand) : LR β s.H.length w (okOf w0 β s.H w) (s.ev G x) (a.eval x) := by
  cases x with
  | tmp t => exact hr.slot t
  | const v => exact ofConst_rel v
  | global g =>
    simp only [St.ev, Act.eval]
    cases h : G g with
    | none => exact .dead _
    | some cs => exact .pv (hr.old (hr.gl g cs h))
  | func f => exact .pv (.fn f [] #[] rfl (by simp))

/-! ### Numbers, bools, strings -/
def pshift (op : BinOp) (k : IntKind) (a b : Int) : Option PV :=
  if b < 0 then none else
  match op with
  | .shl => some (.int k (k.wrap (a * 2 ^ (min b.toNat k.bits))))
  | .shr => some (.int k (a.fdiv (2 ^ (min b.toNat k.bits))))
  | _ => none

def ibits (op : BinOp) (k : IntKind) (a b : Int) : Int :=
  k.wrap ((match op with
    | .and => BitVec.ofInt k.bits a &&& BitVec.ofInt k.bits b
    | .or => BitVec.ofInt k.bits a ||| BitVec.ofInt k.bits b
    | .xor => BitVec.ofInt k.bits a ^^^ BitVec.ofInt k.bits b
    | _ => BitVec.ofInt k.bits a &&& ~~~ BitVec.ofInt k.bits b).toNat)

def pint (op : BinOp) (k : IntKind) (a b : Int) : Option PV :=
  match op with
  | .add => some (.int k (k.wrap (a + b)))
  | .sub => some (.int k (k.wrap (a - b)))
  | .mul => some (.int k (k.wrap (a * b)))
  | .quo => if b = 0 then none else some (.int k (k.wrap (a.tdiv b)))
  | .rem => if b = 0 then none else some (.int k (a.tmod b))
  | .and => some (.int k (ibits .and k a b))
  | .or => some (.int k (ibits .or k a b))
  | .xor => some (.int k (ibits .xor k a b))
  | .andNot => some (.int k (ibits .andNot k a b))
  | .eql => some (.bool (a == b))
  | .neq => some (.bool (a != b))
  | .lss => some (.bool (decide (a < b)))
  | .leq => some (.bool (decide (a ≤ b)))
  | .gtr => some (.bool (decide (a > b)))
  | .geq => some (.bool (decide (a ≥ b)))
  | _ => none

def pstr (op : BinOp) (a b : ByteArray) : Option PV :=
  match op with
  | .add => if ((a.size + b.size : Nat) : Int) > IntKind.i64.max then none else some (.str (a ++ b))
  | .eql => some (.bool (a.toList == b.toList))
  | .neq => some (.bool !(a.toList == b.toList))
  | .lss => some (.bool (Op.bytesLess a.toList b.toList))
  | .leq => some (.bool (Op.bytesLess a.toList b.toList || a.toList == b.toList))
  | .gtr => some (.bool !(Op.bytesLess a.toList b.toList || a.toList == b.toList))
  | .geq => some (.bool !(Op.bytesLess a.toList b.toList))
  | _ => none

def isShift : BinOp → Bool
  | .shl | .shr => true
  | _ => false

/-- Numbers, bools, strings; a slice against nil. -/
def pbin (d : TypeDesc) (op : BinOp) (x y : LV) : Option PV :=
  match x, y with
  | .pv (.int k a), .pv (.int k' b) => if isShift op then pshift op k a b else if k = k' then pint op k a b else none
  | .pv (.str a), .pv (.str b) => pstr op a b
  | .pv (.bool a), .pv (.bool b) => match d, op with
    | .bool, .eql => some (.bool (a == b))
    | .bool, .neq => some (.bool (!(a == b)))
    | _, _ => none
  | .pv .nil, .pv .nil => match d, op with
    | .slice _, .eql => some (.bool true)
    | .slice _, .neq => some (.bool false)
    | _, _ => none
  | .pv (.sl _ _ _), .pv .nil | .ref _ _ _ _, .pv .nil | .pv .nil, .pv (.sl _ _ _) | .pv .nil, .ref _ _ _ _ => match d, op with
    | .slice _, .eql => some (.bool false)
    | .slice _, .neq => some (.bool true)
    | _, _ => none
  | .pv (.nsl _ _ n), .pv .nil | .pv .nil, .pv (.nsl _ _ n) => match d, op with
    | .slice _, .eql => some (.bool (n == 0))
    | .slice _, .neq => some (.bool (n != 0))
    | _, _ => none
  | _, _ => none

theorem imm_int {w : World} {ok : Bool → Nat → Prop} {k : IntKind} {n : Int} {v : Value} (h : Imm w ok (.int k n) v) : v = .int k n := by cases h; rfl

theorem run_eqGuard_plain (op : BinOp) (t : TypeId) (x y : Operand) (a b : Value) (h : a.oneCell' = true) (h' : a ≠ .nilIface) : (eqGuard op t x y a b).run P w = .ok () w := by
  unfold eqGuard
  cases op <;> first
    | rfl
    | (cases a <;> first | rfl | simp_all [Value.oneCell'])

theorem run_under {t : TypeId} {d : TypeDesc} (h : P.underlying t = some d) : (underlying t).run P w = .ok d w := by simp [underlying, h]

theorem run_binOp_int {op : BinOp} {t : TypeId} {k k' : IntKind} {n m : Int} {p : PV} (h : (if isShift op then pshift op k n m else if k = k' then pint op k n m else none) = some p) :
    ∃ v, (binOp op t (.int k n) (.int k' m)).run P w = .ok v w ∧ p.flat = some v := by
  by_cases hs : isShift op = true
  · rw [if_pos hs] at h
    unfold pshift at h
    by_cases hm : m < 0
    · rw [if_pos hm] at h; cases h
    · rw [if_neg hm] at h
      cases op <;> simp [isShift] at hs <;> simp at h <;> subst h <;> simp [binOp, Op.shift, hm, PV.flat]
  · rw [if_neg hs] at h
    by_cases hk : k = k'
    · subst hk
      rw [if_pos rfl] at h
      cases op <;> simp [isShift] at hs <;> simp [pint] at h <;> (try (obtain ⟨hm, h⟩ := h)) <;> (try subst h) <;>
        simp [binOp, Op.intArith, Op.intDiv, Op.intBits, Op.intCmp, PV.flat, ibits, *]
    · rw [if_neg hk] at h; cases h

theorem run_binOp_str {op : BinOp} {t : TypeId} {x y : ByteArray} {p : PV} (h : pstr op x y = some p) :
    ∃ v, (binOp op t (.string x) (.string y)).run P w = .ok v w ∧ p.flat = some v := by
  cases op <;> simp only [pstr] at h <;> (try (cases h; done))
  case add =>
    split at h
    · cases h
    · rename_i hn
      simp only [Option.some.injEq] at h
      subst h
      exact ⟨.string (x ++ y), by simp only [binOp, Op.stringOp]; rw [if_neg hn]; rfl, rfl⟩
  all_goals
    simp only [Option.some.injEq] at h
    subst h
    exact ⟨_, by simp [binOp, Op.stringOp], rfl⟩

theorem equal_eq (t : TypeId) (x y : Value) : Op.equal t x y = Op.equalIn (9999 + 1) t x y := rfl

theorem run_eql_of {t : TypeId} {x y : Value} {b : Bool} (h : (Op.equal t x y).run P w = .ok b w)
    (he : binOp .eql t x y = (do pure (.bool (← Op.equal t x y)))) : (binOp .eql t x y).run P w = .ok (.bool b) w := by
  rw [he, Sem.run_bind, h]; rfl
theorem run_neq_of {t : TypeId} {x y : Value} {b : Bool} (h : (Op.equal t x y).run P w = .ok b w)
    (he : binOp .neq t x y = (do pure (.bool (!(← Op.equal t x y))))) : (binOp .neq t x y).run P w = .ok (.bool !b) w := by
  rw [he, Sem.run_bind, h]; rfl

theorem run_equal_bool {t : TypeId} (hu : P.underlying t = some .bool) (x y : Bool) : (Op.equal t (.bool x) (.bool y)).run P w = .ok (x == y) w := by
  rw [equal_eq, Op.equalIn, Sem.run_bind, run_under hu]; rfl
theorem run_equal_nil {t e : TypeId} (hu : P.underlying t = some (.slice e)) : (Op.equal t (.slice none 0 0) (.slice none 0 0)).run P w = .ok true w := by
  rw [equal_eq, Op.equalIn, Sem.run_bind, run_under hu]; rfl
theorem run_equal_sl_nil {t e : TypeId} (hu : P.underlying t = some (.slice e)) (x : Addr) (n m : Nat) : (Op.equal t (.slice (some x) n m) (.slice none 0 0)).run P w = .ok false w := by
  rw [equal_eq, Op.equalIn, Sem.run_bind, run_under hu]; rfl
theorem run_equal_nil_sl {t e : TypeId} (hu : P.underlying t = some (.slice e)) (x : Addr) (n m : Nat) : (Op.equal t (.slice none 0 0) (.slice (some x) n m)).run P w = .ok false w := by
  rw [equal_eq, Op.equalIn, Sem.run_bind, run_under hu]; rfl

theorem sl_form {f : Bool} {ok : Bool → Nat → Prop} {cs : List PV} {l : Nat} {v : Value} (h : Imm w ok (.sl f cs l) v) : ∃ x m, v = .slice (some x) l m := by cases h <;> exact ⟨_, _, rfl⟩
theorem ref_form {n : Nat} {ok : Bool → Nat → Prop} {b o l e : Nat} {v : Value} (h : LR β n w ok (.ref b o l e) v) : ∃ x m, v = .slice (some x) l m := by cases h <;> exact ⟨_, _, rfl⟩

theorem nsl_form {f : Bool} {ok : Bool → Nat → Prop} {cs : List PV} {l : Nat} {v : Value} (h : Imm w ok (.nsl f cs l) v) : (l = 0 ∧ v = .slice none 0 0) ∨ (l ≠ 0 ∧ ∃ x m, v = .slice (some x) l m) := by
  cases h with
  | nsl0 => exact .inl ⟨rfl, rfl⟩
  | nsl _ _ _ _ h0 h => exact .inr ⟨by omega, sl_form h⟩
theorem pbin_sound {op : BinOp} {t : TypeId} {d : TypeDesc} {x y : Operand} {lx ly : LV} {vx vy : Value} {n : Nat} {ok : Bool → Nat → Prop} {p : PV} (hu : P.underlying t = some d)
    (hx : LR β n w ok lx vx) (hy : LR β n w ok ly vy) (h : pbin d op lx ly = some p) :
    ∃ v, (do eqGuard op t x y vx vy; binOp op t vx vy).run P w = .ok v w ∧ p.flat = some v := by
  have key : ∀ (vx : Value), vx.oneCell' = true → vx ≠ .nilIface → ∀ v, (binOp op t vx vy).run P w = .ok v w → (do eqGuard op t x y vx vy; binOp op t vx vy).run P w = .ok v w := fun vx h1 h2 v h3 => by
    rw [Sem.run_bind, run_eqGuard_plain op t x y vx vy h1 h2]
    exact h3
  unfold pbin at h
  split at h
  · rename_i k n k' m
    cases hx with | pv hx => cases hy with | pv hy =>
    cases hx; cases hy
    obtain ⟨v, h1, h2⟩ := run_binOp_int (P := P) (w := w) (t := t) h
    exact ⟨v, key _ rfl (by simp) _ h1, h2⟩
  · cases hx with | pv hx => cases hy with | pv hy =>
    cases hx; cases hy
    obtain ⟨v, h1, h2⟩ := run_binOp_str (P := P) (w := w) (t := t) h
    exact ⟨v, key _ rfl (by simp) _ h1, h2⟩
  · cases hx with | pv hx => cases hy with | pv hy =>
    cases hx; cases hy
    split at h
    · simp only [Option.some.injEq] at h; subst h
      exact ⟨_, key _ rfl (by simp) _ (run_eql_of (run_equal_bool hu _ _) rfl), rfl⟩
    · simp only [Option.some.injEq] at h; subst h
      exact ⟨_, key _ rfl (by simp) _ (run_neq_of (run_equal_bool hu _ _) rfl), rfl⟩
    · cases h
  · cases hx with | pv hx => cases hy with | pv hy =>
    cases hx; cases hy
    split at h
    · simp only [Option.some.injEq] at h; subst h
      exact ⟨_, key _ rfl (by simp) _ (run_eql_of (run_equal_nil hu) rfl), rfl⟩
    · simp only [Option.some.injEq] at h; subst h
      exact ⟨_, key _ rfl (by simp) _ (run_neq_of (run_equal_nil hu) rfl), rfl⟩
    · cases h
  · cases hx with | pv hx => cases hy with | pv hy =>
    obtain ⟨x1, m1, rfl⟩ := sl_form hx; cases hy
    split at h
    · simp only [Option.some.injEq] at h; subst h
      exact ⟨_, key _ rfl (by simp) _ (run_eql_of (run_equal_sl_nil hu _ _ _) rfl), rfl⟩
    · simp only [Option.some.injEq] at h; subst h
      exact ⟨_, key _ rfl (by simp) _ (run_neq_of (run_equal_sl_nil hu _ _ _) rfl), rfl⟩
    · cases h
  · obtain ⟨x1, m1, rfl⟩ := ref_form hx
    cases hy with | pv hy =>
    cases hy
    split at h
    · simp only [Option.some.injEq] at h; subst h
      exact ⟨_, key _ rfl (by simp) _ (run_eql_of (run_equal_sl_nil hu _ _ _) rfl), rfl⟩
    · simp only [Option.some.injEq] at h; subst h
      exact ⟨_, key _ rfl (by simp) _ (run_neq_of (run_equal_sl_nil hu _ _ _) rfl), rfl⟩
    · cases h
  · cases hx with | pv hx => cases hy with | pv hy =>
    obtain ⟨x1, m1, rfl⟩ := sl_form hy; cases hx
    split at h
    · simp only [Option.some.injEq] at h; subst h
      exact ⟨_, key _ rfl (by simp) _ (run_eql_of (run_equal_nil_sl hu _ _ _) rfl), rfl⟩
    · simp only [Option.some.injEq] at h; subst h
      exact ⟨_, key _ rfl (by simp) _ (run_neq_of (run_equal_nil_sl hu _ _ _) rfl), rfl⟩
    · cases h
  · obtain ⟨x1, m1, rfl⟩ := ref_form hy
    cases hx with | pv hx =>
    cases hx
    split at h
    · simp only [Option.some.injEq] at h; subst h
      exact ⟨_, key _ rfl (by simp) _ (run_eql_of (run_equal_nil_sl hu _ _ _) rfl), rfl⟩
    · simp only [Option.some.injEq] at h; subst h
      exact ⟨_, key _ rfl (by simp) _ (run_neq_of (run_equal_nil_sl hu _ _ _) rfl), rfl⟩
    · cases h
  · cases hx with | pv hx => cases hy with | pv hy =>
    cases hy
    rcases nsl_form hx with ⟨rfl, rfl⟩ | ⟨h0, x1, m1, rfl⟩
    all_goals
      split at h
      · simp only [Option.some.injEq] at h; subst h
        first
          | exact ⟨_, key _ rfl (by simp) _ (run_eql_of (run_equal_nil hu) rfl), rfl⟩
          | exact ⟨_, key _ rfl (by simp) _ (run_eql_of (run_equal_sl_nil hu _ _ _) rfl), by simp [PV.flat, h0]⟩
      · simp only [Option.some.injEq] at h; subst h
        first
          | exact ⟨_, key _ rfl (by simp) _ (run_neq_of (run_equal_nil hu) rfl), rfl⟩
          | exact ⟨_, key _ rfl (by simp) _ (run_neq_of (run_equal_sl_nil hu _ _ _) rfl), by simp [PV.flat, h0]⟩
      · cases h
  · cases hx with | pv hx => cases hy with | pv hy =>
    cases hx
    rcases nsl_form hy with ⟨rfl, rfl⟩ | ⟨h0, x1, m1, rfl⟩
    all_goals
      split at h
      · simp only [Option.some.injEq] at h; subst h
        first
          | exact ⟨_, key _ rfl (by simp) _ (run_eql_of (run_equal_nil hu) rfl), rfl⟩
          | exact ⟨_, key _ rfl (by simp) _ (run_eql_of (run_equal_nil_sl hu _ _ _) rfl), by simp [PV.flat, h0]⟩
      · simp only [Option.some.injEq] at h; subst h
        first
          | exact ⟨_, key _ rfl (by simp) _ (run_neq_of (run_equal_nil hu) rfl), rfl⟩
          | exact ⟨_, key _ rfl (by simp) _ (run_neq_of (run_equal_nil_sl hu _ _ _) rfl), by simp [PV.flat, h0]⟩
      · cases h
  · cases h
end
end Hm
namespace Hm
open Go Go.RowKit

def LV.toPV : LV → Option PV
  | .pv p => some p
  | _ => none
def mkAgg (cs : List LV) : LV := match cs.mapM LV.toPV with | some ps => .pv (.agg ps) | none => .agg cs
def prd (cs : List PV) (agg : Bool) (off size : Nat) : Option PV :=
  if agg then (if off + size ≤ cs.length then some (.agg ((cs.drop off).take size)) else none) else cs[off]?
def lrd (cs : List LV) (agg : Bool) (off size : Nat) : Option LV :=
  if agg then (if off + size ≤ cs.length then some (mkAgg ((cs.drop off).take size)) else none) else cs[off]?
def Blk.rd (B : Blk) (agg : Bool) (off size : Nat) : Option LV :=
  match B with
  | .p c => (prd c agg off size).map .pv
  | .n c => (prd c agg off size).map .pv
  | .l c => lrd c agg off size
  | .m _ => none
  | .gone => none

/-- The byte of a string. -/
def sget (s : ByteArray) (i : Nat) : Int := ((s.data.toList.getD i 0).toNat : Int)

def loadP (T : TypeId → Option TI) (s : St) (t : TypeId) (x : LV) : Option LV :=
  match T t with
  | none => none
  | some i => match x with
    | .ptr b off => match s.H[b]? with
      | some B => B.rd (isAggD i.und) off i.size
      | none => none
    | .pv (.ip _ cs off) => (prd cs (isAggD i.und) off i.size).map .pv
    | _ => none

def fieldOf (T : TypeId → Option TI) (t : TypeId) (f : Nat) : Option (Nat × TI) :=
  match T t with
  | none => none
  | some i => match i.und with
    | .struct fs => match fs[f]? with
      | none => none
      | some fd => match T fd.type with
        | none => none
        | some j => if j.size = 0 then none else some (fd.offset, j)
    | _ => none

def fieldAddrP (T : TypeId → Option TI) (t : TypeId) (fi : Nat) (x : LV) : Option LV :=
  match fieldOf T t fi with
  | none => none
  | some (o, _) => match x with
    | .ptr b off => some (.ptr b (off + o))
    | .pv (.ip f cs off) => some (.pv (.ip f cs (off + o)))
    | _ => none

def fieldP (T : TypeId → Option TI) (t : TypeId) (f : Nat) (x : LV) : Option LV :=
  match fieldOf T t f with
  | none => none
  | some (o, j) => match x with
    | .pv (.agg cs) => (prd cs (isAggD j.und) o j.size).map .pv
    | .agg cs => lrd cs (isAggD j.und) o j.size
    | _ => none

def elemSize (T : TypeId → Option TI) (e : TypeId) : Option Nat := (T e).map (·.size)

def indexAddrP (T : TypeId → Option TI) (t : TypeId) (x ix : LV) : Option LV :=
  match T t, ix with
  | some i, .pv (.int _ n) => match i.und with
    | .slice e => match elemSize T e, x with
      | some sz, .pv (.sl f cs len) => if 0 ≤ n ∧ n < len then some (.pv (.ip f cs (n.toNat * sz))) else none
      | some sz, .ref b off len _ => if 0 ≤ n ∧ n < len then some (.ptr b (off + n.toNat * sz)) else none
      | some sz, .pv (.nsl f cs len) => if 0 ≤ n ∧ n < len then some (.pv (.ip f cs (n.toNat * sz))) else none
      | some sz, .nref b len _ => if 0 ≤ n ∧ n < len then some (.ptr b (n.toNat * sz)) else none
      | some sz, .pv (.asl f cs len) => if 0 ≤ n ∧ n < len then some (.pv (.ip f cs (n.toNat * sz))) else none
      | _, _ => none
    | .array len e => match elemSize T e, x with
      | some sz, .pv (.ip f cs off) => if 0 ≤ n ∧ n < len then some (.pv (.ip f cs (off + n.toNat * sz))) else none
      | some sz, .ptr b off => if 0 ≤ n ∧ n < len then some (.ptr b (off + n.toNat * sz)) else none
      | _, _ => none
    | _ => none
  | _, _ => none

def indexP (T : TypeId → Option TI) (t : TypeId) (x ix : LV) : Option LV :=
  match T t, ix with
  | some i, .pv (.int _ n) => match i.und, x with
    | .string, .pv (.str s) => if 0 ≤ n ∧ n < s.size then some (.pv (.int .u8 (sget s n.toNat))) else none
    | .array len e, .pv (.agg cs) => match T e with
      | some j => if 0 ≤ n ∧ n < len then (prd cs (isAggD j.und) (n.toNat * j.size) j.size).map .pv else none
      | none => none
    | _, _ => none
  | _, _ => none

/-- A bound of a slice expression. -/
def bnd (x : Option LV) (d : Nat) : Option Int :=
  match x with
  | none => some d
  | some (.pv (.int _ n)) => some n
  | _ => none

def sliceP (T : TypeId → Option TI) (s : St) (t : TypeId) (x : LV) (lo hi : Option LV) : Option LV :=
  match T t with
  | none => none
  | some i => match i.und, x with
    | .string, .pv (.str str) => match bnd lo 0, bnd hi str.size with
      | some l, some h => if 0 ≤ l ∧ l ≤ h ∧ h ≤ str.size then some (.pv (.str (str.extract l.toNat h.toNat))) else none
      | _, _ => none
    | .slice e, .pv (.sl f cs len) => match elemSize T e, bnd lo 0, bnd hi len with
      | some sz, some l, some h => if 0 ≤ l ∧ l ≤ h ∧ h ≤ len then some (.pv (.sl f ((cs.drop (l.toNat * sz)).take ((h.toNat - l.toNat) * sz)) (h.toNat - l.toNat))) else none
      | _, _, _ => none
    | .slice e, .pv (.nsl f cs len) => match elemSize T e, bnd lo 0, bnd hi len with
      | some sz, some l, some h => if 0 ≤ l ∧ l ≤ h ∧ h ≤ len ∧ 0 < len then some (.pv (.sl f ((cs.drop (l.toNat * sz)).take ((h.toNat - l.toNat) * sz)) (h.toNat - l.toNat))) else none
      | _, _, _ => none
    | .slice e, .nref b len esz => match elemSize T e, bnd lo 0, bnd hi len with
      | some sz, some l, some h => if sz = esz ∧ 0 ≤ l ∧ l ≤ h ∧ h ≤ len ∧ 0 < len then some (.ref b (l.toNat * esz) (h.toNat - l.toNat) esz) else none
      | _, _, _ => none
    | .slice e, .pv (.asl f cs len) => match elemSize T e, bnd lo 0, bnd hi len with
      | some sz, some l, some h => if 0 ≤ l ∧ l ≤ h ∧ h ≤ len then some (.pv (.asl f ((cs.drop (l.toNat * sz)).take ((h.toNat - l.toNat) * sz)) (h.toNat - l.toNat))) else none
      | _, _, _ => none
    | .slice e, .pv .nil => match elemSize T e, bnd lo 0, bnd hi 0 with
      | some _, some l, some h => if l = 0 ∧ h = 0 then some (.pv .nil) else none
      | _, _, _ => none
    | .slice e, .ref b off len esz => match elemSize T e, bnd lo 0, bnd hi len with
      | some sz, some l, some h => if sz = esz ∧ 0 ≤ l ∧ l ≤ h ∧ h ≤ len then some (.ref b (off + l.toNat * esz) (h.toNat - l.toNat) esz) else none
      | _, _, _ => none
    | .array n e, .ptr b off => match elemSize T e, bnd lo 0, bnd hi n, s.H[b]? with
      | some sz, some l, some h, some B => if 0 ≤ l ∧ l ≤ h ∧ h ≤ n ∧ off + n * sz ≤ B.len ∧ B.live = true ∧ B.isRow = true then some (.ref b (off + l.toNat * sz) (h.toNat - l.toNat) sz) else none
      | _, _, _, _ => none
    | .array n e, .pv (.ip f cs off) => match elemSize T e, bnd lo 0, bnd hi n with
      | some sz, some l, some h => if 0 ≤ l ∧ l ≤ h ∧ h ≤ n then some (.pv (.sl f ((cs.drop (off + l.toNat * sz)).take ((h.toNat - l.toNat) * sz)) (h.toNat - l.toNat))) else none
      | _, _, _ => none
    | _, _ => none

/-- A slice expression with a bound for the room. -/
def slice3P (T : TypeId → Option TI) (t : TypeId) (x h m : LV) : Option LV :=
  match T t, x, h, m with
  | some i, .ref b off len esz, .pv (.int _ n), .pv (.int _ k) => match i.und with
    | .slice e => match elemSize T e with
      | some sz => if sz = esz ∧ n = len ∧ k = len then some (.ref b off len esz) else none
      | none => none
    | _ => none
  | _, _, _, _ => none

def lenP (T : TypeId → Option TI) (t : TypeId) (x : LV) : Option LV :=
  match T t with
  | none => none
  | some i => match i.und, x with
    | .string, .pv (.str s) => some (.pv (.int .i64 s.size))
    | .array n _, _ => some (.pv (.int .i64 n))
    | .slice _, .pv (.sl _ _ len) => some (.pv (.int .i64 len))
    | .slice _, .pv .nil => some (.pv (.int .i64 0))
    | .slice _, .ref _ _ len _ => some (.pv (.int .i64 len))
    | .slice _, .pv (.nsl _ _ len) => some (.pv (.int .i64 len))
    | .slice _, .nref _ len _ => some (.pv (.int .i64 len))
    | .slice _, .pv (.asl _ _ len) => some (.pv (.int .i64 len))
    | .slice _, .emp => some (.pv (.int .i64 0))
    | _, _ => none

/-- The room of a nil slice. -/
def capP (T : TypeId → Option TI) (t : TypeId) (x : LV) : Option LV :=
  match T t with
  | none => none
  | some i => match i.und, x with
    | .slice _, .pv .nil => some (.pv (.int .i64 0))
    | _, _ => none

def unP (op : UnOp) (x : LV) : Option LV :=
  match op, x with
  | .neg, .pv (.int k n) => some (.pv (.int k (k.wrap (0 - n))))
  | .xor, .pv (.int k n) => some (.pv (.int k (ibits .xor k (if k.signed then -1 else k.max) n)))
  | .not, .pv (.bool b) => some (.pv (.bool !b))
  | _, _ => none

/-- The bytes that cells hold. -/
def bytesOf : List PV → Option (List UInt8)
  | [] => some []
  | .int .u8 n :: r => (bytesOf r).map (UInt8.ofNat n.toNat :: ·)
  | _ :: _ => none

def convP (T : TypeId → Option TI) (s : St) (src dst : TypeId) (x : LV) : Option LV :=
  match T src, T dst with
  | some i, some j => match i.und, j.und, x with
    | _, .int k, .pv (.int _ n) => some (.pv (.int k (k.wrap n)))
    | .string, .string, .pv (.str b) => some (.pv (.str b))
    | .slice e, .string, x => match T e with
      | none => none
      | some ei => match ei.und, x with
        | .int .u8, .pv .nil => some (.pv (.str .empty))
        | .int .u8, .pv (.sl _ cs len) => if cs.length = len then (bytesOf cs).map fun l => .pv (.str ⟨l.toArray⟩) else none
        | .int .u8, .pv (.nsl _ cs len) => if cs.length = len then (bytesOf cs).map fun l => .pv (.str ⟨l.toArray⟩) else none
        | .int .u8, .pv (.asl _ cs len) => if cs.length = len then (bytesOf cs).map fun l => .pv (.str ⟨l.toArray⟩) else none
        | .int .u8, .nref b len _ => match s.H[b]? with
          | some (.n cs) => if len = cs.length then (bytesOf cs).map fun l => .pv (.str ⟨l.toArray⟩) else none
          | _ => none
        | .int .u8, .ref b off len _ => match s.H[b]? with
          | some (.p cs) => if off + len ≤ cs.length then (bytesOf ((cs.drop off).take len)).map fun l => .pv (.str ⟨l.toArray⟩) else none
          | _ => none
        | _, _ => none
    | _, _, _ => none
  | _, _ => none

def pickLV (b : Bool) (x y : LV) : LV :=
  match x, y with
  | .pv (.bool x), .pv (.bool y) => .pv (.bool (if b then x else y))
  | x, y => if b then x else y

def minP (less : Int → Int → Bool) : Int → List LV → Option Int
  | n, [] => some n
  | n, .pv (.int _ m) :: r => minP less (if less m n then m else n) r
  | _, _ => none

/-! Maps -/
def sameP : TypeDesc → PV → PV → Option Bool
  | .int _, .int k a, .int k' b => if k = k' then some (a == b) else none
  | .string, .str a, .str b => some (a == b)
  | .bool, .bool a, .bool b => some (a == b)
  | _, _, _ => none
def findP (d : TypeDesc) (k : PV) : List (PV × PV) → Nat → Option (Option (Nat × PV))
  | [], _ => some none
  | e :: r, i => match sameP d k e.1 with
    | some true => some (some (i, e.2))
    | some false => findP d k r (i + 1)
    | none => none
def keyD : TypeDesc → PV → Bool
  | .int _, .int _ _ => true
  | .string, .str _ => true
  | .bool, .bool _ => true
  | _, _ => false
def zeroP (i : TI) : PV := if isAggD i.und = true then .agg i.zero else i.zero.headD .nil
def mapP (s : St) (d : TypeDesc) (k : PV) (x : LV) : Option (Option (Nat × PV)) :=
  match x with
  | .mref b => match s.H[b]? with
    | some (.m kvs) => findP d k kvs 0
    | _ => none
  | .pv .nilmap => some none
  | _ => none
def lookupP (T : TypeId → Option TI) (s : St) (t : TypeId) (x ix : LV) (ok : Bool) : Option LV :=
  match T t, ix with
  | some i, .pv k => match i.und with
    | .map kt et => match T kt, T et with
      | some ki, some ei => if keyD ki.und k = true then match mapP s ki.und k x with
          | some (some (_, v)) => some (if ok = true then .tup [.pv v, .pv (.bool true)] else .pv v)
          | some none => some (if ok = true then .tup [.pv (zeroP ei), .pv (.bool false)] else .pv (zeroP ei))
          | none => none
        else none
      | _, _ => none
    | _ => none
  | _, _ => none

def pcells : PV → List PV
  | .agg cs => cs
  | p => [p]
theorem pcells_one {p : PV} (h : p.one = true) : pcells p = [p] := by cases p <;> first | rfl | cases h
/-- Cells against values. -/
structure CR {α : Type} (one : α → Bool) (R : α → Value → Prop) (cs : List α) (arr : Array Value) : Prop where
  len : cs.length = arr.size
  one : ∀ (i : Nat) p, cs[i]? = some p → one p = true
  rel : ∀ (i : Nat) p v, cs[i]? = some p → arr[i]? = some v → R p v
/-! Structs and arrays against one another; an interface value or a pointer against nil -/
def leavesF (T : TypeId → Option TI) (L : TypeId → Option (List TypeDesc)) : Nat → List Field → Option (List TypeDesc)
  | _, [] => some []
  | off, f :: r => match T f.type, L f.type, leavesF T L (off + (match T f.type with | some j => j.size | none => 0)) r with
    | some j, some l, some rest => if f.offset = off ∧ l.length = j.size then some (l ++ rest) else none
    | _, _, _ => none
def leavesT (T : TypeId → Option TI) : Nat → TypeId → Option (List TypeDesc)
  | 0, _ => none
  | n + 1, t => match T t with
    | none => none
    | some i => match i.und with
      | .bool => some [.bool]
      | .int k => some [.int k]
      | .string => some [.string]
      | .struct fs => if i.eqok = true then leavesF T (leavesT T n) 0 fs.toList else none
      | .array m e => if i.eqok = true then (match T e, leavesT T n e with
          | some j, some l => if l.length = j.size then some (zerosL' l m) else none
          | _, _ => none) else none
      | _ => none
where zerosL' (l : List TypeDesc) (m : Nat) : List TypeDesc := match l with
  | [d] => List.replicate m d
  | l => (List.replicate m l).flatten
def eqL : List TypeDesc → List PV → List PV → Option Bool
  | [], [], [] => some true
  | d :: r, a :: as, b :: bs => match sameP d a b, eqL r as bs with
    | some x, some y => some (x && y)
    | _, _ => none
  | _, _, _ => none
def pagg (T : TypeId → Option TI) (t : TypeId) (op : BinOp) (cs ds : List PV) : Option PV :=
  match leavesT T 4 t with
  | some ls => match eqL ls cs ds with
    | some b => match op with
      | .eql => some (.bool b)
      | .neq => some (.bool !b)
      | _ => none
    | none => none
  | none => none
def isConst : Operand → Bool
  | .const _ => true
  | _ => false
def eqNil (op : BinOp) (b : Bool) : Option PV :=
  match op with
  | .eql => some (.bool b)
  | .neq => some (.bool !b)
  | _ => none
def isIfD : TypeDesc → Bool
  | .interface _ => true
  | _ => false
def isPtD : TypeDesc → Bool
  | .pointer _ => true
  | _ => false
def binP (T : TypeId → Option TI) (t : TypeId) (d : TypeDesc) (op : BinOp) (cx cy : Bool) (x y : LV) : Option PV :=
  match x, y with
  | .pv (.agg cs), .pv (.agg ds) => if isAggD d = true then pagg T t op cs ds else none
  | .pv .nilif, .pv .nilif => if isIfD d = true ∧ (cx || cy) = true then eqNil op true else none
  | .pv (.ifc _ _), .pv .nilif => if isIfD d = true then eqNil op false else none
  | .ifc _ _, .pv .nilif => if isIfD d = true then eqNil op false else none
  | .pv .nilif, .pv (.ifc _ _) => if isIfD d = true then eqNil op false else none
  | .pv .nilp, .pv .nilp => if isPtD d = true then eqNil op true else none
  | .ptr _ _, .pv .nilp => if isPtD d = true then eqNil op false else none
  | .pv (.ip _ _ _), .pv .nilp => if isPtD d = true then eqNil op false else none
  | x, y => pbin d op x y

/-- What needs no new memory. -/
def opP (T : TypeId → Option TI) (s : St) (ev : Operand → LV) : Op → Option LV
  | .move x => some (ev x)
  | .assign x => some (ev x)
  | .pick c a b => match ev c with
    | .pv (.bool t) => some (pickLV t (ev a) (ev b))
    | _ => none
  | .load t x => loadP T s t (ev x)
  | .nilCheck x => match ev x with
    | .ptr b off => some (.ptr b off)
    | .pv (.ip f cs off) => some (.pv (.ip f cs off))
    | .pv (.fn f cap) => some (.pv (.fn f cap))
    | .fn f cap => some (.fn f cap)
    | _ => none
  | .binOp op t x y _ => match T t with
    | some i => (binP T t i.und op (isConst x) (isConst y) (ev x) (ev y)).map .pv
    | none => none
  | .unOp op _ x => unP op (ev x)
  | .convert src dst x => convP T s src dst (ev x)
  | .makeInterface t x => match T t with
    | some i => match i.und with
      | .interface _ => none
      | _ => match ev x with
        | .pv p => some (.pv (.ifc t p))
        | x => some (.ifc t x)
    | none => none
  | .fieldAddr t x f => fieldAddrP T t f (ev x)
  | .field t x f => fieldP T t f (ev x)
  | .indexAddr t x ix => indexAddrP T t (ev x) (ev ix)
  | .index t x ix => indexP T t (ev x) (ev ix)
  | .lookup t x ix ok => lookupP T s t (ev x) (ev ix) ok
  | .slice t x lo hi none => sliceP T s t (ev x) (lo.map ev) (hi.map ev)
  | .slice t x none (some h) (some m) => slice3P T t (ev x) (ev h) (ev m)
  | .extract x ix => match ev x with
    | .tup vs => vs[ix]?
    | _ => none
  | .makeFunc (.func f) first captured => if first.size = 0 then some (match (captured.toList.map ev).mapM LV.toPV with | some ps => .pv (.fn f ps) | none => .fn f (captured.toList.map ev)) else none
  | .call { callee := .builtin .len, args := args, argTypes := ts } => match args[0]?, ts[0]? with
    | some x, some t => lenP T t (ev x)
    | _, _ => none
  | .call { callee := .builtin .cap, args := args, argTypes := ts } => match args[0]?, ts[0]? with
    | some x, some t => capP T t (ev x)
    | _, _ => none
  | .call { callee := .builtin .min, args := args, argTypes := _ } => match args.toList.map ev with
    | .pv (.int k n) :: r => (minP (fun a b => decide (a < b)) n r).map fun m => .pv (.int k m)
    | _ => none
  | .call { callee := .builtin .max, args := args, argTypes := _ } => match args.toList.map ev with
    | .pv (.int k n) :: r => (minP (fun a b => decide (b < a)) n r).map fun m => .pv (.int k m)
    | _ => none
  | _ => none
end Hm
namespace Hm
open Go Go.RowKit

section
variable {P : Program} {T : TypeId → Option TI} {G : Nat → Option (List PV)} {w0 : World} {β : Nat → Nat} {s : St} {acts : List Act} {a : Act} {w : World}

theorem add_lit (b o n : Nat) : (⟨b, o, none⟩ : Addr).add n = ⟨b, o + n, none⟩ := by
  unfold Addr.add; split
  · rename_i h; subst h; rfl
  · rfl

theorem TOk.sizeOf (hT : TOk P T) {t : TypeId} {i : TI} (h : T t = some i) : (Go.sizeOf t).run P w = .ok i.size w := by
  obtain ⟨inf, z, vs, h1, h2, _⟩ := (hT t i h).info
  simp [Go.sizeOf, typeInfo, h1, h2]

theorem TOk.under (hT : TOk P T) {t : TypeId} {i : TI} (h : T t = some i) : (underlying t).run P w = .ok i.und w := run_under (hT t i h).und

theorem TOk.isAgg (hT : TOk P T) {t : TypeId} {i : TI} (h : T t = some i) : (Go.isAgg t).run P w = .ok (isAggD i.und) w := by
  simp only [Go.isAgg, Sem.run_bind, hT.under h, Result.andThen_ok]
  cases i.und <;> rfl

theorem TOk.size1 (hT : TOk P T) {t : TypeId} {i : TI} (h : T t = some i) (ha : isAggD i.und = false) : i.size = 1 := by
  obtain ⟨_, _, _, _, _, _, _, _, _, _, h1, _⟩ := (hT t i h).info
  exact h1 ha

theorem TOk.aggPos (hT : TOk P T) {t : TypeId} {i : TI} (h : T t = some i) (_ha : isAggD i.und = true) : 0 < i.size := by
  obtain ⟨_, _, _, _, _, _, _, _, _, _, _, h2⟩ := (hT t i h).info
  exact h2

theorem TOk.zero (hT : TOk P T) {t : TypeId} {i : TI} (h : T t = some i) : ∃ vs, i.zero.mapM PV.flat = some vs ∧ vs.length = i.size ∧ (zeroValue t).run P w = .ok (if isAggD i.und then .agg vs.toArray else vs.headD undef) w := by
  obtain ⟨inf, z, vs, h1, h2, h3, h4, h5, h6, h7, h8⟩ := (hT t i h).info
  exact ⟨vs, h5, h7, by simp [zeroValue, typeInfo, h1, h4, h6]⟩

/-- The cells of a block of the call's own. -/
theorem Rel.cells (hr : Rel G w0 β s acts a w) {b : Nat} {B : Blk} (h : s.H[b]? = some B) (hl : B.live = true) (hR : B.isRow = true := by rfl) :
    ∃ vs : Nat → Value, ∀ i, i < B.len → w.cell? ⟨β b, i, none⟩ = some (vs i) ∧ ∀ lv, B.get i = some lv → lv.one = true ∧ LR β s.H.length w (okOf w0 β s.H w) lv (vs i) := by
  obtain ⟨c, E, fz, h1, h2, h3, h4⟩ := (hr.blk b B h hl).row hR
  refine ⟨fun i => c[i]?.getD undef, fun i hi => ?_⟩
  have hc : i < c.size := by omega
  refine ⟨by simp [World.cell?, h1, hc], fun lv hlv => ?_⟩
  obtain ⟨h0, v, h5, h6⟩ := h4 i lv hlv
  refine ⟨h0, ?_⟩
  show LR β s.H.length w (okOf w0 β s.H w) lv (c[i]?.getD undef)
  rw [h5]; exact h6

theorem mapM_toPV {cs : List LV} {ps : List PV} (h : cs.mapM LV.toPV = some ps) : cs = ps.map .pv := by
  induction cs generalizing ps with
  | nil => simp at h; subst h; rfl
  | cons x r ih =>
    simp only [List.mapM_cons, Option.bind_eq_bind, Option.bind_eq_some_iff] at h
    obtain ⟨p, h1, ps', h2, h3⟩ := h
    cases x <;> simp [LV.toPV] at h1
    subst h1
    simp at h3
    subst h3
    rw [ih h2]; rfl

theorem LR.mkAgg {n : Nat} {ok : Bool → Nat → Prop} {cs : List LV} {vs : Array Value} (hl : cs.length = vs.size) (h1 : ∀ (i : Nat) p, cs[i]? = some p → p.one = true)
    (hv : ∀ (i : Nat) p v, cs[i]? = some p → vs[i]? = some v → LR β n w ok p v) : LR β n w ok (mkAgg cs) (.agg vs) := by
  unfold Hm.mkAgg
  split
  · rename_i ps h
    have := mapM_toPV h
    subst this
    refine .pv (.agg _ _ (by simpa using hl) (fun i p h => h1 i (.pv p) (by simp [h])) fun i p v h1 h2 => ?_)
    have := hv i (.pv p) v (by simp [h1]) h2
    cases this with | pv h => exact h
  · exact .agg _ _ hl h1 hv

theorem get_take_drop {α : Type} {l : List α} {o n j : Nat} {x : α} (h : ((l.drop o).take n)[j]? = some x) : l[o + j]? = some x := by
  rw [List.getElem?_take] at h
  split at h
  · rwa [List.getElem?_drop] at h
  · cases h

/-- A value is read off cells: immutable ones. -/
theorem prd_sound (hT : TOk P T) {t : TypeId} {i : TI} (ht : T t = some i) {ok : Bool → Nat → Prop} {cs : List PV} {off : Nat} {p : PV} {blk o : Nat} {vs : Nat → Value} (h1 : ∀ (i : Nat) p, cs[i]? = some p → p.one = true)
    (hc : ∀ i, i < cs.length → w.cell? ⟨blk, o + i, none⟩ = some (vs i)) (hv : ∀ (i : Nat) p, cs[i]? = some p → Imm w ok p (vs i))
    (h : prd cs (isAggD i.und) off i.size = some p) : ∃ v, (loadVar t ⟨blk, o + off, none⟩).run P w = .ok v w ∧ Imm w ok p v := by
  unfold prd at h
  by_cases ha : isAggD i.und = true
  · rw [if_pos ha] at h
    split at h
    · rename_i hle
      simp only [Option.some.injEq] at h
      subst h
      refine ⟨.agg ((List.range i.size).map fun j => vs (off + j)).toArray, ?_, ?_⟩
      · have hl := run_loadCells (P := P) w ⟨blk, o + off, none⟩ i.size (fun j => vs (off + j)) (fun j hj => by rw [add_lit, Nat.add_assoc]; exact hc _ (by omega))
        simp [loadVar, hT.isAgg ht, ha, hT.sizeOf ht, hl]
      · refine .agg _ _ (by simp; omega) (fun j p h => h1 _ _ (get_take_drop h)) fun j p v h1 h2 => ?_
        rw [List.getElem?_take] at h1
        split at h1
        · rename_i hj
          rw [List.getElem?_drop] at h1
          simp [hj] at h2
          subst h2
          exact hv _ _ h1
        · cases h1
    · cases h
  · have ha' : isAggD i.und = false := by simpa using ha
    rw [if_neg ha] at h
    have hlt : off < cs.length := by
      rcases Nat.lt_or_ge off cs.length with h' | h'
      · exact h'
      · rw [List.getElem?_eq_none h'] at h; cases h
    exact ⟨vs off, by simp [loadVar, hT.isAgg ht, ha', hc off hlt], hv _ _ h⟩

theorem Blk.rd_sound (hT : TOk P T) {t : TypeId} {i : TI} (ht : T t = some i) (hr : Rel G w0 β s acts a w) {b off : Nat} {B : Blk} {lv : LV} (hB : s.H[b]? = some B)
    (h : B.rd (isAggD i.und) off i.size = some lv) : ∃ v, (loadVar t ⟨β b, off, none⟩).run P w = .ok v w ∧ LR β s.H.length w (okOf w0 β s.H w) lv v := by
  cases B with
  | gone => cases h
  | m => cases h
  | p cs =>
    obtain ⟨vs, hvs⟩ := hr.cells hB rfl
    simp only [Blk.rd, Option.map_eq_some_iff] at h
    obtain ⟨p, h1, rfl⟩ := h
    obtain ⟨v, h2, h3⟩ := prd_sound (w := w) hT ht (ok := okOf w0 β s.H w) (blk := β b) (o := 0) (vs := vs) (fun i p hp => ((hvs i (List.getElem?_eq_some_iff.1 hp).1).2 (.pv p) (by simp [Blk.get, hp])).1) (fun i hi => by rw [Nat.zero_add]; exact (hvs i hi).1)
      (fun i p hp => by
        have hi := (List.getElem?_eq_some_iff.1 hp).1
        have := ((hvs i hi).2 (.pv p) (by simp [Blk.get, hp])).2
        cases this with | pv h => exact h) h1
    exact ⟨v, by rw [Nat.zero_add] at h2; exact h2, .pv h3⟩
  | n cs =>
    simp only [Blk.rd, Option.map_eq_some_iff] at h
    obtain ⟨p, h1, rfl⟩ := h
    have hne : (Blk.n cs).live = true := by
      cases cs with
      | nil =>
        exfalso
        unfold prd at h1
        split at h1
        · rename_i ha
          have := hT.aggPos ht ha
          split at h1
          · rename_i hle; simp at hle; omega
          · cases h1
        · cases h1
      | cons => rfl
    obtain ⟨vs, hvs⟩ := hr.cells hB hne
    obtain ⟨v, h2, h3⟩ := prd_sound (w := w) hT ht (ok := okOf w0 β s.H w) (blk := β b) (o := 0) (vs := vs) (fun i p hp => ((hvs i (List.getElem?_eq_some_iff.1 hp).1).2 (.pv p) (by simp [Blk.get, hp])).1) (fun i hi => by rw [Nat.zero_add]; exact (hvs i hi).1)
      (fun i p hp => by
        have hi := (List.getElem?_eq_some_iff.1 hp).1
        have := ((hvs i hi).2 (.pv p) (by simp [Blk.get, hp])).2
        cases this with | pv h => exact h) h1
    exact ⟨v, by rw [Nat.zero_add] at h2; exact h2, .pv h3⟩
  | l cs =>
    obtain ⟨vs, hvs⟩ := hr.cells hB rfl
    simp only [Blk.rd, lrd] at h
    by_cases ha : isAggD i.und = true
    · rw [if_pos ha] at h
      split at h
      · rename_i hle
        simp only [Option.some.injEq] at h
        subst h
        refine ⟨.agg ((List.range i.size).map fun j => vs (off + j)).toArray, ?_, ?_⟩
        · have hl := run_loadCells (P := P) w ⟨β b, off, none⟩ i.size (fun j => vs (off + j)) (fun j hj => by rw [add_lit]; exact (hvs _ (by simp only [Blk.len]; omega)).1)
          simp [loadVar, hT.isAgg ht, ha, hT.sizeOf ht, hl]
        · refine LR.mkAgg (by simp; omega) (fun j p h => ((hvs _ (List.getElem?_eq_some_iff.1 (get_take_drop h)).1).2 _ (get_take_drop h)).1) fun j p v h1 h2 => ?_
          rw [List.getElem?_take] at h1
          split at h1
          · rename_i hj
            rw [List.getElem?_drop] at h1
            simp [hj] at h2
            subst h2
            exact ((hvs _ (List.getElem?_eq_some_iff.1 h1).1).2 _ h1).2
          · cases h1
      · cases h
    · have ha' : isAggD i.und = false := by simpa using ha
      rw [if_neg ha] at h
      have hlt : off < cs.length := (List.getElem?_eq_some_iff.1 h).1
      exact ⟨vs off, by simp [loadVar, hT.isAgg ht, ha', (hvs off hlt).1], ((hvs off hlt).2 _ h).2⟩

theorem loadP_sound (hT : TOk P T) (hr : Rel G w0 β s acts a w) {t : TypeId} {x lv : LV} {vx : Value} (hx : LR β s.H.length w (okOf w0 β s.H w) x vx) (h : loadP T s t x = some lv) :
    ∃ v, (Instr.loadAt t vx).run P w = .ok v w ∧ LR β s.H.length w (okOf w0 β s.H w) lv v := by
  unfold loadP at h
  split at h
  · cases h
  · rename_i i ht
    split at h
    · rename_i b off
      cases hx
      split at h
      · rename_i B hB
        obtain ⟨v, h1, h2⟩ := Blk.rd_sound hT ht hr hB h
        exact ⟨v, by simpa [Instr.loadAt, Instr.sureAddr] using h1, h2⟩
      · cases h
    · rename_i f cs off
      cases hx with | pv hx =>
      cases hx with | ip _ _ _ blk o vs h1 hc hv =>
      simp only [Option.map_eq_some_iff] at h
      obtain ⟨p, h4, rfl⟩ := h
      obtain ⟨v, h2, h3⟩ := prd_sound (w := w) hT ht h1 (fun i hi => (hc i hi).2) hv h4
      exact ⟨v, by simpa [Instr.loadAt, Instr.sureAddr] using h2, .pv h3⟩
    · cases h

theorem fieldOf_spec (_hT : TOk P T) {t : TypeId} {f o : Nat} {j : TI} (h : fieldOf T t f = some (o, j)) :
    ∃ i fs fd, T t = some i ∧ i.und = .struct fs ∧ fs[f]? = some fd ∧ T fd.type = some j ∧ j.size ≠ 0 ∧ fd.offset = o := by
  unfold fieldOf at h
  split at h
  · cases h
  · rename_i i hi
    split at h
    · rename_i fs hfs
      split at h
      · cases h
      · rename_i fd hfd
        split at h
        · cases h
        · rename_i j' hj
          split at h
          · cases h
          · rename_i hne
            simp only [Option.some.injEq, Prod.mk.injEq] at h
            obtain ⟨h1, rfl⟩ := h
            exact ⟨i, fs, fd, hi, hfs, hfd, hj, hne, h1⟩
    · cases h

theorem fieldAddrP_sound (hT : TOk P T) {n : Nat} {ok : Bool → Nat → Prop} {t : TypeId} {f : Nat} {x lv : LV} {vx : Value} (hx : LR β n w ok x vx) (h : fieldAddrP T t f x = some lv) :
    ∃ v, (Instr.fieldAt t vx f).run P w = .ok v w ∧ LR β n w ok lv v := by
  unfold fieldAddrP at h
  split at h
  · cases h
  · rename_i o j hf
    obtain ⟨i, fs, fd, hi, hfs, hfd, hj, hne, ho⟩ := fieldOf_spec hT hf
    have key : ∀ (b off : Nat), (Instr.fieldAt t (.pointer (some ⟨b, off, none⟩)) f).run P w = .ok (.pointer (some ⟨b, off + o, none⟩)) w := fun b off => by
      simp only [Instr.fieldAt, Sem.run_bind, hT.under hi, hfs, Result.andThen_ok, hfd, Instr.sureAddr, fieldPlace, Sem.run_pure, hT.sizeOf hj, hne, if_false, add_lit, ho]
    split at h
    · rename_i b off
      simp only [Option.some.injEq] at h
      subst h
      cases hx with | ptr _ _ hb => exact ⟨_, key _ _, .ptr _ _ hb⟩
    · rename_i f cs off
      simp only [Option.some.injEq] at h
      subst h
      cases hx with | pv hx =>
      cases hx with | ip _ _ _ blk o' vs h1 hc hv =>
      exact ⟨_, key _ _, by rw [Nat.add_assoc]; exact .pv (.ip f cs (off + o) blk o' vs h1 hc hv)⟩
    · cases h

theorem part_pv (hT : TOk P T) {t : TypeId} {i : TI} (ht : T t = some i) {ok : Bool → Nat → Prop} {cs : List PV} {vs : Array Value} {off : Nat} {p : PV} (hl : cs.length = vs.size) (h1 : ∀ (i : Nat) p, cs[i]? = some p → p.one = true)
    (hv : ∀ (i : Nat) p v, cs[i]? = some p → vs[i]? = some v → Imm w ok p v) (h : prd cs (isAggD i.und) off i.size = some p) :
    ∃ v, (part t vs off).run P w = .ok v w ∧ Imm w ok p v := by
  unfold prd at h
  by_cases ha : isAggD i.und = true
  · rw [if_pos ha] at h
    split at h
    · rename_i hle
      simp only [Option.some.injEq] at h
      subst h
      refine ⟨.agg (vs.extract off (off + i.size)), by simp [part, hT.isAgg ht, ha, hT.sizeOf ht], .agg _ _ (by simp; omega) (fun j p h => h1 _ _ (get_take_drop h)) fun j p v h1 h2 => ?_⟩
      rw [List.getElem?_take] at h1
      split at h1
      · rw [List.getElem?_drop] at h1
        rw [Array.getElem?_extract] at h2
        split at h2
        · exact hv _ _ _ h1 h2
        · cases h2
      · cases h1
    · cases h
  · have ha' : isAggD i.und = false := by simpa using ha
    rw [if_neg ha] at h
    have hlt : off < vs.size := by have := (List.getElem?_eq_some_iff.1 h).1; omega
    exact ⟨vs[off], by simp [part, hT.isAgg ht, ha', hlt], hv _ _ _ h (by simp [hlt])⟩

theorem part_lv (hT : TOk P T) {t : TypeId} {i : TI} (ht : T t = some i) {n : Nat} {ok : Bool → Nat → Prop} {cs : List LV} {vs : Array Value} {off : Nat} {p : LV} (hl : cs.length = vs.size) (h1 : ∀ (i : Nat) p, cs[i]? = some p → p.one = true)
    (hv : ∀ (i : Nat) p v, cs[i]? = some p → vs[i]? = some v → LR β n w ok p v) (h : lrd cs (isAggD i.und) off i.size = some p) :
    ∃ v, (part t vs off).run P w = .ok v w ∧ LR β n w ok p v := by
  unfold lrd at h
  by_cases ha : isAggD i.und = true
  · rw [if_pos ha] at h
    split at h
    · rename_i hle
      simp only [Option.some.injEq] at h
      subst h
      refine ⟨.agg (vs.extract off (off + i.size)), by simp [part, hT.isAgg ht, ha, hT.sizeOf ht], LR.mkAgg (by simp; omega) (fun j p h => h1 _ _ (get_take_drop h)) fun j p v h1 h2 => ?_⟩
      rw [List.getElem?_take] at h1
      split at h1
      · rw [List.getElem?_drop] at h1
        rw [Array.getElem?_extract] at h2
        split at h2
        · exact hv _ _ _ h1 h2
        · cases h2
      · cases h1
    · cases h
  · have ha' : isAggD i.und = false := by simpa using ha
    rw [if_neg ha] at h
    have hlt : off < vs.size := by have := (List.getElem?_eq_some_iff.1 h).1; omega
    exact ⟨vs[off], by simp [part, hT.isAgg ht, ha', hlt], hv _ _ _ h (by simp [hlt])⟩

theorem fieldP_sound (hT : TOk P T) {n : Nat} {ok : Bool → Nat → Prop} {t : TypeId} {f : Nat} {x lv : LV} {vx : Value} (hx : LR β n w ok x vx) (h : fieldP T t f x = some lv) :
    ∃ v, (Instr.field t vx f).run P w = .ok v w ∧ LR β n w ok lv v := by
  unfold fieldP at h
  split at h
  · cases h
  · rename_i o j hf
    obtain ⟨i, fs, fd, hi, hfs, hfd, hj, hne, ho⟩ := fieldOf_spec hT hf
    split at h
    · simp only [Option.map_eq_some_iff] at h
      obtain ⟨p, h1, rfl⟩ := h
      cases hx with | pv hx =>
      cases hx with | agg _ vs hl h0 hv =>
      obtain ⟨v, h2, h3⟩ := part_pv hT hj hl h0 hv h1
      exact ⟨v, by simp only [Instr.field, Sem.run_bind, hT.under hi, hfs, Result.andThen_ok, hfd, asAgg, Sem.run_pure, ho, h2], .pv h3⟩
    · cases hx with | agg _ vs hl h0 hv =>
      obtain ⟨v, h2, h3⟩ := part_lv hT hj hl h0 hv h
      exact ⟨v, by simp only [Instr.field, Sem.run_bind, hT.under hi, hfs, Result.andThen_ok, hfd, asAgg, Sem.run_pure, ho, h2], h3⟩
    · cases h

theorem elemSize_spec {e : TypeId} {sz : Nat} (h : elemSize T e = some sz) : ∃ j, T e = some j ∧ j.size = sz := by
  simpa [elemSize] using h

theorem indexAddrP_sound (hT : TOk P T) {n : Nat} {ok : Bool → Nat → Prop} {t : TypeId} {x ix lv : LV} {vx vi : Value} (hx : LR β n w ok x vx) (hi : LR β n w ok ix vi) (h : indexAddrP T t x ix = some lv) :
    ∃ v, (Instr.indexAt t vx vi).run P w = .ok v w ∧ LR β n w ok lv v := by
  unfold indexAddrP at h
  split at h
  · rename_i i k m ht
    cases hi with | pv hi =>
    cases hi
    split at h
    · rename_i e he
      split at h
      · rename_i sz f cs len hs
        obtain ⟨j, hj, rfl⟩ := elemSize_spec hs
        split at h
        · rename_i hb
          simp only [Option.some.injEq] at h
          subst h
          cases hx with | pv hx =>
          cases hx with
          | slz => exfalso; simp at hb; omega
          | sl _ _ _ blk off cap vs hl h1 hc hv =>
          refine ⟨.pointer (some ⟨blk, off + m.toNat * j.size, none⟩), ?_, .pv (.ip f cs _ blk off vs h1 hc hv)⟩
          simp only [Instr.indexAt, asIntOf, Sem.run_bind, Sem.run_pure, Result.andThen_ok, hT.under ht, he, hb, and_self, if_true, hT.sizeOf hj, add_lit]
        · cases h
      · rename_i sz b off len esz hs
        obtain ⟨j, hj, rfl⟩ := elemSize_spec hs
        split at h
        · rename_i hb
          simp only [Option.some.injEq] at h
          subst h
          cases hx with
          | ref _ _ _ _ cap c E fz hbn hh hl hs2 =>
            refine ⟨.pointer (some ⟨β b, off + m.toNat * j.size, none⟩), ?_, .ptr _ _ hbn⟩
            simp only [Instr.indexAt, asIntOf, Sem.run_bind, Sem.run_pure, Result.andThen_ok, hT.under ht, he, hb, and_self, if_true, hT.sizeOf hj, add_lit]
          | refz => exfalso; simp at hb; omega
        · cases h
      · rename_i sz f cs len hs
        obtain ⟨j, hj, rfl⟩ := elemSize_spec hs
        split at h
        · rename_i hb
          simp only [Option.some.injEq] at h
          subst h
          cases hx with | pv hx =>
          cases hx with
          | nsl0 => exfalso; simp at hb; omega
          | nsl _ _ _ _ h0 hx =>
          cases hx with
          | slz => exfalso; simp at hb; omega
          | sl _ _ _ blk off cap vs hl h1 hc hv =>
          refine ⟨.pointer (some ⟨blk, off + m.toNat * j.size, none⟩), ?_, .pv (.ip f cs _ blk off vs h1 hc hv)⟩
          simp only [Instr.indexAt, asIntOf, Sem.run_bind, Sem.run_pure, Result.andThen_ok, hT.under ht, he, hb, and_self, if_true, hT.sizeOf hj, add_lit]
        · cases h
      · rename_i sz b len esz hs
        obtain ⟨j, hj, rfl⟩ := elemSize_spec hs
        split at h
        · rename_i hb
          simp only [Option.some.injEq] at h
          subst h
          cases hx with
          | nref0 => exfalso; simp at hb; omega
          | nref _ _ _ _ h0 hx =>
          cases hx with
          | ref _ _ _ _ cap c E fz hbn hh hl hs2 =>
            refine ⟨.pointer (some ⟨β b, 0 + m.toNat * j.size, none⟩), ?_, by rw [Nat.zero_add]; exact .ptr _ _ hbn⟩
            simp only [Instr.indexAt, asIntOf, Sem.run_bind, Sem.run_pure, Result.andThen_ok, hT.under ht, he, hb, and_self, if_true, hT.sizeOf hj, add_lit]
          | refz => exfalso; omega
        · cases h
      · rename_i sz f cs len hs
        obtain ⟨j, hj, rfl⟩ := elemSize_spec hs
        split at h
        · rename_i hb
          simp only [Option.some.injEq] at h
          subst h
          cases hx with | pv hx =>
          cases hx with
          | asl0 => exfalso; simp at hb; omega
          | asl _ _ _ _ hx =>
          cases hx with
          | slz => exfalso; simp at hb; omega
          | sl _ _ _ blk off cap vs hl h1 hc hv =>
          refine ⟨.pointer (some ⟨blk, off + m.toNat * j.size, none⟩), ?_, .pv (.ip f cs _ blk off vs h1 hc hv)⟩
          simp only [Instr.indexAt, asIntOf, Sem.run_bind, Sem.run_pure, Result.andThen_ok, hT.under ht, he, hb, and_self, if_true, hT.sizeOf hj, add_lit]
        · cases h
      · cases h
    · rename_i len e he
      split at h
      · rename_i sz f cs off hs
        obtain ⟨j, hj, rfl⟩ := elemSize_spec hs
        split at h
        · rename_i hb
          simp only [Option.some.injEq] at h
          subst h
          cases hx with | pv hx =>
          cases hx with | ip _ _ _ blk o vs h1 hc hv =>
          refine ⟨.pointer (some ⟨blk, o + off + m.toNat * j.size, none⟩), ?_, by rw [Nat.add_assoc]; exact .pv (.ip f cs _ blk o vs h1 hc hv)⟩
          simp only [Instr.indexAt, asIntOf, Sem.run_bind, Sem.run_pure, Result.andThen_ok, hT.under ht, he, hb, and_self, if_true, hT.sizeOf hj, add_lit, Instr.sureAddr]
        · cases h
      · rename_i sz b off hs
        obtain ⟨j, hj, rfl⟩ := elemSize_spec hs
        split at h
        · rename_i hb
          simp only [Option.some.injEq] at h
          subst h
          cases hx with | ptr _ _ hbn =>
          refine ⟨.pointer (some ⟨β b, off + m.toNat * j.size, none⟩), ?_, .ptr _ _ hbn⟩
          simp only [Instr.indexAt, asIntOf, Sem.run_bind, Sem.run_pure, Result.andThen_ok, hT.under ht, he, hb, and_self, if_true, hT.sizeOf hj, add_lit, Instr.sureAddr]
        · cases h
      · cases h
    · cases h
  · cases h
end
end Hm
namespace Hm
open Go Go.RowKit

section
variable {P : Program} {T : TypeId → Option TI} {G : Nat → Option (List PV)} {w0 : World} {β : Nat → Nat} {s : St} {acts : List Act} {a : Act} {w : World}

theorem indexP_sound (hT : TOk P T) {n : Nat} {ok : Bool → Nat → Prop} {t : TypeId} {x ix lv : LV} {vx vi : Value} (hx : LR β n w ok x vx) (hi : LR β n w ok ix vi) (h : indexP T t x ix = some lv) :
    ∃ v, (Instr.index t vx vi).run P w = .ok v w ∧ LR β n w ok lv v := by
  unfold indexP at h
  split at h
  · rename_i i k m ht
    cases hi with | pv hi =>
    cases hi
    split at h
    · rename_i str he
      split at h
      · rename_i hb
        simp only [Option.some.injEq] at h
        subst h
        cases hx with | pv hx =>
        cases hx
        have hlt : m.toNat < str.size := by omega
        refine ⟨.int .u8 (str[m.toNat].toNat), ?_, ?_⟩
        · have hg : str[m.toNat]? = some str[m.toNat] := by simp [hlt]
          simp only [Instr.index, asIntOf, Sem.run_bind, Sem.run_pure, Result.andThen_ok, hT.under ht, he, hb.1, if_true, hg]
        · have : sget str m.toNat = (str[m.toNat].toNat : Int) := by
            unfold sget
            rw [List.getD_eq_getElem?_getD, List.getElem?_eq_getElem (by simpa using hlt)]
            rfl
          rw [this]
          exact .pv (.int _ _)
      · cases h
    · rename_i len e cs he
      split at h
      · rename_i j hj
        split at h
        · rename_i hb
          simp only [Option.map_eq_some_iff] at h
          obtain ⟨p, h1, rfl⟩ := h
          cases hx with | pv hx =>
          cases hx with | agg _ vs hl h0 hv =>
          obtain ⟨v, h2, h3⟩ := part_pv hT hj hl h0 hv h1
          refine ⟨v, ?_, .pv h3⟩
          simp only [Instr.index, asIntOf, Sem.run_bind, Sem.run_pure, Result.andThen_ok, hT.under ht, he, hb, and_self, if_true, hT.sizeOf hj, h2]
        · cases h
      · cases h
    · cases h
  · cases h

theorem run_sliceBound {k : IntKind} {n : Int} {y : Nat} {code : BoundsCode} (h : 0 ≤ n ∧ n ≤ y) : (Instr.sliceBound (.int k n) y code).run P w = .ok n.toNat w := by
  simp [Instr.sliceBound, asIntOf, h.1, h.2]

theorem bnd_rel {n : Nat} {ok : Bool → Nat → Prop} {lo : Option LV} {vlo : Option Value} {d : Nat} {l : Int} (h : bnd lo d = some l)
    (hr : ∀ x, lo = some x → ∃ v, vlo = some v ∧ LR β n w ok x v) (hn : lo = none → vlo = none) :
    (lo = none ∧ vlo = none ∧ l = d) ∨ (∃ k, vlo = some (.int k l)) := by
  unfold bnd at h
  split at h
  · exact .inl ⟨rfl, hn rfl, by simpa using h.symm⟩
  · obtain ⟨v, h1, h2⟩ := hr _ rfl
    cases h2 with | pv h2 =>
    cases h2
    simp at h
    subst h
    exact .inr ⟨_, h1⟩
  · cases h

theorem run_sliceBounds {isS : Bool} {len cap : Nat} {vlo vhi : Option Value} {l h : Int} (hl : 0 ≤ l ∧ l ≤ h) (hh : h ≤ len) (hlc : len ≤ cap)
    (h1 : (vlo = none ∧ l = 0) ∨ ∃ k, vlo = some (.int k l)) (h2 : (vhi = none ∧ h = len) ∨ ∃ k, vhi = some (.int k h)) :
    (Instr.sliceBounds isS len cap vlo vhi none).run P w = .ok (l.toNat, h.toNat, cap) w := by
  have e1 : ∀ k : IntKind, (Instr.sliceBound (.int k h) cap (if isS then .sliceAcap else .sliceAlen)).run P w = .ok h.toNat w := fun k => run_sliceBound ⟨by omega, by omega⟩
  have e2 : ∀ k : IntKind, (Instr.sliceBound (.int k l) h.toNat (if (none : Option Value).isSome then .slice3C else .sliceB)).run P w = .ok l.toNat w := fun k => run_sliceBound ⟨by omega, by omega⟩
  unfold Instr.sliceBounds
  rcases h2 with ⟨rfl, rfl⟩ | ⟨k2, rfl⟩
  · rcases h1 with ⟨rfl, rfl⟩ | ⟨k1, rfl⟩
    · simp
    · have e2' := e2 k1
      simp only [Int.toNat_natCast] at e2'
      simp only [Sem.run_bind, Sem.run_pure, Result.andThen_ok, e2', Int.toNat_natCast]
  · rcases h1 with ⟨rfl, rfl⟩ | ⟨k1, rfl⟩
    · simp only [Sem.run_bind, Sem.run_pure, Result.andThen_ok, e1 k2]; simp
    · simp only [Sem.run_bind, Sem.run_pure, Result.andThen_ok, e1 k2, e2 k1]

theorem slice_sl_sound (hT : TOk P T) {f : Bool} {ok : Bool → Nat → Prop} {t e : TypeId} {i j : TI} (ht : T t = some i) (he : i.und = .slice e) (hj : T e = some j) {cs : List PV} {len : Nat} {vx : Value} {vlo vhi : Option Value} {l hh : Int}
    (hx : Imm w ok (.sl f cs len) vx) (hb : 0 ≤ l ∧ l ≤ hh ∧ hh ≤ len) (h0 : (vlo = none ∧ l = 0) ∨ ∃ k, vlo = some (.int k l)) (h1' : (vhi = none ∧ hh = len) ∨ ∃ k, vhi = some (.int k hh)) :
    ∃ v, (Instr.sliceAt t vx vlo vhi none).run P w = .ok v w ∧ Imm w ok (.sl f ((cs.drop (l.toNat * j.size)).take ((hh.toNat - l.toNat) * j.size)) (hh.toNat - l.toNat)) v := by
  cases hx with
  | slz _ _ a cap =>
    have e1 : hh = 0 := by omega
    have e2 : l = 0 := by omega
    subst e1
    subst e2
    have hs := run_sliceBounds (P := P) (w := w) (isS := true) (len := 0) (cap := cap) (l := 0) (h := 0) (by simp) (by simp) (Nat.zero_le _) h0 h1'
    exact ⟨.slice (some a) 0 cap, by simp [Instr.sliceAt, Instr.slice, hT.under ht, he, hs, hT.sizeOf hj, Addr.add], .slz _ _ _ _⟩
  | sl _ _ _ blk off cap vs hlc h1 hc hv =>
  have hs := run_sliceBounds (P := P) (w := w) (isS := true) ⟨hb.1, hb.2.1⟩ hb.2.2 hlc h0 h1'
  by_cases hcl : cap = l.toNat
  · subst hcl
    refine ⟨.slice (some ⟨blk, off, none⟩) (hh.toNat - l.toNat) (l.toNat - l.toNat), ?_, .sl _ _ _ _ _ _ (fun i => vs (l.toNat * j.size + i)) (by omega) (fun i p h => h1 _ _ (get_take_drop h)) ?_ ?_⟩
    · simp [Instr.sliceAt, Instr.slice, hT.under ht, he, hs, hT.sizeOf hj]
    · intro i hi
      have : hh.toNat - l.toNat = 0 := by omega
      rw [this] at hi
      simp at hi
    · intro i p hp
      have : hh.toNat - l.toNat = 0 := by omega
      rw [this] at hp
      simp at hp
  · refine ⟨.slice (some ⟨blk, off + l.toNat * j.size, none⟩) (hh.toNat - l.toNat) (cap - l.toNat), ?_, .sl _ _ _ _ _ _ (fun i => vs (l.toNat * j.size + i)) (by omega) (fun i p h => h1 _ _ (get_take_drop h)) ?_ ?_⟩
    · simp [Instr.sliceAt, Instr.slice, hT.under ht, he, hs, hT.sizeOf hj, hcl, add_lit]
    · intro i hi
      simp only [List.length_take, List.length_drop] at hi
      rw [Nat.add_assoc]
      exact hc _ (by omega)
    · intro i p hp
      rw [List.getElem?_take] at hp
      split at hp
      · rw [List.getElem?_drop] at hp
        exact hv _ _ hp
      · cases hp

theorem slice_ref_sound (hT : TOk P T) {n : Nat} {ok : Bool → Nat → Prop} {t e : TypeId} {i j : TI} (ht : T t = some i) (he : i.und = .slice e) (hj : T e = some j) {b off len : Nat} {vx : Value} {vlo vhi : Option Value} {l hh : Int}
    (hx : LR β n w ok (.ref b off len j.size) vx) (hb : 0 ≤ l ∧ l ≤ hh ∧ hh ≤ len) (h0 : (vlo = none ∧ l = 0) ∨ ∃ k, vlo = some (.int k l)) (h1' : (vhi = none ∧ hh = len) ∨ ∃ k, vhi = some (.int k hh)) :
    ∃ v, (Instr.sliceAt t vx vlo vhi none).run P w = .ok v w ∧ LR β n w ok (.ref b (off + l.toNat * j.size) (hh.toNat - l.toNat) j.size) v := by
  cases hx with
  | ref _ _ _ _ cap c E fz hbn hhp hl2 hs2 =>
    have hs := run_sliceBounds (P := P) (w := w) (isS := true) ⟨hb.1, hb.2.1⟩ hb.2.2 hl2 h0 h1'
    by_cases hcl : cap = l.toNat
    · subst hcl
      have e1 : hh.toNat - l.toNat = 0 := by omega
      refine ⟨.slice (some ⟨β b, off, none⟩) 0 0, ?_, by rw [e1]; exact .refz _ _ _ _ hbn⟩
      simp [Instr.sliceAt, Instr.slice, hT.under ht, he, hs, hT.sizeOf hj, e1]
    · refine ⟨.slice (some ⟨β b, off + l.toNat * j.size, none⟩) (hh.toNat - l.toNat) (cap - l.toNat), ?_, .ref _ _ _ _ _ c E fz hbn hhp (by omega) ?_⟩
      · simp [Instr.sliceAt, Instr.slice, hT.under ht, he, hs, hT.sizeOf hj, hcl, add_lit]
      · have : (cap - l.toNat) * j.size + l.toNat * j.size = cap * j.size := by rw [← Nat.add_mul]; congr 1; omega
        omega
  | refz _ _ _ off' hbn =>
    have e0 : l = 0 ∧ hh = 0 := by omega
    obtain ⟨rfl, rfl⟩ := e0
    have hs := run_sliceBounds (P := P) (w := w) (isS := true) (len := 0) (cap := 0) (l := 0) (h := 0) (by simp) (by simp) (Nat.le_refl _) h0 h1'
    exact ⟨.slice (some off') 0 0, by simp [Instr.sliceAt, Instr.slice, hT.under ht, he, hs, hT.sizeOf hj], .refz _ _ _ _ hbn⟩

theorem slice3P_sound (hT : TOk P T) {n : Nat} {ok : Bool → Nat → Prop} {t : TypeId} {x h m lv : LV} {vx vh vm : Value} (hx : LR β n w ok x vx) (hh : LR β n w ok h vh) (hm : LR β n w ok m vm) (e0 : slice3P T t x h m = some lv) :
    ∃ v, (Instr.sliceAt t vx none (some vh) (some vm)).run P w = .ok v w ∧ LR β n w ok lv v := by
  unfold slice3P at e0
  split at e0
  · rename_i i b off len esz k1 a k2 c ht
    cases hh with | pv hh => cases hm with | pv hm =>
    cases hh
    cases hm
    split at e0
    · rename_i e he
      split at e0
      · rename_i sz hs
        split at e0
        · rename_i hc
          obtain ⟨rfl, rfl, rfl⟩ := hc
          obtain ⟨j, hj, rfl⟩ := elemSize_spec hs
          simp only [Option.some.injEq] at e0
          subst e0
          have key : ∀ (ad : Addr) (cap : Nat), len ≤ cap → (¬ len = 0 → ad.add 0 = ad) → (Instr.sliceAt t (.slice (some ad) len cap) none (some (.int k1 len)) (some (.int k2 len))).run P w = .ok (.slice (some ad) len len) w := by
            intro ad cap hle had
            have e1 : (Instr.sliceBound (.int k2 len) cap .slice3Acap).run P w = .ok len w := by
              have := run_sliceBound (P := P) (w := w) (k := k2) (n := (len : Int)) (y := cap) (code := .slice3Acap) ⟨by omega, by omega⟩
              simpa using this
            have e2 : (Instr.sliceBound (.int k1 len) len .slice3B).run P w = .ok len w := by
              have := run_sliceBound (P := P) (w := w) (k := k1) (n := (len : Int)) (y := len) (code := .slice3B) ⟨by omega, by omega⟩
              simpa using this
            have e3 : (Instr.sliceBounds true len cap none (some (.int k1 len)) (some (.int k2 len))).run P w = .ok (0, len, len) w := by
              unfold Instr.sliceBounds
              simp only [Sem.run_bind, Sem.run_pure, Result.andThen_ok, if_true, e1, e2]
            simp [Instr.sliceAt, Instr.slice, hT.under ht, he, e3, hT.sizeOf hj]
            exact had
          cases hx with
          | ref _ _ _ _ cap c E fz hbn hhp hl2 hs2 =>
            refine ⟨_, key _ _ hl2 (fun _ => by rw [add_lit]; rfl), .ref _ _ _ _ len c E fz hbn hhp (Nat.le_refl _) ?_⟩
            have := Nat.mul_le_mul_right j.size hl2
            omega
          | refz _ _ _ off' hbn => exact ⟨_, key _ _ (Nat.le_refl _) (fun h => absurd rfl h), .refz _ _ _ _ hbn⟩
        · cases e0
      · cases e0
    · cases e0
  · cases e0

theorem sliceP_sound (hT : TOk P T) (hr : Rel G w0 β s acts a w) {t : TypeId} {x lv : LV} {lo hi : Option LV} {vx : Value} {vlo vhi : Option Value}
    (hx : LR β s.H.length w (okOf w0 β s.H w) x vx) (hlo : ∀ x, lo = some x → ∃ v, vlo = some v ∧ LR β s.H.length w (okOf w0 β s.H w) x v) (hlo' : lo = none → vlo = none)
    (hhi : ∀ x, hi = some x → ∃ v, vhi = some v ∧ LR β s.H.length w (okOf w0 β s.H w) x v) (hhi' : hi = none → vhi = none) (h : sliceP T s t x lo hi = some lv) :
    ∃ v, (Instr.sliceAt t vx vlo vhi none).run P w = .ok v w ∧ LR β s.H.length w (okOf w0 β s.H w) lv v := by
  have b0 : ∀ {l : Int}, bnd lo 0 = some l → (vlo = none ∧ l = 0) ∨ ∃ k, vlo = some (.int k l) := fun hb => by
    rcases bnd_rel hb hlo hlo' with ⟨_, h1, h2⟩ | h3
    · exact .inl ⟨h1, by simpa using h2⟩
    · exact .inr h3
  have b1 : ∀ {d : Nat} {l : Int}, bnd hi d = some l → (vhi = none ∧ l = d) ∨ ∃ k, vhi = some (.int k l) := fun hb => by
    rcases bnd_rel hb hhi hhi' with ⟨_, h1, h2⟩ | h3
    · exact .inl ⟨h1, h2⟩
    · exact .inr h3
  unfold sliceP at h
  split at h
  · cases h
  · rename_i i ht
    split at h
    · rename_i str he
      split at h
      · rename_i l hh hl1 hh1
        split at h
        · rename_i hb
          simp only [Option.some.injEq] at h
          subst h
          cases hx with | pv hx =>
          cases hx
          have hs := run_sliceBounds (P := P) (w := w) (isS := false) (cap := str.size) ⟨hb.1, hb.2.1⟩ hb.2.2 (Nat.le_refl _) (b0 hl1) (b1 hh1)
          exact ⟨_, by simp [Instr.sliceAt, Instr.slice, hT.under ht, he, hs], .pv (.str _)⟩
        · cases h
      · cases h
    · rename_i e f cs len he
      split at h
      · rename_i sz l hh hs hl1 hh1
        obtain ⟨j, hj, rfl⟩ := elemSize_spec hs
        split at h
        · rename_i hb
          simp only [Option.some.injEq] at h
          subst h
          cases hx with | pv hx =>
          obtain ⟨v, h1, h2⟩ := slice_sl_sound hT ht he hj hx hb (b0 hl1) (b1 hh1)
          exact ⟨v, h1, .pv h2⟩
        · cases h
      · cases h
    · rename_i e f cs len he
      split at h
      · rename_i sz l hh hs hl1 hh1
        obtain ⟨j, hj, rfl⟩ := elemSize_spec hs
        split at h
        · rename_i hb
          simp only [Option.some.injEq] at h
          subst h
          cases hx with | pv hx =>
          cases hx with
          | nsl0 => omega
          | nsl _ _ _ _ h0 hx =>
          obtain ⟨v, h1, h2⟩ := slice_sl_sound hT ht he hj hx ⟨hb.1, hb.2.1, hb.2.2.1⟩ (b0 hl1) (b1 hh1)
          exact ⟨v, h1, .pv h2⟩
        · cases h
      · cases h
    · rename_i e b len esz he
      split at h
      · rename_i sz l hh hs hl1 hh1
        obtain ⟨j, hj, rfl⟩ := elemSize_spec hs
        split at h
        · rename_i hb
          obtain ⟨rfl, hb⟩ := hb
          simp only [Option.some.injEq] at h
          subst h
          cases hx with
          | nref0 => omega
          | nref _ _ _ _ h0 hx =>
          obtain ⟨v, h1, h2⟩ := slice_ref_sound hT ht he hj hx ⟨hb.1, hb.2.1, hb.2.2.1⟩ (b0 hl1) (b1 hh1)
          rw [Nat.zero_add] at h2
          exact ⟨v, h1, h2⟩
        · cases h
      · cases h
    · rename_i e f cs len he
      split at h
      · rename_i sz l hh hs hl1 hh1
        obtain ⟨j, hj, rfl⟩ := elemSize_spec hs
        split at h
        · rename_i hb
          simp only [Option.some.injEq] at h
          subst h
          cases hx with | pv hx =>
          cases hx with
          | asl0 =>
            have e1 : hh = 0 := by omega
            have e2 : l = 0 := by omega
            subst e1
            subst e2
            have hs := run_sliceBounds (P := P) (w := w) (isS := true) (len := 0) (cap := 0) (l := 0) (h := 0) (by simp) (by simp) (Nat.le_refl _) (b0 hl1) (b1 hh1)
            exact ⟨.slice none 0 0, by simp [Instr.sliceAt, Instr.slice, hT.under ht, he, hs, hT.sizeOf hj], .pv (.asl0 _ _)⟩
          | asl _ _ _ _ hx =>
          obtain ⟨v, h1, h2⟩ := slice_sl_sound hT ht he hj hx hb (b0 hl1) (b1 hh1)
          exact ⟨v, h1, .pv (.asl _ _ _ _ h2)⟩
        · cases h
      · cases h
    · rename_i e he
      split at h
      · rename_i sz l hh hs hl1 hh1
        obtain ⟨j, hj, rfl⟩ := elemSize_spec hs
        split at h
        · rename_i hb
          obtain ⟨rfl, rfl⟩ := hb
          simp only [Option.some.injEq] at h
          subst h
          cases hx with | pv hx =>
          cases hx
          have hs := run_sliceBounds (P := P) (w := w) (isS := true) (len := 0) (cap := 0) (l := 0) (h := 0) (by simp) (by simp) (Nat.le_refl _) (b0 hl1) (b1 hh1)
          exact ⟨.slice none 0 0, by simp [Instr.sliceAt, Instr.slice, hT.under ht, he, hs, hT.sizeOf hj], .pv .nil⟩
        · cases h
      · cases h
    · rename_i e b off len esz he
      split at h
      · rename_i sz l hh hs hl1 hh1
        obtain ⟨j, hj, rfl⟩ := elemSize_spec hs
        split at h
        · rename_i hb
          obtain ⟨rfl, hb⟩ := hb
          simp only [Option.some.injEq] at h
          subst h
          exact slice_ref_sound hT ht he hj hx hb (b0 hl1) (b1 hh1)
        · cases h
      · cases h
    · rename_i n e b off he
      split at h
      · rename_i sz l hh B hs hl1 hh1 hB
        obtain ⟨j, hj, rfl⟩ := elemSize_spec hs
        split at h
        · rename_i hb
          simp only [Option.some.injEq] at h
          subst h
          cases hx with | ptr _ _ hbn =>
          have hs := run_sliceBounds (P := P) (w := w) (isS := false) (cap := n) ⟨hb.1, hb.2.1⟩ hb.2.2.1 (Nat.le_refl _) (b0 hl1) (b1 hh1)
          by_cases hcl : n = l.toNat
          · subst hcl
            have e1 : hh.toNat - l.toNat = 0 := by omega
            refine ⟨.slice (some ⟨β b, off, none⟩) 0 0, ?_, by rw [e1]; exact .refz _ _ _ _ hbn⟩
            simp [Instr.sliceAt, Instr.sureAddr, hT.under ht, he, hs, hT.sizeOf hj, e1]
          · obtain ⟨c, E, fz, h1, h2, h3, h4⟩ := (hr.blk b B hB hb.2.2.2.2.1).row hb.2.2.2.2.2
            refine ⟨.slice (some ⟨β b, off + l.toNat * j.size, none⟩) (hh.toNat - l.toNat) (n - l.toNat), ?_, .ref _ _ _ _ _ c E fz hbn h1 (by omega) ?_⟩
            · simp [Instr.sliceAt, Instr.sureAddr, hT.under ht, he, hs, hT.sizeOf hj, hcl, add_lit]
            · have : (n - l.toNat) * j.size + l.toNat * j.size = n * j.size := by rw [← Nat.add_mul]; congr 1; omega
              omega
        · cases h
      · cases h
    · rename_i n e f cs off he
      split at h
      · rename_i sz l hh hs hl1 hh1
        obtain ⟨j, hj, rfl⟩ := elemSize_spec hs
        split at h
        · rename_i hb
          simp only [Option.some.injEq] at h
          subst h
          cases hx with | pv hx =>
          cases hx with | ip _ _ _ blk o vs h1 hc hv =>
          have hs := run_sliceBounds (P := P) (w := w) (isS := false) (cap := n) ⟨hb.1, hb.2.1⟩ hb.2.2 (Nat.le_refl _) (b0 hl1) (b1 hh1)
          by_cases hcl : n = l.toNat
          · subst hcl
            have e1 : hh.toNat - l.toNat = 0 := by omega
            refine ⟨.slice (some ⟨blk, o + off, none⟩) (hh.toNat - l.toNat) (l.toNat - l.toNat), ?_, .pv (.sl _ _ _ _ _ _ (fun i => vs i) (by omega) (fun i p h => h1 _ _ (get_take_drop h)) ?_ ?_)⟩
            · simp [Instr.sliceAt, Instr.sureAddr, hT.under ht, he, hs, hT.sizeOf hj]
            · intro i hi; rw [e1] at hi; simp at hi
            · intro i p hp; rw [e1] at hp; simp at hp
          · refine ⟨.slice (some ⟨blk, o + off + l.toNat * j.size, none⟩) (hh.toNat - l.toNat) (n - l.toNat), ?_, .pv (.sl _ _ _ _ _ _ (fun i => vs (off + l.toNat * j.size + i)) (by omega) (fun i p h => h1 _ _ (get_take_drop h)) ?_ ?_)⟩
            · simp [Instr.sliceAt, Instr.sureAddr, hT.under ht, he, hs, hT.sizeOf hj, hcl, add_lit]
            · intro i hi
              simp only [List.length_take, List.length_drop] at hi
              have := hc (off + l.toNat * j.size + i) (by omega)
              rw [show o + (off + l.toNat * j.size + i) = o + off + l.toNat * j.size + i by omega] at this
              exact this
            · intro i p hp
              rw [List.getElem?_take] at hp
              split at hp
              · rw [List.getElem?_drop] at hp
                exact hv _ _ hp
              · cases hp
        · cases h
      · cases h
    · cases h

theorem lenP_sound (hT : TOk P T) {n : Nat} {ok : Bool → Nat → Prop} {t ty : TypeId} {x lv : LV} {vx : Value} {ts : Array TypeId} {args : Array Value} (h0 : ts[0]? = some t) (h1 : args[0]? = some vx) (hx : LR β n w ok x vx) (h : lenP T t x = some lv) :
    ∃ v, (Builtin.len_ ts ty args).run P w = .ok v w ∧ LR β n w ok lv v := by
  unfold lenP at h
  split at h
  · cases h
  · rename_i i ht
    split at h
    · rename_i str he
      simp only [Option.some.injEq] at h; subst h
      cases hx with | pv hx =>
      cases hx
      exact ⟨_, by simp [Builtin.len_, h0, h1, hT.under ht, he]; rfl, .pv (.int _ _)⟩
    · rename_i m e he
      simp only [Option.some.injEq] at h; subst h
      exact ⟨_, by simp [Builtin.len_, h0, h1, hT.under ht, he]; rfl, .pv (.int _ _)⟩
    · rename_i f cs len he
      simp only [Option.some.injEq] at h; subst h
      cases hx with | pv hx =>
      cases hx <;> exact ⟨_, by simp [Builtin.len_, h0, h1, hT.under ht, he]; rfl, .pv (.int _ _)⟩
    · rename_i he
      simp only [Option.some.injEq] at h; subst h
      cases hx with | pv hx =>
      cases hx
      exact ⟨_, by simp [Builtin.len_, h0, h1, hT.under ht, he]; rfl, .pv (.int _ _)⟩
    · rename_i b off len esz he
      simp only [Option.some.injEq] at h; subst h
      cases hx <;> exact ⟨_, by simp [Builtin.len_, h0, h1, hT.under ht, he]; rfl, .pv (.int _ _)⟩
    · rename_i f cs len he
      simp only [Option.some.injEq] at h; subst h
      cases hx with | pv hx =>
      cases hx with
      | nsl0 => exact ⟨_, by simp [Builtin.len_, h0, h1, hT.under ht, he]; rfl, .pv (.int _ _)⟩
      | nsl _ _ _ _ _ hx => cases hx <;> exact ⟨_, by simp [Builtin.len_, h0, h1, hT.under ht, he]; rfl, .pv (.int _ _)⟩
    · rename_i b len esz he
      simp only [Option.some.injEq] at h; subst h
      cases hx with
      | nref0 => exact ⟨_, by simp [Builtin.len_, h0, h1, hT.under ht, he]; rfl, .pv (.int _ _)⟩
      | nref _ _ _ _ _ hx => cases hx <;> exact ⟨_, by simp [Builtin.len_, h0, h1, hT.under ht, he]; rfl, .pv (.int _ _)⟩
    · rename_i f cs len he
      simp only [Option.some.injEq] at h; subst h
      cases hx with | pv hx =>
      cases hx with
      | asl0 => exact ⟨_, by simp [Builtin.len_, h0, h1, hT.under ht, he]; rfl, .pv (.int _ _)⟩
      | asl _ _ _ _ hx => cases hx <;> exact ⟨_, by simp [Builtin.len_, h0, h1, hT.under ht, he]; rfl, .pv (.int _ _)⟩
    · rename_i he
      simp only [Option.some.injEq] at h; subst h
      cases hx with | emp a => exact ⟨_, by simp [Builtin.len_, h0, h1, hT.under ht, he]; rfl, .pv (.int _ _)⟩
    · cases h

theorem unP_sound {n : Nat} {ok : Bool → Nat → Prop} {op : UnOp} {x lv : LV} {vx : Value} (hx : LR β n w ok x vx) (h : unP op x = some lv) :
    ∃ v, (Op.unary op vx).run P w = .ok v w ∧ LR β n w ok lv v := by
  unfold unP at h
  split at h
  · simp only [Option.some.injEq] at h; subst h
    cases hx with | pv hx =>
    cases hx
    exact ⟨_, rfl, .pv (.int _ _)⟩
  · simp only [Option.some.injEq] at h; subst h
    cases hx with | pv hx =>
    cases hx
    exact ⟨_, rfl, .pv (.int _ _)⟩
  · simp only [Option.some.injEq] at h; subst h
    cases hx with | pv hx =>
    cases hx
    exact ⟨_, rfl, .pv (.bool _)⟩
  · cases h
end
end Hm
namespace Hm
open Go Go.RowKit

section
variable {P : Program} {T : TypeId → Option TI} {G : Nat → Option (List PV)} {w0 : World} {β : Nat → Nat} {s : St} {acts : List Act} {a : Act} {w : World}

/-- The numbers of byte cells. -/
theorem bytesOf_spec : ∀ {cs : List PV} {l : List UInt8}, bytesOf cs = some l → ∃ ns : List Int, cs = ns.map (PV.int .u8) ∧ l = ns.map fun n => UInt8.ofNat n.toNat
  | [], l, h => ⟨[], rfl, by simpa [bytesOf] using h.symm⟩
  | .int .u8 n :: r, l, h => by
    simp only [bytesOf, Option.map_eq_some_iff] at h
    obtain ⟨l', h1, rfl⟩ := h
    obtain ⟨ns, h2, h3⟩ := bytesOf_spec h1
    exact ⟨n :: ns, by rw [h2]; rfl, by rw [h3]; rfl⟩
  | .int .i8 _ :: _, _, h => by cases h
  | .int .i16 _ :: _, _, h => by cases h
  | .int .i32 _ :: _, _, h => by cases h
  | .int .i64 _ :: _, _, h => by cases h
  | .int .u16 _ :: _, _, h => by cases h
  | .int .u32 _ :: _, _, h => by cases h
  | .int .u64 _ :: _, _, h => by cases h
  | .bool _ :: _, _, h => by cases h
  | .str _ :: _, _, h => by cases h
  | .nil :: _, _, h => by cases h
  | .sl _ _ _ :: _, _, h => by cases h
  | .nsl _ _ _ :: _, _, h => by cases h
  | .asl _ _ _ :: _, _, h => by cases h
  | .agg _ :: _, _, h => by cases h
  | .fn _ _ :: _, _, h => by cases h
  | .nilfn :: _, _, h => by cases h
  | .nilp :: _, _, h => by cases h
  | .ip _ _ _ :: _, _, h => by cases h
  | .ifc _ _ :: _, _, h => by cases h
  | .nilif :: _, _, h => by cases h
  | .nilmap :: _, _, h => by cases h
  | .raw _ :: _, _, h => by cases h

theorem minMax_sound {f : Value → Value → Sem Value} {less : Int → Int → Bool} {k : IntKind} (hf : ∀ x y k', f (.int k x) (.int k' y) = pure (.int k (if less y x then y else x)))
    {n : Nat} {ok : Bool → Nat → Prop} : ∀ (r : List LV) (vs : List Value) (x m : Int), r.length = vs.length → (∀ (i : Nat) lv v, r[i]? = some lv → vs[i]? = some v → LR β n w ok lv v) → minP less x r = some m →
    (vs.foldlM f (.int k x)).run P w = .ok (.int k m) w
  | [], [], x, m, _, _, h => by simp [minP] at h; subst h; rfl
  | lv :: r, v :: vs, x, m, hl, hv, h => by
    have h0 := hv 0 lv v rfl rfl
    cases lv with
    | pv p =>
      cases p with
      | int k' y =>
        cases h0 with | pv h0 =>
        cases h0
        simp only [minP] at h
        have := minMax_sound hf r vs _ m (by simpa using hl) (fun i lv v h1 h2 => hv (i + 1) lv v (by simpa using h1) (by simpa using h2)) h
        rw [List.foldlM_cons, Sem.run_bind, hf]
        exact this
      | _ => cases h
    | _ => cases h

theorem Rel.evs (hr : Rel G w0 β s acts a w) (args : List Operand) (i : Nat) (lv : LV) (v : Value) (h1 : (args.map (s.ev G))[i]? = some lv) (h2 : (args.map a.eval)[i]? = some v) :
    LR β s.H.length w (okOf w0 β s.H w) lv v := by
  rw [List.getElem?_map] at h1 h2
  cases hx : args[i]? with
  | none => rw [hx] at h1; cases h1
  | some x => rw [hx] at h1 h2; simp at h1 h2; subst h1; subst h2; exact hr.ev x

theorem fold_push (ns : List Int) : ∀ b : ByteArray, ns.foldl (fun r n => r.push (UInt8.ofNat n.toNat)) b = ⟨b.data ++ (ns.map fun n => UInt8.ofNat n.toNat).toArray⟩ := by
  induction ns with
  | nil => intro b; simp
  | cons n r ih => intro b; rw [List.foldl_cons, ih]; simp [ByteArray.push]

/-- The bytes of a row as a string. -/
theorem bytesToString_sound {ns : List Int} {blk off cap len : Nat} (hlen : ns.length = len) (hc : ∀ (i : Nat) n, ns[i]? = some n → w.cell? ⟨blk, off + i, none⟩ = some (.int .u8 n)) :
    (Conv.bytesToString (.slice (some ⟨blk, off, none⟩) len cap)).run P w = .ok (.string ⟨(ns.map fun n => UInt8.ofNat n.toNat).toArray⟩) w := by
  have hl := run_loadCells_list (P := P) w ⟨blk, off, none⟩ (ns.map (Value.int .u8)) (fun j v h => by
    rw [add_lit]
    simp only [List.getElem?_map, Option.map_eq_some_iff] at h
    obtain ⟨n, h1, rfl⟩ := h
    exact hc j n h1)
  rw [List.length_map, hlen] at hl
  rw [run_bytesToString w _ len cap ns hl, fold_push]
  simp

theorem convP_sound (hT : TOk P T) (hr : Rel G w0 β s acts a w) {src dst : TypeId} {x lv : LV} {vx : Value} (hx : LR β s.H.length w (okOf w0 β s.H w) x vx) (h : convP T s src dst x = some lv) :
    ∃ v, (convert src dst vx).run P w = .ok v w ∧ LR β s.H.length w (okOf w0 β s.H w) lv v := by
  unfold convP at h
  split at h
  · rename_i i j hi hj
    split at h
    · rename_i k k' m hk
      simp only [Option.some.injEq] at h; subst h
      cases hx with | pv hx =>
      cases hx
      refine ⟨_, ?_, .pv (.int _ _)⟩
      simp only [convert, Sem.run_bind, hT.under hi, hT.under hj, Result.andThen_ok, hk]
      rfl
    · rename_i b h1 h2
      simp only [Option.some.injEq] at h; subst h
      cases hx with | pv hx =>
      cases hx
      refine ⟨_, ?_, .pv (.str _)⟩
      simp only [convert, Sem.run_bind, hT.under hi, hT.under hj, Result.andThen_ok, h1, h2]
      rfl
    · rename_i e x h1 h2
      split at h
      · cases h
      · rename_i ei hei
        have hconv : ∀ v : Value, ei.und = .int .u8 → (∀ k n, v ≠ .int k n) → (∀ y, v ≠ .string y) → (convert src dst v).run P w = (Conv.bytesToString v).run P w := fun v hu hn hn' => by
          simp only [convert, Sem.run_bind, hT.under hi, hT.under hj, Result.andThen_ok, h1, h2]
          cases v <;> first
            | (exfalso; exact hn _ _ rfl)
            | (exfalso; exact hn' _ rfl)
            | simp only [hT.under hei, Result.andThen_ok, hu]
            | simp only [Sem.run_bind, hT.under hei, Result.andThen_ok, hu]
        split at h
        · rename_i hu
          simp only [Option.some.injEq] at h; subst h
          cases hx with | pv hx =>
          cases hx
          exact ⟨.string .empty, by rw [hconv _ hu (by simp) (by simp)]; rfl, .pv (.str _)⟩
        · rename_i cs len hu
          split at h
          · rename_i hlen
            simp only [Option.map_eq_some_iff] at h
            obtain ⟨l, h3, rfl⟩ := h
            obtain ⟨ns, rfl, rfl⟩ := bytesOf_spec h3
            cases hx with | pv hx =>
            cases hx with
            | slz =>
              have : ns = [] := by simpa using hlen
              subst this
              exact ⟨.string .empty, by rw [hconv _ hu (by simp) (by simp)]; rfl, .pv (.str _)⟩
            | sl _ _ _ blk off cap vs hlc h1 hc hv =>
            refine ⟨_, ?_, .pv (.str _)⟩
            rw [hconv _ hu (by simp) (by simp)]
            refine bytesToString_sound (by simpa using hlen) fun i n hn => ?_
            have h4 := hv i (.int .u8 n) (by simp [hn])
            rw [(hc i (by simpa using (List.getElem?_eq_some_iff.1 hn).1)).2, imm_int h4]
          · cases h
        · rename_i cs len hu
          split at h
          · rename_i hlen
            simp only [Option.map_eq_some_iff] at h
            obtain ⟨l, h3, rfl⟩ := h
            obtain ⟨ns, rfl, rfl⟩ := bytesOf_spec h3
            cases hx with | pv hx =>
            cases hx with
            | nsl0 =>
              have : ns = [] := by simpa using hlen
              subst this
              exact ⟨.string .empty, by rw [hconv _ hu (by simp) (by simp)]; rfl, .pv (.str _)⟩
            | nsl _ _ _ _ _ hx =>
            cases hx with
            | slz =>
              have : ns = [] := by simpa using hlen
              subst this
              exact ⟨.string .empty, by rw [hconv _ hu (by simp) (by simp)]; rfl, .pv (.str _)⟩
            | sl _ _ _ blk off cap vs hlc h1 hc hv =>
            refine ⟨_, ?_, .pv (.str _)⟩
            rw [hconv _ hu (by simp) (by simp)]
            refine bytesToString_sound (by simpa using hlen) fun i n hn => ?_
            have h4 := hv i (.int .u8 n) (by simp [hn])
            rw [(hc i (by simpa using (List.getElem?_eq_some_iff.1 hn).1)).2, imm_int h4]
          · cases h
        · rename_i cs len hu
          split at h
          · rename_i hlen
            simp only [Option.map_eq_some_iff] at h
            obtain ⟨l, h3, rfl⟩ := h
            obtain ⟨ns, rfl, rfl⟩ := bytesOf_spec h3
            cases hx with | pv hx =>
            cases hx with
            | asl0 =>
              have : ns = [] := by simpa using hlen
              subst this
              exact ⟨.string .empty, by rw [hconv _ hu (by simp) (by simp)]; rfl, .pv (.str _)⟩
            | asl _ _ _ _ hx =>
            cases hx with
            | slz =>
              have : ns = [] := by simpa using hlen
              subst this
              exact ⟨.string .empty, by rw [hconv _ hu (by simp) (by simp)]; rfl, .pv (.str _)⟩
            | sl _ _ _ blk off cap vs hlc h1 hc hv =>
            refine ⟨_, ?_, .pv (.str _)⟩
            rw [hconv _ hu (by simp) (by simp)]
            refine bytesToString_sound (by simpa using hlen) fun i n hn => ?_
            have h4 := hv i (.int .u8 n) (by simp [hn])
            rw [(hc i (by simpa using (List.getElem?_eq_some_iff.1 hn).1)).2, imm_int h4]
          · cases h
        · rename_i b len esz hu
          split at h
          · rename_i cs hB
            split at h
            · rename_i hle
              simp only [Option.map_eq_some_iff] at h
              obtain ⟨l, h3, rfl⟩ := h
              obtain ⟨ns, rfl, rfl⟩ := bytesOf_spec h3
              cases hx with
              | nref0 _ _ a =>
                have : ns = [] := by simpa using hle.symm
                subst this
                exact ⟨.string .empty, by rw [hconv _ hu (by simp) (by simp)]; cases a <;> rfl, .pv (.str _)⟩
              | nref _ _ _ _ h0 hx =>
              have hne : (Blk.n (ns.map (PV.int .u8))).live = true := by
                cases ns with
                | nil => simp at hle; omega
                | cons => rfl
              obtain ⟨vs, hvs⟩ := hr.cells hB hne
              have hcell : ∀ (i : Nat) n, ns[i]? = some n → w.cell? ⟨β b, 0 + i, none⟩ = some (.int .u8 n) := fun i n hn => by
                have h7 := hvs i (by have := (List.getElem?_eq_some_iff.1 hn).1; simpa [Blk.len] using this)
                have h8 := (h7.2 (.pv (.int .u8 n)) (by simp [Blk.get, hn])).2
                rw [Nat.zero_add]
                cases h8 with | pv h8 => rw [h7.1, imm_int h8]
              refine ⟨_, ?_, .pv (.str _)⟩
              cases hx with
              | ref =>
                rw [hconv _ hu (by simp) (by simp)]
                exact bytesToString_sound (by simpa using hle.symm) hcell
              | refz => omega
            · cases h
          · cases h
        · rename_i b off len esz hu
          split at h
          · rename_i cs hB
            split at h
            · rename_i hle
              simp only [Option.map_eq_some_iff] at h
              obtain ⟨l, h3, rfl⟩ := h
              obtain ⟨ns, h4, rfl⟩ := bytesOf_spec h3
              obtain ⟨vs, hvs⟩ := hr.cells hB rfl
              have hlen : ns.length = len := by
                have := congrArg List.length h4
                simp at this
                omega
              have hcell : ∀ (i : Nat) n, ns[i]? = some n → w.cell? ⟨β b, off + i, none⟩ = some (.int .u8 n) := fun i n hn => by
                have hi : i < len := by have := (List.getElem?_eq_some_iff.1 hn).1; omega
                have h5 : cs[off + i]? = some (.int .u8 n) := by
                  have h6 : ((cs.drop off).take len)[i]? = some (.int .u8 n) := by rw [h4]; simp [hn]
                  rw [List.getElem?_take, if_pos hi, List.getElem?_drop] at h6
                  exact h6
                have h7 := hvs (off + i) (by simp only [Blk.len]; omega)
                have h8 := (h7.2 (.pv (.int .u8 n)) (by simp [Blk.get, h5])).2
                cases h8 with | pv h8 => rw [h7.1, imm_int h8]
              refine ⟨_, ?_, .pv (.str _)⟩
              cases hx with
              | ref =>
                rw [hconv _ hu (by simp) (by simp)]
                exact bytesToString_sound hlen hcell
              | refz =>
                rw [hconv _ hu (by simp) (by simp)]
                have e0 : ns = [] := List.eq_nil_of_length_eq_zero (by omega)
                subst e0
                rfl
            · cases h
          · cases h
        · cases h
    · cases h
  · cases h

theorem pickLV_rel {n : Nat} {ok : Bool → Nat → Prop} {t : Bool} {x y : LV} {vx vy : Value} (hx : LR β n w ok x vx) (hy : LR β n w ok y vy) : LR β n w ok (pickLV t x y) (if t then vx else vy) := by
  unfold pickLV
  split
  · cases hx with | pv hx => cases hy with | pv hy =>
    cases hx; cases hy
    cases t <;> exact .pv (.bool _)
  · cases t
    · exact hy
    · exact hx

theorem sameNow_eq {d : TypeDesc} {a b : Value} (h : Instr.sameNow d a b = some true) : b = a ∧ ∀ n, Instr.sameBits (n + 1) a a = true := by
  unfold Instr.sameNow at h
  split at h
  · split at h
    · rename_i e; subst e; simp at h; subst h; exact ⟨rfl, fun n => by simp [Instr.sameBits]⟩
    · cases h
  · rename_i a b; have h : a = b := (MapKept.bytes_beq a b).1 (by simpa using h); subst h; exact ⟨rfl, fun n => by simp [Instr.sameBits, MapKept.bytes_beq]⟩
  · simp at h; subst h; exact ⟨rfl, fun n => by simp [Instr.sameBits]⟩
  · cases h
theorem sameP_sound {ok : Bool → Nat → Prop} {d : TypeDesc} {p q : PV} {v u : Value} {b : Bool} (hp : Imm w ok p v) (hq : Imm w ok q u) (h : sameP d p q = some b) : Instr.sameNow d v u = some b := by
  unfold sameP at h
  split at h <;> first | (cases hp; cases hq; exact h) | cases h
theorem findP_sound {ok : Bool → Nat → Prop} {d : TypeDesc} {k : PV} {vk : Value} (hk : Imm w ok k vk) : ∀ (kvs : List (PV × PV)) (es : List MapEntry) (i : Nat) (r : Option (Nat × PV)), kvs.length = es.length →
    (∀ (j : Nat) kv e, kvs[j]? = some kv → es[j]? = some e → Imm w ok kv.1 e.key ∧ Imm w ok kv.2 e.val) → findP d k kvs i = some r →
    (r = none ∧ Instr.findNow d vk es i = some none) ∨ ∃ j p e, r = some (i + j, p) ∧ es[j]? = some e ∧ Instr.findNow d vk es i = some (some (i + j, e.val)) ∧ Imm w ok p e.val ∧ e.key = vk ∧ ∀ n, Instr.sameBits (n + 1) vk vk = true
  | [], [], i, r, _, _, h => by simp [findP] at h; subst h; exact .inl ⟨rfl, rfl⟩
  | kv :: kvs, e :: es, i, r, hl, hv, h => by
    obtain ⟨h1, h2⟩ := hv 0 kv e rfl rfl
    simp only [findP] at h
    split at h
    · rename_i hs
      simp only [Option.some.injEq] at h
      subst h
      have h3 := sameP_sound hk h1 hs
      obtain ⟨h4, h5⟩ := sameNow_eq h3
      exact .inr ⟨0, kv.2, e, rfl, rfl, by simp [Instr.findNow, h3], h2, h4, h5⟩
    · rename_i hs
      have h3 := sameP_sound hk h1 hs
      rcases findP_sound hk kvs es (i + 1) r (by simpa using hl) (fun j kv e h h' => hv (j + 1) kv e (by simpa using h) (by simpa using h')) h with ⟨rfl, h4⟩ | ⟨j, p, e', rfl, h4, h5, h6⟩
      · exact .inl ⟨rfl, by simp [Instr.findNow, h3, h4]⟩
      · exact .inr ⟨j + 1, p, e', by simp; omega, by simpa using h4, by simp [Instr.findNow, h3, h5]; omega, h6⟩
    · cases h
theorem keyD_run {ok : Bool → Nat → Prop} {d : TypeDesc} {kt : TypeId} {k : PV} {vk : Value} (hk : Imm w ok k vk) (hd : P.underlying kt = some d) (h : keyD d k = true) (e : Bool) : (Instr.checkKey e 10000 kt vk).run P w = .ok () w := by
  show (Instr.checkKey e (9999 + 1) kt vk).run P w = _
  unfold Instr.checkKey
  simp only [Sem.run_bind, run_under hd, Result.andThen_ok]
  unfold keyD at h
  split at h <;> first | (cases hk; rfl) | cases h
theorem zeroP_sound (hT : TOk P T) {ok : Bool → Nat → Prop} {t : TypeId} {i : TI} (h : T t = some i) : ∃ v, (zeroValue t).run P w = .ok v w ∧ Imm w ok (zeroP i) v := by
  obtain ⟨vs, h1, h2, h3⟩ := hT.zero (w := w) h
  refine ⟨_, h3, ?_⟩
  have hl : i.zero.length = vs.length ∧ ∀ (k : Nat) p v, i.zero[k]? = some p → vs[k]? = some v → p.flat = some v := by
    clear h2 h3
    revert vs h1
    generalize i.zero = zs
    induction zs with
    | nil => intro vs h1; simp at h1; subst h1; simp
    | cons p r ih =>
      intro vs h1
      simp only [List.mapM_cons, Option.pure_def, Option.bind_eq_bind, Option.bind_eq_some_iff, Option.some.injEq] at h1
      obtain ⟨v, h2, vs', h3, rfl⟩ := h1
      obtain ⟨h4, h5⟩ := ih vs' h3
      refine ⟨by simp [h4], fun k q u hq hu => ?_⟩
      cases k with
      | zero => simp at hq hu; subst hq; subst hu; exact h2
      | succ k => exact h5 k q u (by simpa using hq) (by simpa using hu)
  obtain ⟨h4, h5⟩ := hl
  unfold zeroP
  by_cases ha : isAggD i.und = true
  · rw [if_pos ha, if_pos ha]
    refine .agg _ _ (by simpa using h4) (fun k p hp => ?_) fun k p v hp hv => flat_imm (h5 k p v hp (by simpa using hv))
    have : k < vs.length := by have := (List.getElem?_eq_some_iff.1 hp).1; omega
    have := h5 k p vs[k] hp (by simp [this])
    cases p <;> first | rfl | cases this
  · rw [if_neg ha, if_neg ha]
    have h1' := hT.size1 h (by simpa using ha)
    match hz : i.zero, vs, h4, h2 with
    | [], [], _, h2 => simp at h2; omega
    | p :: r, v :: vs', _, _ => exact flat_imm (h5 0 p v (by rw [hz]; rfl) rfl)
theorem lookupP_sound (hT : TOk P T) (hr : Rel G w0 β s acts a w) {t : TypeId} {x ix lv : LV} {ok : Bool} {vx vi : Value} (hx : LR β s.H.length w (okOf w0 β s.H w) x vx) (hi : LR β s.H.length w (okOf w0 β s.H w) ix vi)
    (h : lookupP T s t x ix ok = some lv) : ∃ v, (Instr.lookup t vx vi ok).run P w = .ok v w ∧ LR β s.H.length w (okOf w0 β s.H w) lv v := by
  unfold lookupP at h
  split at h
  · rename_i i k ht
    cases hi with | pv hi =>
    split at h
    · rename_i kt et hu
      split at h
      · rename_i ki ei hki hei
        split at h
        · rename_i hkd
          have hmap := (hT t i ht).und
          rw [hu] at hmap
          have hkey := fun e => keyD_run (P := P) hi (hT kt ki hki).und hkd e
          obtain ⟨zv, hz1, hz2⟩ := zeroP_sound (P := P) (w := w) (ok := okOf w0 β s.H w) hT hei
          have fin : ∀ (es : Array MapEntry) (r : Option (Nat × PV)), (vx = .map none ∧ es = #[] ∨ ∃ r clock, vx = .map (some r) ∧ w.heap[r]? = some (.map es clock)) → ((r = none ∧ Instr.findNow ki.und vi es.toList 0 = some none) ∨ ∃ j p e, r = some (0 + j, p) ∧ es.toList[j]? = some e ∧ Instr.findNow ki.und vi es.toList 0 = some (some (0 + j, e.val)) ∧ Imm w (okOf w0 β s.H w) p e.val ∧ e.key = vi ∧ ∀ n, Instr.sameBits (n + 1) vi vi = true) →
              (match r with
                | some (_, v) => some (if ok = true then LV.tup [.pv v, .pv (.bool true)] else .pv v)
                | none => some (if ok = true then LV.tup [.pv (zeroP ei), .pv (.bool false)] else .pv (zeroP ei))) = some lv → ∃ v, (Instr.lookup t vx vi ok).run P w = .ok v w ∧ LR β s.H.length w (okOf w0 β s.H w) lv v := by
            intro es r hes hr0 hlv
            have two : ∀ (p : PV) (v : Value) (b : Bool), Imm w (okOf w0 β s.H w) p v → LR β s.H.length w (okOf w0 β s.H w) (if ok = true then LV.tup [.pv p, .pv (.bool b)] else .pv p) (if ok = true then .tuple #[v, .bool b] else v) := fun p v b hp => by
              split
              · refine .tup _ _ rfl fun i q u hq hu => ?_
                match i with
                | 0 => simp at hq hu; subst hq; subst hu; exact .pv hp
                | 1 => simp at hq hu; subst hq; subst hu; exact .pv (.bool _)
                | n + 2 => simp at hq
              · exact .pv hp
            rcases hr0 with ⟨rfl, h1⟩ | ⟨j, p, e, rfl, _, h1, h2, _⟩
            · simp only [Option.some.injEq] at hlv
              subst hlv
              refine ⟨_, ?_, two _ _ false hz2⟩
              rcases hes with ⟨rfl, rfl⟩ | ⟨b, clock, rfl, hb⟩
              · simp only [Instr.lookup, Sem.run_bind, run_under hmap, Result.andThen_ok, hkey, Instr.findKey, run_under (hT kt ki hki).und, h1, Sem.run_pure, hz1]
              · simp only [Instr.lookup, Sem.run_bind, run_under hmap, Result.andThen_ok, MapKept.run_getObj_map hb, hkey, Instr.findKey, run_under (hT kt ki hki).und, h1, Sem.run_pure, hz1]
            · simp only [Option.some.injEq] at hlv
              subst hlv
              refine ⟨_, ?_, two _ _ true h2⟩
              rcases hes with ⟨rfl, rfl⟩ | ⟨b, clock, rfl, hb⟩
              · simp only [Instr.lookup, Sem.run_bind, run_under hmap, Result.andThen_ok, hkey, Instr.findKey, run_under (hT kt ki hki).und, h1, Sem.run_pure]
              · simp only [Instr.lookup, Sem.run_bind, run_under hmap, Result.andThen_ok, MapKept.run_getObj_map hb, hkey, Instr.findKey, run_under (hT kt ki hki).und, h1, Sem.run_pure]
          have hm : ∃ r, mapP s ki.und k x = some r := by
            cases hm : mapP s ki.und k x with
            | none => rw [hm] at h; cases h
            | some r => exact ⟨r, rfl⟩
          obtain ⟨r, hm⟩ := hm
          have h' : (match (generalizing := false) r with
                | some (_, v) => some (if ok = true then LV.tup [.pv v, .pv (.bool true)] else .pv v)
                | none => some (if ok = true then LV.tup [.pv (zeroP ei), .pv (.bool false)] else .pv (zeroP ei))) = some lv := by
            rw [hm] at h
            cases r <;> exact h
          unfold mapP at hm
          cases x with
          | mref b =>
            cases hx with | mref _ hb =>
            simp only at hm
            cases hH : s.H[b]? with
            | none => rw [hH] at hm; cases hm
            | some B =>
              rw [hH] at hm
              cases B with
              | m kvs =>
                obtain ⟨es, clock, k1, k2, k3⟩ := (hr.blk b _ hH rfl).2 kvs rfl
                exact fin es r (.inr ⟨_, clock, rfl, k1⟩) (findP_sound hi kvs es.toList 0 r (by simpa using k2) (fun j kv e h h' => k3 j kv e h (by simpa using h')) hm) h'
              | _ => cases hm
          | pv p =>
            cases p with
            | nilmap =>
              cases hx with | pv hx =>
              cases hx
              simp only [Option.some.injEq] at hm
              subst hm
              exact fin #[] none (.inl ⟨rfl, rfl⟩) (.inl ⟨rfl, rfl⟩) h'
            | _ => cases hm
          | _ => cases hm
        · cases h
      · cases h
    · cases h
  · cases h
theorem eqL_append : ∀ {l r : List TypeDesc} {cs ds : List PV} {b : Bool}, eqL (l ++ r) cs ds = some b → ∃ b1 b2, eqL l (cs.take l.length) (ds.take l.length) = some b1 ∧ eqL r (cs.drop l.length) (ds.drop l.length) = some b2 ∧ b = (b1 && b2)
  | [], r, cs, ds, b, h => ⟨true, b, by simp [eqL], by simpa using h, by simp⟩
  | d :: l, r, [], _, b, h => by simp [eqL] at h
  | d :: l, r, _ :: _, [], b, h => by simp [eqL] at h
  | d :: l, r, x :: cs, y :: ds, b, h => by
    simp only [List.cons_append, eqL] at h
    split at h
    · rename_i p q h1 h2
      simp only [Option.some.injEq] at h
      subst h
      obtain ⟨b1, b2, h3, h4, rfl⟩ := eqL_append h2
      exact ⟨p && b1, b2, by simp [eqL, h1, h3], by simpa using h4, by cases p <;> simp⟩
    · cases h
theorem eqL_len : ∀ {l : List TypeDesc} {cs ds : List PV} {b : Bool}, eqL l cs ds = some b → cs.length = l.length ∧ ds.length = l.length
  | [], [], [], _, _ => ⟨rfl, rfl⟩
  | _ :: l, _ :: cs, _ :: ds, b, h => by
    simp only [eqL] at h
    split at h
    · rename_i h2
      have := eqL_len h2
      simp [this.1, this.2]
    · cases h
  | [], _ :: _, _, _, h => by simp [eqL] at h
  | [], [], _ :: _, _, h => by simp [eqL] at h
  | _ :: _, [], _, _, h => by simp [eqL] at h
  | _ :: _, _ :: _, [], _, h => by simp [eqL] at h
def shapeP (d : TypeDesc) (p : PV) : Prop := (isAggD d = true → ∃ cs, p = .agg cs) ∧ (isAggD d = false → p.one = true)
theorem prd_shape {cs : List PV} {d : TypeDesc} {off sz : Nat} {p : PV} (h1 : ∀ (i : Nat) p, cs[i]? = some p → p.one = true) (h : prd cs (isAggD d) off sz = some p) : shapeP d p := by
  unfold prd at h
  split at h
  · rename_i ha
    split at h
    · simp only [Option.some.injEq] at h; subst h; exact ⟨fun _ => ⟨_, rfl⟩, fun h => by rw [ha] at h; cases h⟩
    · cases h
  · rename_i ha
    exact ⟨fun h => absurd h ha, fun _ => h1 _ _ h⟩
theorem prd_cells {cs : List PV} {agg : Bool} {off sz : Nat} (h1 : ∀ (i : Nat) p, cs[i]? = some p → p.one = true) (hle : off + sz ≤ cs.length) (hs : agg = false → sz = 1) : ∃ p, prd cs agg off sz = some p ∧ pcells p = (cs.drop off).take sz := by
  cases agg with
  | true => exact ⟨.agg ((cs.drop off).take sz), by simp [prd, hle], rfl⟩
  | false =>
    have := hs rfl
    subst this
    have hlt : off < cs.length := by omega
    refine ⟨cs[off], by simp [prd, hlt], ?_⟩
    rw [pcells_one (h1 off _ (by simp [hlt]))]
    rw [List.drop_eq_getElem_cons hlt]
    rfl
theorem sameNow_run {t : TypeId} {d : TypeDesc} {v u : Value} {b : Bool} (hu : P.underlying t = some d) (h : Instr.sameNow d v u = some b) (n : Nat) : (Op.equalIn (n + 1) t v u).run P w = .ok b w := by
  unfold Instr.sameNow at h
  split at h
  · split at h
    · rename_i e
      subst e
      simp only [Option.some.injEq] at h
      subst h
      simp [Op.equalIn, run_under hu]
    · cases h
  · simp only [Option.some.injEq] at h
    subst h
    simp [Op.equalIn, run_under hu]
  · simp only [Option.some.injEq] at h
    subst h
    simp [Op.equalIn, run_under hu]
  · cases h
theorem zerosL'_eq (l : List TypeDesc) (m : Nat) : leavesT.zerosL' l m = (List.replicate m l).flatten := by
  unfold leavesT.zerosL'
  split
  · rename_i d
    induction m with
    | zero => rfl
    | succ m ih => rw [List.replicate_succ, List.replicate_succ, List.flatten_cons, ← ih]; rfl
  · rfl
theorem equalIn_leaves (hT : TOk P T) {ok : Bool → Nat → Prop} : ∀ (n d : Nat) (t : TypeId) (i : TI) (ls : List TypeDesc) (p q : PV) (v u : Value) (b : Bool), T t = some i → leavesT T n t = some ls → shapeP i.und p → shapeP i.und q → Imm w ok p v → Imm w ok q u →
    eqL ls (pcells p) (pcells q) = some b → (Op.equalIn (d + n) t v u).run P w = .ok b w := by
  intro n
  induction n with
  | zero => intro d t i ls p q v u b ht hl; simp [leavesT] at hl
  | succ n IH =>
    intro d t i ls p q v u b ht hl hp hq hv hu he
    have leaf : ∀ dd, i.und = dd → isAggD dd = false → ls = [dd] → (Op.equalIn (d + (n + 1)) t v u).run P w = .ok b w := fun dd hdd ha e => by
      subst e
      have p1 := hp.2 (by rw [hdd]; exact ha)
      have q1 := hq.2 (by rw [hdd]; exact ha)
      rw [pcells_one p1, pcells_one q1] at he
      simp only [eqL] at he
      split at he
      · rename_i x y h1 h2
        simp only [Option.some.injEq] at he h2
        subst he
        rw [← h2, Bool.and_true]
        exact sameNow_run ((hT t i ht).und.trans (by rw [hdd])) (sameP_sound hv hu h1) (d + n)
      · cases he
    have step : ∀ (e : TypeId) (j : TI) (l : List TypeDesc) (cs ds : List PV) (xs ys : Array Value) (off : Nat) (b1 : Bool), T e = some j → leavesT T n e = some l → l.length = j.size → CR PV.one (Imm w ok) cs xs → CR PV.one (Imm w ok) ds ys →
        eqL l ((cs.drop off).take l.length) ((ds.drop off).take l.length) = some b1 → ∃ v1 u1, (part e xs off).run P w = .ok v1 w ∧ (part e ys off).run P w = .ok u1 w ∧ (Op.equalIn (d + n) e v1 u1).run P w = .ok b1 w := fun e j l cs ds xs ys off b1 he hl hlen hcs hds hb => by
      obtain ⟨k1, k2⟩ := eqL_len hb
      have hz : l.length = 0 ∨ 0 < l.length := by omega
      have hsz1 : isAggD j.und = false → j.size = 1 := hT.size1 he
      have hpos : 0 < j.size := by
        by_cases ha : isAggD j.und = true
        · exact hT.aggPos he ha
        · have := hsz1 (by simpa using ha); omega
      have l1 : off + j.size ≤ cs.length := by rw [List.length_take, List.length_drop] at k1; omega
      have l2 : off + j.size ≤ ds.length := by rw [List.length_take, List.length_drop] at k2; omega
      obtain ⟨p1, e1, e2⟩ := prd_cells (agg := isAggD j.und) hcs.one l1 hsz1
      obtain ⟨q1, e3, e4⟩ := prd_cells (agg := isAggD j.und) hds.one l2 hsz1
      obtain ⟨v1, r1, m1⟩ := part_pv (P := P) hT he hcs.len hcs.one hcs.rel e1
      obtain ⟨u1, r2, m2⟩ := part_pv (P := P) hT he hds.len hds.one hds.rel e3
      exact ⟨v1, u1, r1, r2, IH d e j l p1 q1 v1 u1 b1 he hl (prd_shape hcs.one e1) (prd_shape hds.one e3) m1 m2 (by rw [e2, e4, ← hlen]; exact hb)⟩
    simp only [leavesT, ht] at hl
    split at hl
    · rename_i hd; simp only [Option.some.injEq] at hl; exact leaf _ hd rfl hl.symm
    · rename_i hd; simp only [Option.some.injEq] at hl; exact leaf _ hd rfl hl.symm
    · rename_i hd; simp only [Option.some.injEq] at hl; exact leaf _ hd rfl hl.symm
    · rename_i fs hd
      split at hl
      · rename_i hok
        obtain ⟨g1, g2, g3⟩ := (hT t i ht).eqok hok
        obtain ⟨cs, rfl⟩ := hp.1 (by rw [hd]; rfl)
        obtain ⟨ds, rfl⟩ := hq.1 (by rw [hd]; rfl)
        cases hv with | agg _ xs a1 a2 a3 =>
        cases hu with | agg _ ys c1 c2 c3 =>
        have hcs : CR PV.one (Imm w ok) cs xs := ⟨a1, a2, a3⟩
        have hds : CR PV.one (Imm w ok) ds ys := ⟨c1, c2, c3⟩
        have hund : P.underlying t = some (.struct fs) := (hT t i ht).und.trans (by rw [hd])
        have hf : P.fieldsOf t = fs := by simp [Program.fieldsOf, hund]
        rw [show d + (n + 1) = (d + n) + 1 from rfl, run_equalIn_struct w (d + n) t xs ys (by rw [hf]; exact hund) g1, hf]
        have hn := g3 fs hd
        simp only [pcells] at he
        have key : ∀ (fl : List Field) (off : Nat) (ls : List TypeDesc) (b : Bool), (∀ f ∈ fl, f.name ≠ "_") → leavesF T (leavesT T n) off fl = some ls → eqL ls (cs.drop off) (ds.drop off) = some b → (Op.eqFields (d + n) xs ys fl).run P w = .ok b w := by
          intro fl
          induction fl with
          | nil =>
            intro off ls b _ h1 h2
            simp only [leavesF, Option.some.injEq] at h1
            subst h1
            have := eqL_len h2
            have e1 : cs.drop off = [] := List.eq_nil_of_length_eq_zero this.1
            have e2 : ds.drop off = [] := List.eq_nil_of_length_eq_zero this.2
            rw [e1, e2] at h2
            simp only [eqL, Option.some.injEq] at h2
            subst h2
            simp [Op.eqFields]
          | cons f r ih =>
            intro off ls b hnm h1 h2
            simp only [leavesF] at h1
            split at h1
            · rename_i j l rest hj hl hrest
              split at h1
              · rename_i hoff
                simp only [Option.some.injEq] at h1
                subst h1
                obtain ⟨b1, b2, h3, h4, rfl⟩ := eqL_append h2
                obtain ⟨v1, u1, r1, r2, r3⟩ := step f.type j l cs ds xs ys off b1 hj hl hoff.2 hcs hds h3
                simp only [hj] at hrest
                rw [List.drop_drop, List.drop_drop, hoff.2] at h4
                have h5 := ih (off + j.size) rest b2 (fun g hg => hnm g (.tail _ hg)) hrest h4
                simp only [Op.eqFields, hnm f (by simp), ne_eq, not_false_eq_true, if_true, Sem.run_bind, hoff.1, r1, r2, r3, Result.andThen_ok]
                cases b1
                · simp
                · simpa using h5
              · cases h1
            · cases h1
        exact key fs.toList 0 ls b hn hl (by simpa using he)
      · cases hl
    · rename_i m e hd
      split at hl
      · rename_i hok
        obtain ⟨g1, g2, g3⟩ := (hT t i ht).eqok hok
        split at hl
        · rename_i j l hj hlj
          split at hl
          · rename_i hlen
            simp only [Option.some.injEq] at hl
            subst hl
            obtain ⟨cs, rfl⟩ := hp.1 (by rw [hd]; rfl)
            obtain ⟨ds, rfl⟩ := hq.1 (by rw [hd]; rfl)
            cases hv with | agg _ xs a1 a2 a3 =>
            cases hu with | agg _ ys c1 c2 c3 =>
            have hcs : CR PV.one (Imm w ok) cs xs := ⟨a1, a2, a3⟩
            have hds : CR PV.one (Imm w ok) ds ys := ⟨c1, c2, c3⟩
            have hund : P.underlying t = some (.array m e) := (hT t i ht).und.trans (by rw [hd])
            obtain ⟨inf, _, _, hinf, hisz, _⟩ := (hT e j hj).info
            have hco : P.cellsOf e = j.size := by simp [Program.cellsOf, hinf, hisz]
            rw [show d + (n + 1) = (d + n) + 1 from rfl, run_equalIn_array w (d + n) xs ys hund hinf, hco]
            rw [zerosL'_eq] at he
            simp only [pcells] at he
            have key : ∀ (c k : Nat) (b : Bool), eqL (List.replicate c l).flatten (cs.drop (k * j.size)) (ds.drop (k * j.size)) = some b → (Op.eqItems (d + n) e j.size xs ys (List.range' k c)).run P w = .ok b w := by
              intro c
              induction c with
              | zero =>
                intro k b h2
                have := eqL_len h2
                simp only [List.replicate_zero, List.flatten_nil, List.length_nil] at this
                have e1 : cs.drop (k * j.size) = [] := List.eq_nil_of_length_eq_zero this.1
                have e2 : ds.drop (k * j.size) = [] := List.eq_nil_of_length_eq_zero this.2
                rw [e1, e2] at h2
                simp only [List.replicate_zero, List.flatten_nil, eqL, Option.some.injEq] at h2
                subst h2
                simp [Op.eqItems]
              | succ c ih =>
                intro k b h2
                rw [List.replicate_succ, List.flatten_cons] at h2
                obtain ⟨b1, b2, h3, h4, rfl⟩ := eqL_append h2
                obtain ⟨v1, u1, r1, r2, r3⟩ := step e j l cs ds xs ys (k * j.size) b1 hj hlj hlen hcs hds h3
                rw [List.drop_drop, List.drop_drop, hlen] at h4
                have e5 : k * j.size + j.size = (k + 1) * j.size := by rw [Nat.add_mul, Nat.one_mul]
                rw [e5] at h4
                have h5 := ih (k + 1) b2 h4
                simp only [List.range'_succ, Op.eqItems, Sem.run_bind, r1, r2, r3, Result.andThen_ok]
                cases b1
                · simp
                · simpa using h5
            rw [List.range_eq_range']
            exact key m 0 b (by simpa using he)
          · cases hl
        · cases hl
      · cases hl
    · cases hl
theorem agg_und {t : TypeId} {i : TI} {n : Nat} {ls : List TypeDesc} (ht : T t = some i) (hl : leavesT T n t = some ls) (ha : isAggD i.und = true) : i.eqok = true := by
  cases n with
  | zero => simp [leavesT] at hl
  | succ n =>
    simp only [leavesT, ht] at hl
    split at hl
    · rename_i h; rw [h] at ha; cases ha
    · rename_i h; rw [h] at ha; cases ha
    · rename_i h; rw [h] at ha; cases ha
    · split at hl
      · assumption
      · cases hl
    · split at hl
      · assumption
      · cases hl
    · cases hl
theorem eqI_nn {t : TypeId} {ms} (h : P.underlying t = some (.interface ms)) (n : Nat) : (Op.equalIn (n + 1) t .nilIface .nilIface).run P w = .ok true w := by simp [Op.equalIn, run_under h]
theorem eqI_xn {t : TypeId} {ms} (h : P.underlying t = some (.interface ms)) (n : Nat) (a : TypeId) (v : Value) : (Op.equalIn (n + 1) t (.iface a v) .nilIface).run P w = .ok false w := by simp [Op.equalIn, run_under h]
theorem eqI_nx {t : TypeId} {ms} (h : P.underlying t = some (.interface ms)) (n : Nat) (a : TypeId) (v : Value) : (Op.equalIn (n + 1) t .nilIface (.iface a v)).run P w = .ok false w := by simp [Op.equalIn, run_under h]
theorem eqP_nn {t : TypeId} {ms} (h : P.underlying t = some (.pointer ms)) (n : Nat) : (Op.equalIn (n + 1) t (.pointer none) (.pointer none)).run P w = .ok true w := by simp [Op.equalIn, run_under h]
theorem eqP_xn {t : TypeId} {ms} (h : P.underlying t = some (.pointer ms)) (n : Nat) (a : Addr) : (Op.equalIn (n + 1) t (.pointer (some a)) (.pointer none)).run P w = .ok false w := by simp [Op.equalIn, run_under h]
theorem binP_sound (hT : TOk P T) {op : BinOp} {t : TypeId} {i : TI} {x y : Operand} {lx ly : LV} {vx vy : Value} {n : Nat} {ok : Bool → Nat → Prop} {p : PV} (ht : T t = some i)
    (hx : LR β n w ok lx vx) (hy : LR β n w ok ly vy) (h : binP T t i.und op (isConst x) (isConst y) lx ly = some p) :
    ∃ v, (do eqGuard op t x y vx vy; binOp op t vx vy).run P w = .ok v w ∧ p.flat = some v := by
  have hu := (hT t i ht).und
  have key : ∀ (vx vy : Value) (b : Bool), (eqGuard op t x y vx vy).run P w = .ok () w → (Op.equal t vx vy).run P w = .ok b w → (binOp .eql t vx vy = (do pure (.bool (← Op.equal t vx vy)))) → (binOp .neq t vx vy = (do pure (.bool (!(← Op.equal t vx vy))))) → ∀ p, eqNil op b = some p →
      ∃ v, (do eqGuard op t x y vx vy; binOp op t vx vy).run P w = .ok v w ∧ p.flat = some v := fun vx vy b h1 h2 h3 h4 p hp => by
    rw [Sem.run_bind, h1]
    unfold eqNil at hp
    split at hp
    · simp only [Option.some.injEq] at hp; subst hp
      exact ⟨_, run_eql_of h2 h3, rfl⟩
    · simp only [Option.some.injEq] at hp; subst hp
      exact ⟨_, run_neq_of h2 h4, rfl⟩
    · cases hp
  unfold binP at h
  split at h
  · rename_i cs ds
    cases hx with | pv hx => cases hy with | pv hy =>
    have hx' := hx
    have hy' := hy
    cases hx with | agg _ xs a1 a2 a3 =>
    cases hy with | agg _ ys c1 c2 c3 =>
    split at h
    · rename_i hag
      unfold pagg at h
      cases hl : leavesT T 4 t with
      | none => rw [hl] at h; cases h
      | some ls =>
        rw [hl] at h
        simp only at h
        cases he : eqL ls cs ds with
        | none => rw [he] at h; cases h
        | some b =>
          rw [he] at h
          simp only at h
          obtain ⟨g1, g2, g3⟩ := (hT t i ht).eqok (agg_und ht hl hag)
          have hsh : ∀ c, shapeP i.und (.agg c) := fun c => ⟨fun _ => ⟨c, rfl⟩, fun h => by rw [hag] at h; cases h⟩
          have heq := equalIn_leaves hT 4 9996 t i ls (.agg cs) (.agg ds) _ _ b ht hl (hsh cs) (hsh ds) hx' hy' he
          refine key _ _ b (run_eqGuard_agg w op t x y xs ys g2) ?_ ?_ ?_ p ?_
          · rw [equal_eq]; exact heq
          · rfl
          · rfl
          · cases op <;> first | exact h | cases h
    · cases h
  · cases hx with | pv hx => cases hy with | pv hy =>
    cases hx; cases hy
    split at h
    · rename_i hc
      obtain ⟨ms, hd⟩ : ∃ ms, i.und = .interface ms := by
        have h1 := hc.1
        unfold isIfD at h1
        split at h1
        · exact ⟨_, ‹_›⟩
        · cases h1
      have hg : (eqGuard op t x y .nilIface .nilIface).run P w = .ok () w := by
        have h2 := hc.2
        cases x <;> cases y <;> simp [isConst] at h2 <;> cases op <;> simp [eqGuard]
      exact key _ _ true hg (by rw [equal_eq]; exact eqI_nn (hu.trans (by rw [hd])) 9999) rfl rfl p h
    · cases h
  · cases hx with | pv hx => cases hy with | pv hy =>
    cases hx; cases hy
    split at h
    · rename_i hc
      obtain ⟨ms, hd⟩ : ∃ ms, i.und = .interface ms := by
        unfold isIfD at hc
        split at hc
        · exact ⟨_, ‹_›⟩
        · cases hc
      exact key _ _ false (by cases op <;> simp [eqGuard]) (by rw [equal_eq]; exact eqI_xn (hu.trans (by rw [hd])) 9999 _ _) rfl rfl p h
    · cases h
  · cases hx; cases hy with | pv hy =>
    cases hy
    split at h
    · rename_i hc
      obtain ⟨ms, hd⟩ : ∃ ms, i.und = .interface ms := by
        unfold isIfD at hc
        split at hc
        · exact ⟨_, ‹_›⟩
        · cases hc
      exact key _ _ false (by cases op <;> simp [eqGuard]) (by rw [equal_eq]; exact eqI_xn (hu.trans (by rw [hd])) 9999 _ _) rfl rfl p h
    · cases h
  · cases hx with | pv hx => cases hy with | pv hy =>
    cases hx; cases hy
    split at h
    · rename_i hc
      obtain ⟨ms, hd⟩ : ∃ ms, i.und = .interface ms := by
        unfold isIfD at hc
        split at hc
        · exact ⟨_, ‹_›⟩
        · cases hc
      exact key _ _ false (by cases op <;> simp [eqGuard]) (by rw [equal_eq]; exact eqI_nx (hu.trans (by rw [hd])) 9999 _ _) rfl rfl p h
    · cases h
  · cases hx with | pv hx => cases hy with | pv hy =>
    cases hx; cases hy
    split at h
    · rename_i hc
      obtain ⟨ms, hd⟩ : ∃ ms, i.und = .pointer ms := by
        unfold isPtD at hc
        split at hc
        · exact ⟨_, ‹_›⟩
        · cases hc
      exact key _ _ true (by cases op <;> simp [eqGuard]) (by rw [equal_eq]; exact eqP_nn (hu.trans (by rw [hd])) 9999) rfl rfl p h
    · cases h
  · cases hx; cases hy with | pv hy =>
    cases hy
    split at h
    · rename_i hc
      obtain ⟨ms, hd⟩ : ∃ ms, i.und = .pointer ms := by
        unfold isPtD at hc
        split at hc
        · exact ⟨_, ‹_›⟩
        · cases hc
      exact key _ _ false (by cases op <;> simp [eqGuard]) (by rw [equal_eq]; exact eqP_xn (hu.trans (by rw [hd])) 9999 _) rfl rfl p h
    · cases h
  · cases hx with | pv hx => cases hy with | pv hy =>
    cases hx; cases hy
    split at h
    · rename_i hc
      obtain ⟨ms, hd⟩ : ∃ ms, i.und = .pointer ms := by
        unfold isPtD at hc
        split at hc
        · exact ⟨_, ‹_›⟩
        · cases hc
      exact key _ _ false (by cases op <;> simp [eqGuard]) (by rw [equal_eq]; exact eqP_xn (hu.trans (by rw [hd])) 9999 _) rfl rfl p h
    · cases h
  · exact pbin_sound hu hx hy h
/-- What an operation without new memory comes to. -/
theorem opP_sound (hT : TOk P T) (hr : Rel G w0 β s acts a w) {o : Oper} {lv : LV} (h : opP T s (s.ev G) o.op = some lv) :
    ∃ v, (execOp a.eval o).run P w = .ok (.value v) w ∧ LR β s.H.length w (okOf w0 β s.H w) lv v := by
  have hv : ∀ {x : Sem Value} {v : Value}, x.run P w = .ok v w → (do pure (Next.value (← x)) : Sem Next).run P w = .ok (.value v) w := fun h => by rw [Sem.run_bind, h]; rfl
  obtain ⟨dst, op, type, pos, after, guard⟩ := o
  cases op with
  | move x =>
    simp only [opP, Option.some.injEq] at h; subst h
    exact ⟨_, rfl, hr.ev x⟩
  | assign x =>
    simp only [opP, Option.some.injEq] at h; subst h
    exact ⟨_, rfl, hr.ev x⟩
  | pick c x y =>
    simp only [opP] at h
    split at h
    · rename_i t hc
      simp only [Option.some.injEq] at h; subst h
      have h1 := hr.ev c
      rw [hc] at h1
      refine ⟨_, ?_, pickLV_rel (t := t) (hr.ev x) (hr.ev y)⟩
      have h2 : a.eval c = .bool t := by cases h1 with | pv h1 => generalize a.eval c = z at h1; cases h1; rfl
      simp only [execOp, h2, asBool, Sem.run_bind, Sem.run_pure, Result.andThen_ok]
    · cases h
  | load t x =>
    obtain ⟨v, h1, h2⟩ := loadP_sound hT hr (hr.ev x) h
    exact ⟨v, hv h1, h2⟩
  | nilCheck x =>
    simp only [opP] at h
    have h1 := hr.ev x
    split at h <;> simp only [Option.some.injEq, reduceCtorEq] at h <;> subst h <;> rename_i hx <;> rw [hx] at h1
    all_goals
      generalize hz : a.eval x = z at h1
      refine ⟨z, ?_, h1⟩
      simp only [execOp, hz]
    · cases h1; rfl
    · cases h1 with | pv h1 => cases h1; rfl
    · cases h1 with | pv h1 => cases h1; rfl
    · cases h1; rfl
  | binOp op t x y yt =>
    simp only [opP] at h
    split at h
    · rename_i i hi
      simp only [Option.map_eq_some_iff] at h
      obtain ⟨p, h1, rfl⟩ := h
      obtain ⟨v, h2, h3⟩ := binP_sound (P := P) (w := w) (x := x) (y := y) hT hi (hr.ev x) (hr.ev y) h1
      exact ⟨v, hv h2, .pv (flat_imm h3)⟩
    · cases h
  | unOp op t x =>
    obtain ⟨v, h1, h2⟩ := unP_sound (P := P) (hr.ev x) h
    exact ⟨v, hv h1, h2⟩
  | convert src dst x =>
    obtain ⟨v, h1, h2⟩ := convP_sound hT hr (hr.ev x) h
    exact ⟨v, hv h1, h2⟩
  | fieldAddr t x f =>
    obtain ⟨v, h1, h2⟩ := fieldAddrP_sound (P := P) hT (hr.ev x) h
    exact ⟨v, hv h1, h2⟩
  | field t x f =>
    obtain ⟨v, h1, h2⟩ := fieldP_sound (P := P) hT (hr.ev x) h
    exact ⟨v, hv h1, h2⟩
  | indexAddr t x ix =>
    obtain ⟨v, h1, h2⟩ := indexAddrP_sound (P := P) hT (hr.ev x) (hr.ev ix) h
    exact ⟨v, hv h1, h2⟩
  | index t x ix =>
    obtain ⟨v, h1, h2⟩ := indexP_sound (P := P) hT (hr.ev x) (hr.ev ix) h
    exact ⟨v, hv h1, h2⟩
  | lookup t x ix ok =>
    obtain ⟨v, h1, h2⟩ := lookupP_sound (P := P) hT hr (hr.ev x) (hr.ev ix) h
    exact ⟨v, hv h1, h2⟩
  | slice t x lo hi mx =>
    cases mx with
    | some m =>
      cases lo with
      | some l => cases hi <;> cases h
      | none =>
        cases hi with
        | none => cases h
        | some hh =>
          obtain ⟨v, h1, h2⟩ := slice3P_sound (P := P) hT (hr.ev x) (hr.ev hh) (hr.ev m) h
          exact ⟨v, hv h1, h2⟩
    | none =>
      obtain ⟨v, h1, h2⟩ := sliceP_sound (P := P) (vx := a.eval x) (vlo := lo.map a.eval) (vhi := hi.map a.eval) hT hr (hr.ev x)
        (fun y hy => by cases lo with | none => cases hy | some l => simp at hy; subst hy; exact ⟨_, rfl, hr.ev l⟩) (fun hn => by simpa using hn)
        (fun y hy => by cases hi with | none => cases hy | some l => simp at hy; subst hy; exact ⟨_, rfl, hr.ev l⟩) (fun hn => by simpa using hn) h
      exact ⟨v, hv h1, h2⟩
  | extract x ix =>
    simp only [opP] at h
    split at h
    · rename_i vs hx
      have h1 := hr.ev x
      rw [hx] at h1
      generalize hz : a.eval x = z at h1
      cases h1 with | tup _ us hl hu =>
      have hlt : ix < us.size := by have := (List.getElem?_eq_some_iff.1 h).1; omega
      refine ⟨us[ix], hv ?_, hu _ _ _ h (by simp [hlt])⟩
      simp [Instr.extract, hz, hlt]
    · cases h
  | makeInterface t x =>
    simp only [opP] at h
    split at h
    · rename_i i hi
      split at h
      · cases h
      · rename_i hne
        have hrun : (Instr.makeInterface t (a.eval x)).run P w = .ok (.iface t (a.eval x)) w := by
          simp only [Instr.makeInterface, Sem.run_bind, hT.under hi, Result.andThen_ok]
          first
          | rfl
          | (split
             · rename_i ms hms; exact absurd hms (hne ms)
             · rfl)
        have h1 := hr.ev x
        split at h
        · rename_i p hp
          simp only [Option.some.injEq] at h; subst h
          rw [hp] at h1
          cases h1 with | pv h1 => exact ⟨_, hv hrun, .pv (.ifc _ _ _ h1)⟩
        · simp only [Option.some.injEq] at h; subst h
          exact ⟨_, hv hrun, .ifc _ _ _ h1⟩
    · cases h
  | makeFunc fn first captured =>
    cases fn with
    | func f =>
      simp only [opP] at h
      split at h
      · rename_i h0
        have hf : first = #[] := Array.eq_empty_of_size_eq_zero h0
        subst hf
        simp only [Option.some.injEq] at h; subst h
        refine ⟨.func (.func f) #[] (captured.map a.eval), by simp [execOp, Instr.makeFunc], ?_⟩
        have hall : ∀ (i : Nat) lv v, (captured.toList.map (s.ev G))[i]? = some lv → (captured.map a.eval)[i]? = some v → LR β s.H.length w (okOf w0 β s.H w) lv v := fun i lv v h1 h2 =>
          hr.evs captured.toList i lv v h1 (by rw [← h2]; simp)
        split
        · rename_i ps hps
          have := mapM_toPV hps
          refine .pv (.fn _ _ _ ?_ fun i p v h1 h2 => ?_)
          · have := congrArg List.length this; simpa using this.symm
          · have := hall i (.pv p) v (by rw [this]; simp [h1]) h2
            cases this with | pv h => exact h
        · exact .fn _ _ _ (by simp) hall
      · cases h
    | _ => cases h
  | call c =>
    obtain ⟨callee, args, ts⟩ := c
    cases callee with
    | builtin b =>
      cases b with
      | len =>
        simp only [opP] at h
        split at h
        · rename_i x t hx ht
          obtain ⟨v, h1, h2⟩ := lenP_sound (P := P) (ty := type) (ts := ts) (args := args.map a.eval) hT ht (by simp [hx]) (hr.ev x) h
          refine ⟨v, ?_, h2⟩
          simp only [execOp, resolve, invoke, builtin, Sem.run_bind, Sem.run_pure, Result.andThen_ok, h1]
        · cases h
      | cap =>
        simp only [opP] at h
        split at h
        · rename_i x t hx ht
          have hv := hr.ev x
          generalize s.ev G x = y at h hv
          unfold capP at h
          split at h
          · cases h
          · rename_i i hti
            split at h
            · rename_i e hu
              simp only [Option.some.injEq] at h
              subst h
              cases hv with | pv hv =>
              generalize hz : a.eval x = z at hv
              cases hv
              have h0 := hT.under (w := w) hti
              rw [hu] at h0
              refine ⟨.int .i64 0, ?_, .pv (.int _ _)⟩
              simp [execOp, resolve, invoke, builtin, Builtin.cap_, ht, hx, hz, h0, goInt]
            · cases h
        · cases h
      | min =>
        simp only [opP] at h
        split at h
        · rename_i k m r hargs
          simp only [Option.map_eq_some_iff] at h
          obtain ⟨q, h1, rfl⟩ := h
          cases hal : args.toList with
          | nil => rw [hal] at hargs; cases hargs
          | cons x0 xs =>
            rw [hal] at hargs
            simp only [List.map_cons, List.cons.injEq] at hargs
            have hx0 := hr.ev x0
            rw [hargs.1] at hx0
            have e0 : a.eval x0 = .int k m := by cases hx0 with | pv hx0 => exact imm_int hx0
            have := minMax_sound (P := P) (β := β) (w := w) (f := Builtin.min2) (less := fun a b => decide (a < b)) (k := k) (fun x y k' => by simp [Builtin.min2]) (n := s.H.length) (ok := okOf w0 β s.H w) r (xs.map a.eval) m q (by rw [← hargs.2]; simp)
              (fun i lv v h1 h2 => hr.evs xs i lv v (by rw [hargs.2]; exact h1) h2) h1
            refine ⟨.int k q, ?_, .pv (.int _ _)⟩
            simp only [execOp, resolve, invoke, builtin, Sem.run_bind, Sem.run_pure, Result.andThen_ok, Builtin.min_, Array.toList_map, hal, List.map_cons, e0, this]
        · cases h
      | max =>
        simp only [opP] at h
        split at h
        · rename_i k m r hargs
          simp only [Option.map_eq_some_iff] at h
          obtain ⟨q, h1, rfl⟩ := h
          cases hal : args.toList with
          | nil => rw [hal] at hargs; cases hargs
          | cons x0 xs =>
            rw [hal] at hargs
            simp only [List.map_cons, List.cons.injEq] at hargs
            have hx0 := hr.ev x0
            rw [hargs.1] at hx0
            have e0 : a.eval x0 = .int k m := by cases hx0 with | pv hx0 => exact imm_int hx0
            have := minMax_sound (P := P) (β := β) (w := w) (f := Builtin.max2) (less := fun a b => decide (b < a)) (k := k) (fun x y k' => by simp [Builtin.max2]) (n := s.H.length) (ok := okOf w0 β s.H w) r (xs.map a.eval) m q (by rw [← hargs.2]; simp)
              (fun i lv v h1 h2 => hr.evs xs i lv v (by rw [hargs.2]; exact h1) h2) h1
            refine ⟨.int k q, ?_, .pv (.int _ _)⟩
            simp only [execOp, resolve, invoke, builtin, Sem.run_bind, Sem.run_pure, Result.andThen_ok, Builtin.max_, Array.toList_map, hal, List.map_cons, e0, this]
        · cases h
      | _ => cases h
    | _ => cases h
  | _ => cases h
end
end Hm
namespace Hm
open Go Go.RowKit

section
variable {P : Program} {T : TypeId → Option TI} {G : Nat → Option (List PV)} {w0 : World} {β : Nat → Nat} {s : St} {acts : List Act} {a : Act} {w : World}

theorem getElem?_set {α : Type} {l : List α} {b i : Nat} {x y : α} (hb : b < l.length) (h : (l.set b x)[i]? = some y) : (i = b ∧ y = x) ∨ (i ≠ b ∧ l[i]? = some y) := by
  by_cases e : b = i
  · subst e; rw [List.getElem?_set_self hb] at h; exact .inl ⟨rfl, by simpa using h.symm⟩
  · rw [List.getElem?_set_ne e] at h; exact .inr ⟨Ne.symm e, h⟩

/-- A block of the call's own is spoken of no more: what it holds is not written any more. -/
theorem Rel.kill (hr : Rel G w0 β s acts a w) {b : Nat} (hb : b < s.H.length) : Rel G w0 β { s with H := s.H.set b .gone } acts a w ∧
    (∀ lv v, LR β s.H.length w (okOf w0 β s.H w) lv v → LR β (s.H.set b .gone).length w (okOf w0 β (s.H.set b .gone) w) lv v) := by
  have hok : ∀ f k, okOf w0 β s.H w f k → okOf w0 β (s.H.set b .gone) w f k := fun f k hk => ⟨hk.1, hk.2.1, fun i C hi hl => by
    rcases getElem?_set hb hi with ⟨rfl, rfl⟩ | ⟨_, h⟩
    · cases hl
    · exact hk.2.2 i C h hl⟩
  have hmono : ∀ lv v, LR β s.H.length w (okOf w0 β s.H w) lv v → LR β (s.H.set b .gone).length w (okOf w0 β (s.H.set b .gone) w) lv v := fun lv v h =>
    h.mono (by simp) (fun _ _ => rfl) (fun _ c _ fz h => ⟨c, fz, h, rfl⟩) (fun _ _ _ => rfl) hok
  refine ⟨hr.step (by simp) (fun _ _ => rfl) (Below.refl _ _) (fun _ c _ fz h => ⟨c, fz, h, rfl⟩) (fun _ _ _ => rfl) hok ?_ ?_ ?_ ?_, hmono⟩
  · intro i C hi hl
    rcases getElem?_set hb hi with ⟨rfl, rfl⟩ | ⟨_, h⟩
    · cases hl
    · exact hr.ge i C h hl
  · intro i C hi hl
    rcases getElem?_set hb hi with ⟨rfl, rfl⟩ | ⟨_, h⟩
    · cases hl
    · exact hr.lt i C h hl
  · intro i j C D hi hl hj hl' he
    rcases getElem?_set hb hi with ⟨rfl, rfl⟩ | ⟨_, h⟩
    · cases hl
    · rcases getElem?_set hb hj with ⟨rfl, rfl⟩ | ⟨_, h'⟩
      · cases hl'
      · exact hr.inj i j C D h hl h' hl' he
  · intro i C hi hl
    rcases getElem?_set hb hi with ⟨rfl, rfl⟩ | ⟨_, h⟩
    · cases hl
    · exact (hr.blk i C h hl).trans rfl hmono

/-- A name for a block that is not there. -/
theorem Rel.addDead (hr : Rel G w0 β s acts a w) {B : Blk} (hB : B.live = false) : Rel G w0 β { s with H := s.H ++ [B] } acts a w ∧
    (∀ lv v, LR β s.H.length w (okOf w0 β s.H w) lv v → LR β (s.H ++ [B]).length w (okOf w0 β (s.H ++ [B]) w) lv v) := by
  have hn : ∀ (i : Nat) (C : Blk), (s.H ++ [B])[i]? = some C → C.live = true → s.H[i]? = some C := fun i C hi hl => by
    rcases getElem?_snoc hi with ⟨_, h⟩ | ⟨_, rfl⟩
    · exact h
    · rw [hB] at hl; cases hl
  have hok : ∀ f k, okOf w0 β s.H w f k → okOf w0 β (s.H ++ [B]) w f k := fun f k hk => ⟨hk.1, hk.2.1, fun i C hi hl => hk.2.2 i C (hn i C hi hl) hl⟩
  have hmono : ∀ lv v, LR β s.H.length w (okOf w0 β s.H w) lv v → LR β (s.H ++ [B]).length w (okOf w0 β (s.H ++ [B]) w) lv v := fun lv v h =>
    h.mono (by simp) (fun _ _ => rfl) (fun _ c _ fz h => ⟨c, fz, h, rfl⟩) (fun _ _ _ => rfl) hok
  refine ⟨hr.step (by simp) (fun _ _ => rfl) (Below.refl _ _) (fun _ c _ fz h => ⟨c, fz, h, rfl⟩) (fun _ _ _ => rfl) hok (fun i C hi hl => hr.ge i C (hn i C hi hl) hl) (fun i C hi hl => hr.lt i C (hn i C hi hl) hl)
    (fun i j C D hi hl hj hl' he => hr.inj i j C D (hn i C hi hl) hl (hn j D hj hl') hl' he) ?_, hmono⟩
  intro i C hi hl
  exact (hr.blk i C (hn i C hi hl) hl).trans rfl hmono

/-- A block of the call's own gets another name. -/
theorem Rel.move (hr : Rel G w0 β s acts a w) {b : Nat} {B : Blk} (hB : s.H[b]? = some B) (hl : B.live = true) :
    Rel G w0 (ext β s.H.length (β b)) { s with H := s.H.set b .gone ++ [B] } acts a w ∧
    (∀ lv v, LR β s.H.length w (okOf w0 β s.H w) lv v → LR (ext β s.H.length (β b)) (s.H.set b .gone ++ [B]).length w (okOf w0 (ext β s.H.length (β b)) (s.H.set b .gone ++ [B]) w) lv v) := by
  have hb : b < s.H.length := (List.getElem?_eq_some_iff.1 hB).1
  have hn : (s.H.set b .gone ++ [B]).length = s.H.length + 1 := by simp
  have hc : ∀ (i : Nat) (C : Blk), (s.H.set b .gone ++ [B])[i]? = some C → C.live = true → (i = s.H.length ∧ C = B) ∨ (i < s.H.length ∧ i ≠ b ∧ s.H[i]? = some C) := fun i C hi hlC => by
    rcases getElem?_snoc hi with ⟨h1, h2⟩ | ⟨h1, h2⟩
    · rcases getElem?_set hb h2 with ⟨rfl, rfl⟩ | ⟨h3, h4⟩
      · cases hlC
      · exact .inr ⟨by simpa using h1, h3, h4⟩
    · exact .inl ⟨by simpa using h1, h2⟩
  have hok : ∀ f k, okOf w0 β s.H w f k → okOf w0 (ext β s.H.length (β b)) (s.H.set b .gone ++ [B]) w f k := fun f k hk => ⟨hk.1, hk.2.1, fun i C hi hlC => by
    rcases hc i C hi hlC with ⟨rfl, rfl⟩ | ⟨h1, _, h3⟩
    · rw [ext_eq]; exact hk.2.2 b _ hB hl
    · rw [ext_lt h1]; exact hk.2.2 i C h3 hlC⟩
  have hmono : ∀ lv v, LR β s.H.length w (okOf w0 β s.H w) lv v → LR (ext β s.H.length (β b)) (s.H.set b .gone ++ [B]).length w (okOf w0 (ext β s.H.length (β b)) (s.H.set b .gone ++ [B]) w) lv v := fun lv v h =>
    h.mono (by omega) (fun i hi => ext_lt hi) (fun _ c _ fz h => ⟨c, fz, h, rfl⟩) (fun _ _ _ => rfl) hok
  refine ⟨hr.step (by omega) (fun i hi => ext_lt hi) (Below.refl _ _) (fun _ c _ fz h => ⟨c, fz, h, rfl⟩) (fun _ _ _ => rfl) hok ?_ ?_ ?_ ?_, hmono⟩
  · intro i C hi hlC
    rcases hc i C hi hlC with ⟨rfl, rfl⟩ | ⟨h1, _, h3⟩
    · rw [ext_eq]; exact hr.ge b _ hB hl
    · rw [ext_lt h1]; exact hr.ge i C h3 hlC
  · intro i C hi hlC
    rcases hc i C hi hlC with ⟨rfl, rfl⟩ | ⟨h1, _, h3⟩
    · rw [ext_eq]; exact hr.lt b _ hB hl
    · rw [ext_lt h1]; exact hr.lt i C h3 hlC
  · intro i j C D hi hlC hj hlD he
    rcases hc i C hi hlC with ⟨rfl, rfl⟩ | ⟨h1, h2, h3⟩
    · rcases hc j D hj hlD with ⟨rfl, rfl⟩ | ⟨h4, h5, h6⟩
      · rfl
      · rw [ext_eq, ext_lt h4] at he
        exact absurd (hr.inj j b D _ h6 hlD hB hl he.symm) h5
    · rcases hc j D hj hlD with ⟨rfl, rfl⟩ | ⟨h4, h5, h6⟩
      · rw [ext_eq, ext_lt h1] at he
        exact absurd (hr.inj i b C _ h3 hlC hB hl he) h2
      · rw [ext_lt h1, ext_lt h4] at he
        exact hr.inj i j C D h3 hlC h6 hlD he
  · intro i C hi hlC
    have key : ∀ k, s.H[k]? = some C → BlkRel (ext β s.H.length (β b)) (s.H.set b .gone ++ [B]).length w (okOf w0 (ext β s.H.length (β b)) (s.H.set b .gone ++ [B]) w) C (β k) := fun k hk => by
      exact (hr.blk k C hk hlC).trans rfl hmono
    rcases hc i C hi hlC with ⟨rfl, rfl⟩ | ⟨h1, _, h3⟩
    · rw [ext_eq]; exact key b hB
    · rw [ext_lt h1]; exact key i h3

/-! ### What is put into cells -/
def blkOf : LV → Option Blk
  | .pv (.agg cs) => some (.p cs)
  | .pv p => some (.p [p])
  | .agg cs => some (.l cs)
  | .tup _ => none
  | .dead => none
  | x => some (.l [x])

def lcells : LV → Option (List LV)
  | .pv p => some ((pcells p).map .pv)
  | .agg cs => some cs
  | .tup _ => none
  | .dead => none
  | x => some [x]

theorem imm_one {ok : Bool → Nat → Prop} {p : PV} {v : Value} (h : Imm w ok p v) (h1 : p.one = true) : v.oneCell' = true := by
  induction h with
  | agg => cases h1
  | nsl _ _ _ _ _ _ ih => exact ih rfl
  | asl _ _ _ _ _ ih => exact ih rfl
  | raw _ h => exact h
  | _ => rfl

theorem lr_one {n : Nat} {ok : Bool → Nat → Prop} {lv : LV} {v : Value} (h : LR β n w ok lv v) (h1 : lv.one = true) : v.oneCell' = true := by
  induction h with
  | pv h => exact imm_one h h1
  | agg => cases h1
  | tup => cases h1
  | dead => cases h1
  | nref _ _ _ _ _ _ ih => exact ih rfl
  | _ => rfl

theorem cells_one {v : Value} (h : v.oneCell' = true) : v.cells = #[v] := by cases v <;> first | rfl | cases h


theorem pcells_sound {ok : Bool → Nat → Prop} {p : PV} {v : Value} (h : Imm w ok p v) :
    (pcells p).length = v.cells.size ∧ ∀ (i : Nat) q, (pcells p)[i]? = some q → q.one = true ∧ ∃ u, v.cells[i]? = some u ∧ Imm w ok q u := by
  by_cases h1 : p.one = true
  · rw [pcells_one h1, cells_one (imm_one h h1)]
    refine ⟨rfl, fun i q hq => ?_⟩
    cases i with
    | zero => simp at hq; subst hq; exact ⟨h1, v, rfl, h⟩
    | succ i => simp at hq
  · cases p <;> simp [PV.one] at h1
    cases h with | agg _ vs hl ho hv =>
    refine ⟨hl, fun i q hq => ⟨ho i q hq, ?_⟩⟩
    have hi : i < vs.size := by have := (List.getElem?_eq_some_iff.1 hq).1; simp only [pcells] at this; omega
    exact ⟨vs[i], by simp [Value.cells, hi], hv _ _ _ hq (by simp [hi])⟩

theorem lcells_sound {n : Nat} {ok : Bool → Nat → Prop} {lv : LV} {v : Value} (h : LR β n w ok lv v) {cs : List LV} (hc : lcells lv = some cs) :
    cs.length = v.cells.size ∧ ∀ (i : Nat) q, cs[i]? = some q → q.one = true ∧ ∃ u, v.cells[i]? = some u ∧ LR β n w ok q u := by
  have one : lv.one = true → cs = [lv] → cs.length = v.cells.size ∧ ∀ (i : Nat) q, cs[i]? = some q → q.one = true ∧ ∃ u, v.cells[i]? = some u ∧ LR β n w ok q u := fun h1 h2 => by
    rw [h2, cells_one (lr_one h h1)]
    refine ⟨rfl, fun i q hq => ?_⟩
    cases i with
    | zero => simp at hq; subst hq; exact ⟨h1, v, rfl, h⟩
    | succ i => simp at hq
  cases lv with
  | pv p =>
    simp only [lcells, Option.some.injEq] at hc
    subst hc
    cases h with | pv h =>
    obtain ⟨h1, h2⟩ := pcells_sound h
    refine ⟨by simpa using h1, fun i q hq => ?_⟩
    simp only [List.getElem?_map, Option.map_eq_some_iff] at hq
    obtain ⟨q', h3, rfl⟩ := hq
    obtain ⟨h4, u, h5, h6⟩ := h2 i q' h3
    exact ⟨h4, u, h5, .pv h6⟩
  | agg cs' =>
    simp only [lcells, Option.some.injEq] at hc
    subst hc
    cases h with | agg _ vs hl ho hv =>
    refine ⟨hl, fun i q hq => ⟨ho i q hq, ?_⟩⟩
    have hi : i < vs.size := by have := (List.getElem?_eq_some_iff.1 hq).1; omega
    exact ⟨vs[i], by simp [Value.cells, hi], hv _ _ _ hq (by simp [hi])⟩
  | tup => cases hc
  | dead => cases hc
  | ref => simp only [lcells, Option.some.injEq] at hc; exact one rfl hc.symm
  | nref => simp only [lcells, Option.some.injEq] at hc; exact one rfl hc.symm
  | ptr => simp only [lcells, Option.some.injEq] at hc; exact one rfl hc.symm
  | fn => simp only [lcells, Option.some.injEq] at hc; exact one rfl hc.symm
  | ifc => simp only [lcells, Option.some.injEq] at hc; exact one rfl hc.symm
  | emp => simp only [lcells, Option.some.injEq] at hc; exact one rfl hc.symm
  | mref => simp only [lcells, Option.some.injEq] at hc; exact one rfl hc.symm

/-- A block for a value. -/
theorem blkOf_sound {n : Nat} {ok : Bool → Nat → Prop} {lv : LV} {v : Value} (h : LR β n w ok lv v) {B : Blk} (hB : blkOf lv = some B) :
    B.live = true ∧ B.len = v.cells.size ∧ ∀ (i : Nat) q, B.get i = some q → q.one = true ∧ ∃ u, v.cells[i]? = some u ∧ LR β n w ok q u := by
  have viaL : ∀ cs, lcells lv = some cs → B = .l cs → B.live = true ∧ B.len = v.cells.size ∧ ∀ (i : Nat) q, B.get i = some q → q.one = true ∧ ∃ u, v.cells[i]? = some u ∧ LR β n w ok q u := fun cs h1 h2 => by
    subst h2
    obtain ⟨h3, h4⟩ := lcells_sound h h1
    exact ⟨rfl, h3, h4⟩
  cases lv with
  | pv p =>
    have hB' : B = .p (pcells p) := by
      cases p <;> simp only [blkOf, Option.some.injEq] at hB <;> exact hB.symm
    subst hB'
    cases h with | pv h =>
    obtain ⟨h1, h2⟩ := pcells_sound h
    refine ⟨rfl, h1, fun i q hq => ?_⟩
    simp only [Blk.get, Option.map_eq_some_iff] at hq
    obtain ⟨q', h3, rfl⟩ := hq
    obtain ⟨h4, u, h5, h6⟩ := h2 i q' h3
    exact ⟨h4, u, h5, .pv h6⟩
  | agg cs => exact viaL cs rfl (by simpa [blkOf] using hB.symm)
  | tup => cases hB
  | dead => cases hB
  | ref => exact viaL _ rfl (by simpa [blkOf] using hB.symm)
  | nref => exact viaL _ rfl (by simpa [blkOf] using hB.symm)
  | ptr => exact viaL _ rfl (by simpa [blkOf] using hB.symm)
  | fn => exact viaL _ rfl (by simpa [blkOf] using hB.symm)
  | ifc => exact viaL _ rfl (by simpa [blkOf] using hB.symm)
  | emp => exact viaL _ rfl (by simpa [blkOf] using hB.symm)
  | mref => exact viaL _ rfl (by simpa [blkOf] using hB.symm)
theorem blkOf_row {lv : LV} {B : Blk} (h : blkOf lv = some B) : B.isRow = true := by
  cases lv with
  | pv p => cases p <;> simp only [blkOf, Option.some.injEq] at h <;> subst h <;> rfl
  | tup => cases h
  | dead => cases h
  | _ => simp only [blkOf, Option.some.injEq] at h; subst h; rfl

/-- What an operation comes to: its value, and the call's own blocks behind it. -/
def Out (P : Program) (G : Nat → Option (List PV)) (w0 : World) (s : St) (acts : List Act) (a : Act) (w : World) (o : Oper) (lv : LV) (H' : List Blk) : Prop :=
  ∃ v w' β', (execOp a.eval o).run P w = .ok (.value v) w' ∧ Rel G w0 β' { s with H := H' } acts a w' ∧ LR β' H'.length w' (okOf w0 β' H' w') lv v
def OutSkip (P : Program) (G : Nat → Option (List PV)) (w0 : World) (s : St) (acts : List Act) (a : Act) (w : World) (o : Oper) (H' : List Blk) : Prop :=
  ∃ w' β', (execOp a.eval o).run P w = .ok .skip w' ∧ Rel G w0 β' { s with H := H' } acts a w'
end
end Hm
namespace Hm
open Go Go.RowKit

def putA {α : Type} (cs : List α) (off : Nat) : List α → List α
  | [x] => cs.set off x
  | new => cs.take off ++ new ++ cs.drop (off + new.length)

theorem putA_eq {α : Type} {cs new : List α} {off : Nat} (h : off + new.length ≤ cs.length) : putA cs off new = cs.take off ++ new ++ cs.drop (off + new.length) := by
  unfold putA
  split
  · rename_i x
    simp at h
    rw [List.set_eq_take_append_cons_drop, if_pos (by omega)]
    simp
  · rfl

theorem putA_length {α : Type} {cs new : List α} {off : Nat} (h : off + new.length ≤ cs.length) : (putA cs off new).length = cs.length := by
  rw [putA_eq h]; simp; omega

theorem putA_get {α : Type} {cs new : List α} {off i : Nat} (h : off + new.length ≤ cs.length) :
    (putA cs off new)[i]? = if off ≤ i ∧ i < off + new.length then new[i - off]? else cs[i]? := by
  rw [putA_eq h]
  by_cases h1 : i < off
  · rw [List.append_assoc, List.getElem?_append_left (by simp; omega), List.getElem?_take, if_pos h1, if_neg (by omega)]
  · rw [List.append_assoc, List.getElem?_append_right (by simp; omega)]
    have e : (cs.take off).length = off := by simp; omega
    rw [e]
    by_cases h2 : i < off + new.length
    · rw [List.getElem?_append_left (by omega), if_pos ⟨by omega, h2⟩]
    · rw [List.getElem?_append_right (by omega), List.getElem?_drop, if_neg (by omega)]
      congr 1
      omega

def zerosL {α : Type} (z : List α) (n : Nat) : List α :=
  match z with
  | [x] => List.replicate n x
  | z => (List.replicate n z).flatten

theorem zerosL_eq {α : Type} (z : List α) (n : Nat) : zerosL z n = (List.replicate n z).flatten := by
  unfold zerosL
  split
  · rename_i x
    induction n with
    | zero => rfl
    | succ n ih => rw [List.replicate_succ, List.replicate_succ, List.flatten_cons, ih]; rfl
  · rfl

theorem zerosL_length {α : Type} (z : List α) (n : Nat) : (zerosL z n).length = n * z.length := by
  rw [zerosL_eq]; simp

theorem zerosL_get {α : Type} (z : List α) (n : Nat) {i : Nat} (h : i < n * z.length) : (zerosL z n)[i]? = z[i % z.length]? := by
  rw [zerosL_eq]
  induction n generalizing i with
  | zero => simp at h
  | succ n ih =>
    rw [List.replicate_succ, List.flatten_cons]
    by_cases h1 : i < z.length
    · rw [List.getElem?_append_left h1, Nat.mod_eq_of_lt h1]
    · rw [List.getElem?_append_right (by omega), ih (by rw [Nat.succ_mul] at h; omega)]
      congr 1
      exact (Nat.mod_eq_sub_mod (by omega)).symm

theorem CR.get {α : Type} {one : α → Bool} {R : α → Value → Prop} {cs : List α} {arr : Array Value} (h : CR one R cs arr) {i : Nat} {p : α} (hp : cs[i]? = some p) :
    one p = true ∧ ∃ v, arr[i]? = some v ∧ R p v := by
  have hi : i < arr.size := by have := (List.getElem?_eq_some_iff.1 hp).1; have := h.len; omega
  exact ⟨h.one i p hp, arr[i], by simp [hi], h.rel i p _ hp (by simp [hi])⟩

def fillA {α : Type} (place : Nat → Option (Nat × Nat)) : List α → List (Nat × List α) → Option (List α)
  | cs, [] => some cs
  | cs, (k, new) :: r => match place k with
    | some (off, size) => if new.length = size ∧ off + size ≤ cs.length then fillA place (putA cs off new) r else none
    | none => none

theorem foldl_set_list (off : Nat) : ∀ (l : List Value) (k : Nat) (cells : Array Value), (l.zipIdx k).foldl (fun cs (x : Value × Nat) => cs.setIfInBounds (off + x.2) x.1) cells =
    (l.zipIdx k).foldl (fun cs (x : Value × Nat) => cs.setIfInBounds (off + x.2) x.1) cells ∧
    ((l.zipIdx k).foldl (fun cs (x : Value × Nat) => cs.setIfInBounds (off + x.2) x.1) cells).size = cells.size ∧
    ∀ i, ((l.zipIdx k).foldl (fun cs (x : Value × Nat) => cs.setIfInBounds (off + x.2) x.1) cells)[i]? = if i < cells.size ∧ off + k ≤ i ∧ i < off + k + l.length then l[i - (off + k)]? else cells[i]? := by
  intro l
  induction l with
  | nil => intro k cells; refine ⟨rfl, rfl, fun i => ?_⟩; rw [if_neg (by simp only [List.length_nil]; omega)]; rfl
  | cons x r ih =>
    intro k cells
    obtain ⟨_, h2, h3⟩ := ih (k + 1) (cells.setIfInBounds (off + k) x)
    refine ⟨rfl, by rw [List.zipIdx_cons, List.foldl_cons, h2]; simp, fun i => ?_⟩
    rw [List.zipIdx_cons, List.foldl_cons, h3 i]
    simp only [Array.size_setIfInBounds, List.length_cons]
    by_cases h4 : i < cells.size ∧ off + (k + 1) ≤ i ∧ i < off + (k + 1) + r.length
    · rw [if_pos h4, if_pos (by omega)]
      rw [show i - (off + k) = (i - (off + (k + 1))) + 1 by omega, List.getElem?_cons_succ]
    · rw [if_neg h4, Array.getElem?_setIfInBounds]
      by_cases h5 : off + k = i
      · subst h5
        by_cases h6 : off + k < cells.size
        · rw [if_pos rfl, if_pos h6, if_pos (by omega)]
          simp
        · rw [if_pos rfl, if_neg h6, if_neg (by omega)]
          simp [Array.getElem?_eq_none (Nat.le_of_not_lt h6)]
      · rw [if_neg h5, if_neg (by omega)]

theorem foldl_set (off : Nat) (vc cells : Array Value) :
    (vc.zipIdx.foldl (fun cs (x : Value × Nat) => cs.setIfInBounds (off + x.2) x.1) cells).size = cells.size ∧
    ∀ i : Nat, (vc.zipIdx.foldl (fun cs (x : Value × Nat) => cs.setIfInBounds (off + x.2) x.1) cells)[i]? = if i < cells.size ∧ off ≤ i ∧ i < off + vc.size then vc[i - off]? else cells[i]? := by
  obtain ⟨_, h2, h3⟩ := foldl_set_list off vc.toList 0 cells
  have e : vc.zipIdx.foldl (fun cs (x : Value × Nat) => cs.setIfInBounds (off + x.2) x.1) cells = (vc.toList.zipIdx 0).foldl (fun cs (x : Value × Nat) => cs.setIfInBounds (off + x.2) x.1) cells := by
    rw [← Array.foldl_toList]; simp
  rw [e]
  refine ⟨h2, fun i => ?_⟩
  rw [h3 i]
  simp

/-- Filling in. -/
theorem fill_sound {α : Type} {one : α → Bool} {R : α → Value → Prop} (place : Nat → Option (Nat × Nat)) : ∀ (parts : List (Nat × List α)) (vals : List (Nat × Value)) (cs out : List α) (arr : Array Value),
    parts.length = vals.length → (∀ (i : Nat) p v, parts[i]? = some p → vals[i]? = some v → p.1 = v.1 ∧ CR one R p.2 v.2.cells) → CR one R cs arr → fillA place cs parts = some out →
    ∃ arr', Instr.fill place arr vals = some arr' ∧ CR one R out arr'
  | [], [], cs, out, arr, _, _, hc, h => ⟨arr, rfl, by simp [fillA] at h; subst h; exact hc⟩
  | (k, new) :: r, (k', v) :: vs, cs, out, arr, hl, hp, hc, h => by
    obtain ⟨h1, h2⟩ := hp 0 (k, new) (k', v) rfl rfl
    simp only at h1 h2
    subst h1
    simp only [fillA] at h
    split at h
    · rename_i off size hpl
      split at h
      · rename_i hb
        obtain ⟨rfl, hb⟩ := hb
        obtain ⟨h3, h4⟩ := foldl_set off v.cells arr
        have hcr : CR one R (putA cs off new) (v.cells.zipIdx.foldl (fun cs (x : Value × Nat) => cs.setIfInBounds (off + x.2) x.1) arr) := by
          refine ⟨by rw [putA_length hb, h3]; exact hc.len, fun i p hi => ?_, fun i p u hi hu => ?_⟩
          · rw [putA_get hb] at hi
            split at hi
            · exact h2.one _ _ hi
            · exact hc.one _ _ hi
          · rw [putA_get hb] at hi
            rw [h4] at hu
            have := h2.len
            have := hc.len
            split at hi
            · rw [if_pos (by omega)] at hu
              exact h2.rel _ _ _ hi hu
            · rw [if_neg (by omega)] at hu
              exact hc.rel _ _ _ hi hu
        obtain ⟨arr', h5, h6⟩ := fill_sound place r vs _ out _ (by simpa using hl) (fun i p v a b => hp (i + 1) p v (by simpa using a) (by simpa using b)) hcr h
        refine ⟨arr', ?_, h6⟩
        simp only [Instr.fill, hpl]
        have c1 : new.length = v.cells.size := h2.len
        have c2 := hc.len
        rw [if_neg (by rw [c1] at hb ⊢; simp; omega)]
        exact h5
      · cases h
    · cases h

def placeS (ps : List (Nat × Nat)) (k : Nat) : Option (Nat × Nat) := ps[k]?
def places (T : TypeId → Option TI) (fs : Array Field) : Option (List (Nat × Nat)) := fs.toList.mapM fun f => (T f.type).map fun j => (f.offset, j.size)

/-- The cells that parts fill, in 'zero'. -/
def fillParts (place : Nat → Option (Nat × Nat)) (zero : List PV) (parts : List (Nat × LV)) : Option (List PV ⊕ List LV) :=
  match parts.mapM fun p => p.2.toPV.map fun q => (p.1, pcells q) with
  | some ps => (fillA place zero ps).map .inl
  | none => match parts.mapM fun p => (lcells p.2).map fun cs => (p.1, cs) with
    | some ps => (fillA place (zero.map .pv) ps).map .inr
    | none => none

def buildP (T : TypeId → Option TI) (t : TypeId) (parts : List (Nat × LV)) : Option LV :=
  match T t with
  | none => none
  | some i => match i.und with
    | .struct fs => match places T fs with
      | none => none
      | some ps => match fillParts (placeS ps) i.zero parts with
        | some (.inl cs) => some (.pv (.agg cs))
        | some (.inr cs) => some (mkAgg cs)
        | none => none
    | .array _ e => match T e with
      | none => none
      | some j => match fillParts (fun k => some (k * j.size, j.size)) i.zero parts with
        | some (.inl cs) => some (.pv (.agg cs))
        | some (.inr cs) => some (mkAgg cs)
        | none => none
    | _ => none

def mkBlk (cs : List LV) : Blk := match cs.mapM LV.toPV with | some ps => .p ps | none => .l cs

def buildSliceP (T : TypeId → Option TI) (s : St) (t : TypeId) (len : Nat) (parts : List (Nat × LV)) : Option (LV × List Blk) :=
  match T t with
  | none => none
  | some i => match i.und with
    | .slice e => match T e with
      | none => none
      | some j => if (len == 0 && parts.isEmpty) = true then some (.emp, s.H) else if len * j.size ≤ 2 ^ 24 then
          match fillParts (fun k => some (k * j.size, j.size)) (zerosL j.zero len) parts with
          | some (.inl cs) => some (.ref s.H.length 0 len j.size, s.H ++ [.p cs])
          | some (.inr cs) => some (.ref s.H.length 0 len j.size, s.H ++ [mkBlk cs])
          | none => none
        else none
    | _ => none

def makeSliceP (T : TypeId → Option TI) (s : St) (t : TypeId) (l c : LV) : Option (LV × List Blk) :=
  match T t, l, c with
  | some i, .pv (.int _ n), .pv (.int _ m) => match i.und with
    | .slice e => match T e with
      | none => none
      | some j => if 0 ≤ n ∧ n ≤ m ∧ m ≤ 9223372036854775807 ∧ (j.bytes : Int) * m ≤ 281474976710656 then some (.ref s.H.length 0 n.toNat j.size, s.H ++ [.p (zerosL j.zero n.toNat)]) else none
    | _ => none
  | _, _, _ => none

def storeP (T : TypeId → Option TI) (s : St) (t : TypeId) (x v : LV) : Option (List Blk) :=
  match T t, x with
  | some i, .ptr b off => match s.H[b]? with
    | some (.p cs) => match v with
      | .pv p => if (pcells p).length = i.size ∧ off + (pcells p).length ≤ cs.length then some (s.H.set b (.p (putA cs off (pcells p)))) else none
      | v => match lcells v with
        | some new => if new.length = i.size ∧ off + new.length ≤ cs.length then some (s.H.set b (.l (putA (cs.map .pv) off new))) else none
        | none => none
    | some (.n cs) => match v with
      | .pv p => if (pcells p).length = i.size ∧ off + (pcells p).length ≤ cs.length ∧ 0 < (pcells p).length then some (s.H.set b (.n (putA cs off (pcells p)))) else none
      | _ => none
    | some (.l cs) => match lcells v with
      | some new => if new.length = i.size ∧ off + new.length ≤ cs.length then some (s.H.set b (mkBlk (putA cs off new))) else none
      | none => none
    | _ => none
  | _, _ => none

/-- What is appended, or copied: how many elements, and their cells. -/
def srcP (s : St) (size : Nat) (x : LV) : Option (Nat × List PV) :=
  match x with
  | .pv .nil => some (0, [])
  | .emp => some (0, [])
  | .pv (.sl _ cs n) => if cs.length = n * size then some (n, cs) else none
  | .pv (.nsl _ cs n) => if cs.length = n * size then some (n, cs) else none
  | .pv (.asl _ cs n) => if cs.length = n * size then some (n, cs) else none
  | .pv (.str b) => if size = 1 then some (b.size, b.data.toList.map fun x => .int .u8 x.toNat) else none
  | .ref b off n esz => match s.H[b]? with
    | some (.p cs) => if esz = size ∧ off + n * size ≤ cs.length then some (n, (cs.drop off).take (n * size)) else none
    | some (.n cs) => if esz = size ∧ off + n * size ≤ cs.length then some (n, (cs.drop off).take (n * size)) else none
    | _ => none
  | .nref b n esz => match s.H[b]? with
    | some (.n cs) => if esz = size ∧ cs.length = n * size then some (n, cs) else none
    | _ => none
  | _ => none

def isSrcD : TypeDesc → Bool
  | .slice _ | .string => true
  | _ => false

/-- What is appended: elements, or as many zeros as a number says. -/
def srcZ (s : St) (d : TypeDesc) (j : TI) (y : LV) : Option (Nat × List PV) :=
  match d, y with
  | .int _, .pv (.int _ m) => if 0 ≤ m ∧ m ≤ 9223372036854775807 then some (m.toNat, zerosL j.zero m.toNat) else none
  | d, y => if isSrcD d = true then srcP s j.size y else none

def appendP (T : TypeId → Option TI) (s : St) (t t2 : TypeId) (x y : LV) : Option (LV × List Blk) :=
  match T t, T t2 with
  | some i, some i2 => match i.und with
    | .slice e => match T e with
      | none => none
      | some j => match srcZ s i2.und j y with
        | none => none
        | some (n, new) => match x with
          | .pv .nil => if n * j.bytes ≤ 140737488355328 ∧ n ≤ 9223372036854775807 then some (.nref s.H.length n j.size, s.H ++ [.n new]) else none
          | .emp => if n * j.bytes ≤ 140737488355328 ∧ n ≤ 9223372036854775807 then some (.nref s.H.length n j.size, s.H ++ [.n new]) else none
          | .nref b len esz => match s.H[b]? with
            | some (.n cs) => if esz = j.size ∧ cs.length = len * esz ∧ (len + n) * j.bytes ≤ 140737488355328 ∧ len + n ≤ 9223372036854775807 then some (.nref s.H.length (len + n) esz, s.H.set b .gone ++ [.n (cs ++ new)]) else none
            | _ => none
          | .ref b 0 len esz => match s.H[b]? with
            | some (.p cs) => if esz = j.size ∧ cs.length = len * esz ∧ (len + n) * j.bytes ≤ 140737488355328 ∧ len + n ≤ 9223372036854775807 then some (.ref s.H.length 0 (len + n) esz, s.H.set b .gone ++ [.p (cs ++ new)]) else none
            | _ => none
          | _ => none
    | _ => none
  | _, _ => none

def convBytesP (T : TypeId → Option TI) (s : St) (src dst : TypeId) (x : LV) : Option (LV × List Blk) :=
  match T src, T dst, x with
  | some _, some j, .pv (.str b) => match j.und with
    | .slice e => match T e with
      | some k => match k.und with
        | .int .u8 => some (.ref s.H.length 0 b.size 1, s.H ++ [.p (b.data.toList.map fun x => .int .u8 x.toNat)])
        | _ => none
      | none => none
    | _ => none
  | some _, some j, .ref b off len esz => match j.und with
    | .slice e => match T e, s.H[b]? with
      | some k, some (.p _) => match k.und with
        | .int .u8 => if src = dst ∧ 0 < len then some (.ref b off len esz, s.H) else none
        | _ => none
      | _, _ => none
    | _ => none
  | _, _, _ => none

def copyP (T : TypeId → Option TI) (s : St) (t : TypeId) (x y : LV) : Option (LV × List Blk) :=
  match T t with
  | none => none
  | some i => match i.und with
    | .slice e => match T e with
      | none => none
      | some j => match srcP s j.size y, x with
        | some (n, new), .ref b off len esz => if esz = j.size then match s.H[b]? with
            | some (.p cs) => if off + len * esz ≤ cs.length then some (.pv (.int .i64 (min n len : Nat)), s.H.set b (.p (putA cs off (new.take (min n len * esz))))) else none
            | _ => none
          else none
        | _, _ => none
    | _ => none

def mapUpdP (T : TypeId → Option TI) (s : St) (t : TypeId) (m k v : LV) : Option (List Blk) :=
  match T t, m, k, v with
  | some i, .mref b, .pv k, .pv v => match i.und with
    | .map kt _ => match T kt, s.H[b]? with
      | some ki, some (.m kvs) => if keyD ki.und k = true then match findP ki.und k kvs 0 with
          | some (some (j, _)) => some (s.H.set b (.m (kvs.set j (k, v))))
          | some none => some (s.H.set b (.m (kvs ++ [(k, v)])))
          | none => none
        else none
      | _, _ => none
    | _ => none
  | _, _, _, _ => none
/-! What a row of the call's own leads to is frozen, as its elements go elsewhere -/
def rowOf (H : List Blk) (b : Nat) : Option (List PV) := match H[b]? with
  | some (.p cs) => some cs
  | some (.n cs) => some cs
  | _ => none
def LV.fz (H : List Blk) : LV → Option PV
  | .pv p => some p
  | .ref b off len esz => match rowOf H b with
    | some cs => if off = 0 ∧ len * esz = cs.length then some (.sl false cs len) else if off + len * esz ≤ cs.length then some (.sl false ((cs.drop off).take (len * esz)) len) else none
    | none => none
  | .nref b len esz => match H[b]? with
    | some (.n cs) => if len * esz = cs.length then some (.asl false cs len) else none
    | _ => none
  | .emp => some (.sl false [] 0)
  | _ => none
def LV.fzR : LV → List Nat
  | .ref b _ _ _ => [b]
  | .nref b _ _ => [b]
  | _ => []
def mapFz (H : List Blk) : List LV → Option (List PV)
  | [] => some []
  | x :: r => match LV.fz H x, mapFz H r with
    | some p, some ps => some (p :: ps)
    | _, _ => none
def fzRs : List LV → List Nat
  | [] => []
  | x :: r => x.fzR ++ fzRs r
def killL : List Nat → List Blk → List Blk
  | [], H => H
  | b :: r, H => killL r (H.set b .gone)
def frzB (H : List Blk) (b : Nat) : Option (List Blk) := match H[b]? with
  | some (.l cs) => match mapFz H cs with
    | some ps => if (fzRs cs).contains b = true then none else some ((killL (fzRs cs) H).set b (.p ps))
    | none => none
  | _ => none
def frzH (H : List Blk) (y : LV) : List Blk := match y with
  | .ref b _ _ _ => match frzB H b with
    | some H' => H'
    | none => H
  | _ => H
/-- What an operation comes to, calls of Go functions and stores apart. -/
def opF (T : TypeId → Option TI) (s : St) (ev : Operand → LV) (op : Op) : Option (LV × List Blk) :=
  match op with
  | .alloc t => (T t).map fun i => (.ptr s.H.length 0, s.H ++ [.p i.zero])
  | .makeMap _ none => some (.mref s.H.length, s.H ++ [.m []])
  | .box _ x => (blkOf (ev x)).map fun B => (.ptr s.H.length 0, s.H ++ [B])
  | .build t parts => (buildP T t (parts.toList.map fun p => (p.1, ev p.2))).map fun v => (v, s.H)
  | .buildSlice t len parts => buildSliceP T s t len (parts.toList.map fun p => (p.1, ev p.2))
  | .makeSlice t l c => makeSliceP T s t (ev l) (ev c)
  | .call { callee := .builtin .append, args := args, argTypes := ts } => match args.toList, ts.toList with
    | [x, y], [t, t2] => appendP T { s with H := frzH s.H (ev y) } t t2 (ev x) (ev y)
    | _, _ => none
  | .call { callee := .builtin .copy, args := args, argTypes := ts } => match args.toList, ts.toList with
    | [x, y], t :: _ => copyP T s t (ev x) (ev y)
    | _, _ => none
  | .convert src dst x => match convBytesP T s src dst (ev x) with
    | some r => some r
    | none => (convP T s src dst (ev x)).map fun v => (v, s.H)
  | op => (opP T s ev op).map fun v => (v, s.H)
end Hm
namespace Hm
open Go Go.RowKit

section
variable {P : Program} {T : TypeId → Option TI} {G : Nat → Option (List PV)} {w0 : World} {β : Nat → Nat} {s : St} {acts : List Act} {a : Act} {w : World}

theorem flatM_get : ∀ {zs : List PV} {vs : List Value}, zs.mapM PV.flat = some vs → ∀ (i : Nat) p v, zs[i]? = some p → vs[i]? = some v → p.flat = some v := by
  intro zs
  induction zs with
  | nil => intro vs h i p v h1; simp at h1
  | cons z r ih =>
    intro vs h i p v h1 h2
    simp only [List.mapM_cons, Option.bind_eq_bind, Option.bind_eq_some_iff] at h
    obtain ⟨u, h3, us, h4, h5⟩ := h
    simp at h5
    subst h5
    cases i with
    | zero => simp at h1 h2; subst h1; subst h2; exact h3
    | succ i => exact ih h4 i p v (by simpa using h1) (by simpa using h2)

theorem flatM_length : ∀ {zs : List PV} {vs : List Value}, zs.mapM PV.flat = some vs → zs.length = vs.length := by
  intro zs
  induction zs with
  | nil => intro vs h; simp at h; subst h; rfl
  | cons z r ih =>
    intro vs h
    simp only [List.mapM_cons, Option.bind_eq_bind, Option.bind_eq_some_iff] at h
    obtain ⟨u, h3, us, h4, h5⟩ := h
    simp at h5
    subst h5
    simp [ih h4]

theorem flat_pone {p : PV} {v : Value} (h : p.flat = some v) : p.one = true := by cases p <;> simp [PV.flat] at h <;> rfl

/-- A type's zero value: its cells. -/
theorem TOk.zeroCells (hT : TOk P T) {t : TypeId} {i : TI} (h : T t = some i) (w : World) (ok : Bool → Nat → Prop) :
    ∃ z : Value, (zeroValue t).run P w = .ok z w ∧ CR PV.one (Imm w ok) i.zero z.cells ∧ i.zero.length = i.size := by
  obtain ⟨vs, h1, h2, h3⟩ := hT.zero (w := w) h
  have hl := flatM_length h1
  refine ⟨_, h3, ?_, by omega⟩
  have hc : (if isAggD i.und then Value.agg vs.toArray else vs.headD undef).cells = vs.toArray := by
    by_cases ha : isAggD i.und = true
    · simp [ha, Value.cells]
    · have ha' : isAggD i.und = false := by simpa using ha
      have h4 := hT.size1 h ha'
      match vs, h2.trans h4 with
      | [v], _ =>
        simp only [ha', Bool.false_eq_true, if_false, List.headD_cons]
        have h5 : i.zero.length = 1 := by omega
        match hz : i.zero, h5 with
        | [p], _ =>
          have := flatM_get h1 0 p v (by rw [hz]; rfl) rfl
          rw [cells_one (flat_one this)]
  rw [hc]
  refine ⟨by simpa using hl, fun k p hp => ?_, fun k p v hp hv => flat_imm (flatM_get h1 k p v hp (by simpa using hv))⟩
  have hk : k < vs.length := by have := (List.getElem?_eq_some_iff.1 hp).1; omega
  exact flat_pone (flatM_get h1 k p vs[k] hp (by simp [hk]))

theorem CR.toL {n : Nat} {ok : Bool → Nat → Prop} {cs : List PV} {arr : Array Value} (h : CR PV.one (Imm w ok) cs arr) : CR LV.one (LR β n w ok) (cs.map .pv) arr := by
  refine ⟨by simpa using h.len, fun i p hp => ?_, fun i p v hp hv => ?_⟩
  · simp only [List.getElem?_map, Option.map_eq_some_iff] at hp
    obtain ⟨q, h1, rfl⟩ := hp
    exact h.one i q h1
  · simp only [List.getElem?_map, Option.map_eq_some_iff] at hp
    obtain ⟨q, h1, rfl⟩ := hp
    exact .pv (h.rel i q v h1 hv)

theorem pcells_CR {ok : Bool → Nat → Prop} {p : PV} {v : Value} (h : Imm w ok p v) : CR PV.one (Imm w ok) (pcells p) v.cells := by
  obtain ⟨h1, h2⟩ := pcells_sound h
  refine ⟨h1, fun i q hq => (h2 i q hq).1, fun i q u hq hu => ?_⟩
  obtain ⟨_, u', h3, h4⟩ := h2 i q hq
  rw [h3] at hu
  simp at hu
  subst hu
  exact h4

theorem lcells_CR {n : Nat} {ok : Bool → Nat → Prop} {lv : LV} {v : Value} {cs : List LV} (h : LR β n w ok lv v) (hc : lcells lv = some cs) : CR LV.one (LR β n w ok) cs v.cells := by
  obtain ⟨h1, h2⟩ := lcells_sound h hc
  refine ⟨h1, fun i q hq => (h2 i q hq).1, fun i q u hq hu => ?_⟩
  obtain ⟨_, u', h3, h4⟩ := h2 i q hq
  rw [h3] at hu
  simp at hu
  subst hu
  exact h4

theorem mapM_get {α γ : Type} {f : α → Option γ} : ∀ {l : List α} {r : List γ}, l.mapM f = some r → r.length = l.length ∧ ∀ (i : Nat) y, r[i]? = some y → ∃ x, l[i]? = some x ∧ f x = some y := by
  intro l
  induction l with
  | nil => intro r h; simp at h; subst h; exact ⟨rfl, by simp⟩
  | cons x l ih =>
    intro r h
    simp only [List.mapM_cons, Option.bind_eq_bind, Option.bind_eq_some_iff] at h
    obtain ⟨y, h1, ys, h2, h3⟩ := h
    simp at h3
    subst h3
    obtain ⟨h4, h5⟩ := ih h2
    refine ⟨by simp [h4], fun i z hz => ?_⟩
    cases i with
    | zero => simp at hz; subst hz; exact ⟨x, rfl, h1⟩
    | succ i => simpa using h5 i z (by simpa using hz)

theorem fillParts_sound {n : Nat} {ok : Bool → Nat → Prop} {place : Nat → Option (Nat × Nat)} {zero : List PV} {arr : Array Value} (hz : CR PV.one (Imm w ok) zero arr) {parts : List (Nat × LV)} {vals : List (Nat × Value)}
    (hl : parts.length = vals.length) (hp : ∀ (i : Nat) p v, parts[i]? = some p → vals[i]? = some v → p.1 = v.1 ∧ LR β n w ok p.2 v.2) {r : List PV ⊕ List LV} (h : fillParts place zero parts = some r) :
    ∃ arr', Instr.fill place arr vals = some arr' ∧ (match r with | .inl cs => CR PV.one (Imm w ok) cs arr' | .inr cs => CR LV.one (LR β n w ok) cs arr') := by
  unfold fillParts at h
  split at h
  · rename_i ps hps
    simp only [Option.map_eq_some_iff] at h
    obtain ⟨out, h1, rfl⟩ := h
    obtain ⟨h2, h3⟩ := mapM_get hps
    exact fill_sound place ps vals zero out arr (by omega) (fun i p v hp' hv => by
      obtain ⟨q, h4, h5⟩ := h3 i p hp'
      obtain ⟨h6, h7⟩ := hp i q v h4 hv
      obtain ⟨k, lv⟩ := q
      cases lv <;> simp [LV.toPV] at h5
      subst h5
      cases h7 with | pv h7 => exact ⟨h6, pcells_CR h7⟩) hz h1
  · split at h
    · rename_i ps hps
      simp only [Option.map_eq_some_iff] at h
      obtain ⟨out, h1, rfl⟩ := h
      obtain ⟨h2, h3⟩ := mapM_get hps
      exact fill_sound place ps vals (zero.map .pv) out arr (by omega) (fun i p v hp' hv => by
        obtain ⟨q, h4, h5⟩ := h3 i p hp'
        obtain ⟨h6, h7⟩ := hp i q v h4 hv
        simp only [Option.map_eq_some_iff] at h5
        obtain ⟨cs, h8, rfl⟩ := h5
        exact ⟨h6, lcells_CR h7 h8⟩) hz.toL h1
    · cases h

theorem Rel.parts (hr : Rel G w0 β s acts a w) (parts : Array (Nat × Operand)) :
    (parts.toList.map fun p => (p.1, s.ev G p.2)).length = (parts.map fun p => (p.1, a.eval p.2)).toList.length ∧
    ∀ (i : Nat) p v, (parts.toList.map fun p => (p.1, s.ev G p.2))[i]? = some p → (parts.map fun p => (p.1, a.eval p.2)).toList[i]? = some v → p.1 = v.1 ∧ LR β s.H.length w (okOf w0 β s.H w) p.2 v.2 := by
  refine ⟨by simp, fun i p v h1 h2 => ?_⟩
  simp only [Array.toList_map, List.getElem?_map, Option.map_eq_some_iff] at h1 h2
  obtain ⟨x, h3, rfl⟩ := h1
  obtain ⟨y, h4, rfl⟩ := h2
  rw [h3] at h4
  simp at h4
  subst h4
  exact ⟨rfl, hr.ev _⟩

theorem run_places (hT : TOk P T) : ∀ (l : List Field) (ps : List (Nat × Nat)), l.mapM (fun f => (T f.type).map fun j => (f.offset, j.size)) = some ps →
    (l.mapM (fun f => do pure (f.offset, ← Go.sizeOf f.type)) : Sem (List (Nat × Nat))).run P w = .ok ps w
  | [], ps, h => by simp at h; subst h; rfl
  | f :: l, ps, h => by
    simp only [List.mapM_cons, Option.bind_eq_bind, Option.bind_eq_some_iff, Option.map_eq_some_iff] at h
    obtain ⟨p, ⟨j, h1, h2⟩, ps', h3, h4⟩ := h
    simp at h4
    subst h4
    subst h2
    simp only [List.mapM_cons, Sem.run_bind, hT.sizeOf h1, Result.andThen_ok, Sem.run_pure, run_places hT l ps' h3]

theorem buildP_sound (hT : TOk P T) {n : Nat} {ok : Bool → Nat → Prop} {t : TypeId} {parts : List (Nat × LV)} {vals : Array (Nat × Value)} {lv : LV}
    (hl : parts.length = vals.toList.length) (hp : ∀ (i : Nat) p v, parts[i]? = some p → vals.toList[i]? = some v → p.1 = v.1 ∧ LR β n w ok p.2 v.2) (h : buildP T t parts = some lv) :
    ∃ v, (Instr.build t vals).run P w = .ok v w ∧ LR β n w ok lv v := by
  unfold buildP at h
  split at h
  · cases h
  · rename_i i ht
    obtain ⟨z, hz1, hz2, _⟩ := hT.zeroCells ht w ok
    split at h
    · rename_i fs hfs
      split at h
      · cases h
      · rename_i ps hps
        have hrp := run_places (w := w) hT fs.toList ps hps
        split at h
        · rename_i cs hf
          simp only [Option.some.injEq] at h; subst h
          obtain ⟨arr', h1, h2⟩ := fillParts_sound hz2 hl hp hf
          refine ⟨.agg arr', ?_, .pv (.agg _ _ h2.len h2.one h2.rel)⟩
          have e : (fun k => ps.toArray[k]?) = placeS ps := by funext k; simp [placeS]
          simp only [Instr.build, Sem.run_bind, hz1, Result.andThen_ok, hT.under ht, hfs, Array.mapM_eq_mapM_toList, Sem.run_map, hrp, e, h1, Sem.run_pure]
        · rename_i cs hf
          simp only [Option.some.injEq] at h; subst h
          obtain ⟨arr', h1, h2⟩ := fillParts_sound hz2 hl hp hf
          refine ⟨.agg arr', ?_, LR.mkAgg h2.len h2.one h2.rel⟩
          have e : (fun k => ps.toArray[k]?) = placeS ps := by funext k; simp [placeS]
          simp only [Instr.build, Sem.run_bind, hz1, Result.andThen_ok, hT.under ht, hfs, Array.mapM_eq_mapM_toList, Sem.run_map, hrp, e, h1, Sem.run_pure]
        · cases h
    · rename_i m e he
      split at h
      · cases h
      · rename_i j hj
        split at h
        · rename_i cs hf
          simp only [Option.some.injEq] at h; subst h
          obtain ⟨arr', h1, h2⟩ := fillParts_sound hz2 hl hp hf
          refine ⟨.agg arr', ?_, .pv (.agg _ _ h2.len h2.one h2.rel)⟩
          simp only [Instr.build, Sem.run_bind, hz1, Result.andThen_ok, hT.under ht, he, hT.sizeOf hj, h1, Sem.run_pure]
        · rename_i cs hf
          simp only [Option.some.injEq] at h; subst h
          obtain ⟨arr', h1, h2⟩ := fillParts_sound hz2 hl hp hf
          refine ⟨.agg arr', ?_, LR.mkAgg h2.len h2.one h2.rel⟩
          simp only [Instr.build, Sem.run_bind, hz1, Result.andThen_ok, hT.under ht, he, hT.sizeOf hj, h1, Sem.run_pure]
        · cases h
    · cases h

theorem zeros_CR {ok : Bool → Nat → Prop} {z : List PV} {arr : Array Value} (h : CR PV.one (Imm w ok) z arr) (hpos : 0 < arr.size) (n : Nat) :
    CR PV.one (Imm w ok) (zerosL z n) ((Array.range (n * z.length)).map fun k => arr[k % arr.size]!) := by
  have hl := h.len
  have key : ∀ (i : Nat) p, (zerosL z n)[i]? = some p → i < n * z.length ∧ z[i % z.length]? = some p := fun i p hp => by
    have hi : i < n * z.length := by have := (List.getElem?_eq_some_iff.1 hp).1; rwa [zerosL_length] at this
    rw [zerosL_get z n hi] at hp
    exact ⟨hi, hp⟩
  refine ⟨by rw [zerosL_length]; simp, fun i p hp => h.one _ _ (key i p hp).2, fun i p v hp hv => ?_⟩
  obtain ⟨hi, h1⟩ := key i p hp
  simp only [Array.getElem?_map, Array.getElem?_range, hi, if_true, Option.map_some, Option.some.injEq] at hv
  subst hv
  have hm : i % arr.size < arr.size := Nat.mod_lt _ hpos
  refine h.rel _ _ _ h1 ?_
  rw [hl]
  simp [hm]

theorem mkBlk_row (cs : List LV) : (mkBlk cs).isRow = true := by unfold mkBlk; split <;> rfl
/-- A block for filled cells. -/
theorem mkBlk_sound {n : Nat} {ok : Bool → Nat → Prop} {cs : List LV} {arr : Array Value} (h : CR LV.one (LR β n w ok) cs arr) :
    (mkBlk cs).live = true ∧ (mkBlk cs).len = cs.length ∧ ∀ i lv, (mkBlk cs).get i = some lv → cs[i]? = some lv := by
  unfold mkBlk
  split
  · rename_i ps hps
    have := mapM_toPV hps
    subst this
    exact ⟨rfl, by simp [Blk.len], fun i lv h => by simpa [Blk.get] using h⟩
  · exact ⟨rfl, rfl, fun i lv h => h⟩

theorem fill_size {place : Nat → Option (Nat × Nat)} : ∀ {vals : List (Nat × Value)} {arr arr' : Array Value}, Instr.fill place arr vals = some arr' → arr'.size = arr.size
  | [], arr, arr', h => by simp [Instr.fill] at h; subst h; rfl
  | (k, v) :: r, arr, arr', h => by
    simp only [Instr.fill] at h
    split at h
    · cases h
    · split at h
      · cases h
      · rw [fill_size h]; exact (foldl_set _ _ _).1

theorem buildSliceP_sound (hT : TOk P T) (hr : Rel G w0 β s acts a w) {t : TypeId} {len : Nat} {parts : List (Nat × LV)} {vals : Array (Nat × Value)} {lv : LV} {H' : List Blk}
    (hl : parts.length = vals.toList.length) (hp : ∀ (i : Nat) p v, parts[i]? = some p → vals.toList[i]? = some v → p.1 = v.1 ∧ LR β s.H.length w (okOf w0 β s.H w) p.2 v.2) (h : buildSliceP T s t len parts = some (lv, H')) :
    ∃ v w' β', (Instr.buildSlice t len vals).run P w = .ok v w' ∧ Rel G w0 β' { s with H := H' } acts a w' ∧ LR β' H'.length w' (okOf w0 β' H' w') lv v := by
  unfold buildSliceP at h
  split at h
  · cases h
  · rename_i i ht
    split at h
    · rename_i e he
      split at h
      · cases h
      · rename_i j hj
        split at h
        · rename_i h0
          simp only [Option.some.injEq, Prod.mk.injEq] at h
          obtain ⟨rfl, rfl⟩ := h
          simp only [Bool.and_eq_true, beq_iff_eq, List.isEmpty_iff] at h0
          obtain ⟨rfl, rfl⟩ := h0
          have e0 : vals = #[] := by
            have : vals.toList = [] := List.eq_nil_of_length_eq_zero (by simpa using hl.symm)
            simpa using this
          subst e0
          refine ⟨.slice (some ⟨w.heap.size, 0, none⟩) 0 0, w.alloc (.cells #[] e), β, ?_, hr.allocAny _, .emp _⟩
          simp [Instr.buildSlice, hT.under ht, he, hT.sizeOf hj, Instr.fill, newRow]
          congr 1
          simp [Array.range]
        split at h
        · rename_i hsz
          obtain ⟨z, hz1, hz2, hz3⟩ := hT.zeroCells hj w (okOf w0 β s.H w)
          have hpos : 0 < z.cells.size := by
            obtain ⟨_, _, _, _, _, _, _, _, _, _, _, h2⟩ := (hT _ _ hj).info
            have := hz2.len
            omega
          have hzc := zeros_CR hz2 hpos len
          have hrow : ∃ arr0 : Array Value, (do let zero ← (if len * j.size = 0 then pure #[] else do pure (← zeroValue e).cells : Sem (Array Value)); pure ((Array.range (len * j.size)).map (fun k => zero[k % zero.size]!)) : Sem (Array Value)).run P w = .ok arr0 w ∧ CR PV.one (Imm w (okOf w0 β s.H w)) (zerosL j.zero len) arr0 := by
            by_cases h0 : len * j.size = 0
            · refine ⟨#[], by simp [h0], ?_⟩
              have e0 : zerosL j.zero len = [] := List.eq_nil_of_length_eq_zero (by rw [zerosL_length, hz3, h0])
              rw [e0]
              exact ⟨rfl, by simp, by simp⟩
            · refine ⟨_, by simp [h0, hz1]; rfl, ?_⟩
              rw [hz3] at hzc
              simpa using hzc
          obtain ⟨arr0, hr0, hc0⟩ := hrow
          have hrun : ∀ arr', Instr.fill (fun k => some (k * j.size, j.size)) arr0 vals.toList = some arr' →
              (Instr.buildSlice t len vals).run P w = .ok (.slice (some ⟨w.heap.size, 0, none⟩) len len) (w.alloc (.cells arr' e)) := fun arr' hf => by
            have hle : ¬ (len * j.size > 2 ^ 24) := by omega
            simp only [Sem.run_bind] at hr0
            simp only [Instr.buildSlice, Sem.run_bind, hT.under ht, Result.andThen_ok, he, hT.sizeOf hj, hle, if_false]
            by_cases h0 : len * j.size = 0
            · simp only [h0, if_true, Sem.run_bind, Sem.run_pure, Result.andThen_ok] at hr0 ⊢
              simp only [Result.ok.injEq, and_true] at hr0
              rw [hr0, hf]
              simp [newRow]
            · simp only [h0, if_false, Sem.run_bind, hz1, Sem.run_pure, Result.andThen_ok] at hr0 ⊢
              simp only [Result.ok.injEq, and_true] at hr0
              rw [hr0, hf]
              simp [newRow]
          split at h
          · rename_i cs hf
            simp only [Option.some.injEq, Prod.mk.injEq] at h
            obtain ⟨rfl, rfl⟩ := h
            obtain ⟨arr', h1, h2⟩ := fillParts_sound hc0 hl hp hf
            obtain ⟨h3, h4⟩ := hr.alloc (B := Blk.p cs) (c := arr') (E := e) (fz := (0, 0)) (.inl rfl) rfl (Nat.le_of_eq h2.len) (fun i lv hlv => by
              simp only [Blk.get, Option.map_eq_some_iff] at hlv
              obtain ⟨q, h8, rfl⟩ := hlv
              obtain ⟨h9, v, h10, h11⟩ := h2.get h8
              exact ⟨h9, v, h10, .pv h11⟩)
            have hlen : arr'.size = len * j.size := by
              have h5 := fill_size h1
              rw [h5, ← hc0.len, zerosL_length, hz3]
            refine ⟨_, _, _, hrun arr' h1, h3, ?_⟩
            have h6 : (w.alloc (.cells arr' e)).heap[w.heap.size]? = some (.cells arr' e (0, 0)) := by (show (w.heap.push _)[w.heap.size]? = _); simp
            have h7 := LR.ref (β := ext β s.H.length w.heap.size) (n := (s.H ++ [Blk.p cs]).length) (w := w.alloc (.cells arr' e)) (ok := okOf w0 (ext β s.H.length w.heap.size) (s.H ++ [Blk.p cs]) (w.alloc (.cells arr' e))) s.H.length 0 len j.size len arr' e (0, 0) (by simp) (by rw [ext_eq]; exact h6) (Nat.le_refl _) (by omega)
            rw [ext_eq] at h7
            exact h7
          · rename_i cs hf
            simp only [Option.some.injEq, Prod.mk.injEq] at h
            obtain ⟨rfl, rfl⟩ := h
            obtain ⟨arr', h1, h2⟩ := fillParts_sound hc0 hl hp hf
            obtain ⟨hb1, hb2, hb3⟩ := mkBlk_sound h2
            obtain ⟨h3, h4⟩ := hr.alloc (B := mkBlk cs) (c := arr') (E := e) (fz := (0, 0)) (.inl rfl) (mkBlk_row _) (by rw [hb2]; exact Nat.le_of_eq h2.len) (fun i lv hlv => h2.get (hb3 i lv hlv))
            have hlen : arr'.size = len * j.size := by
              have h5 := fill_size h1
              rw [h5, ← hc0.len, zerosL_length, hz3]
            refine ⟨_, _, _, hrun arr' h1, h3, ?_⟩
            have h6 : (w.alloc (.cells arr' e)).heap[w.heap.size]? = some (.cells arr' e (0, 0)) := by (show (w.heap.push _)[w.heap.size]? = _); simp
            have h7 := LR.ref (β := ext β s.H.length w.heap.size) (n := (s.H ++ [mkBlk cs]).length) (w := w.alloc (.cells arr' e)) (ok := okOf w0 (ext β s.H.length w.heap.size) (s.H ++ [mkBlk cs]) (w.alloc (.cells arr' e))) s.H.length 0 len j.size len arr' e (0, 0) (by simp) (by rw [ext_eq]; exact h6) (Nat.le_refl _) (by omega)
            rw [ext_eq] at h7
            exact h7
          · cases h
        · cases h
    · cases h
end
end Hm
namespace Hm
open Go Go.RowKit

section
variable {P : Program} {T : TypeId → Option TI} {G : Nat → Option (List PV)} {w0 : World} {β : Nat → Nat} {s : St} {acts : List Act} {a : Act} {w : World}

theorem heap_new (w : World) (o : Obj) : (w.alloc o).heap[w.heap.size]? = some o := by (show (w.heap.push _)[w.heap.size]? = _); simp

theorem allocP_sound (hT : TOk P T) (hr : Rel G w0 β s acts a w) {t : TypeId} {i : TI} (ht : T t = some i) :
    ∃ v w' β', (Instr.alloc t true (.tuple #[])).run P w = .ok v w' ∧ Rel G w0 β' { s with H := s.H ++ [Blk.p i.zero] } acts a w' ∧
      LR β' (s.H ++ [Blk.p i.zero]).length w' (okOf w0 β' (s.H ++ [Blk.p i.zero]) w') (.ptr s.H.length 0) v := by
  obtain ⟨z, hz1, hz2, hz3⟩ := hT.zeroCells ht w (okOf w0 β s.H w)
  obtain ⟨h1, _⟩ := hr.alloc (B := Blk.p i.zero) (c := z.cells) (E := t) (fz := (0, 0)) (.inl rfl) rfl (Nat.le_of_eq hz2.len) (fun k lv hlv => by
    simp only [Blk.get, Option.map_eq_some_iff] at hlv
    obtain ⟨q, h8, rfl⟩ := hlv
    obtain ⟨h9, v, h10, h11⟩ := hz2.get h8
    exact ⟨h9, v, h10, .pv h11⟩)
  have h7 := LR.ptr (β := ext β s.H.length w.heap.size) (n := (s.H ++ [Blk.p i.zero]).length) (w := w.alloc (.cells z.cells t)) (ok := okOf w0 (ext β s.H.length w.heap.size) (s.H ++ [Blk.p i.zero]) (w.alloc (.cells z.cells t))) s.H.length 0 (by simp)
  rw [ext_eq] at h7
  exact ⟨_, _, _, by simp [Instr.alloc, hz1, newVar, newRow], h1, h7⟩

theorem boxP_sound (hr : Rel G w0 β s acts a w) {t : TypeId} {x : LV} {vx : Value} (hx : LR β s.H.length w (okOf w0 β s.H w) x vx) {B : Blk} (hB : blkOf x = some B) :
    ∃ v w' β', (Instr.box t vx).run P w = .ok v w' ∧ Rel G w0 β' { s with H := s.H ++ [B] } acts a w' ∧
      LR β' (s.H ++ [B]).length w' (okOf w0 β' (s.H ++ [B]) w') (.ptr s.H.length 0) v := by
  obtain ⟨_, h2, h3⟩ := blkOf_sound hx hB
  obtain ⟨h1, _⟩ := hr.alloc (B := B) (c := vx.cells) (E := t) (fz := (0, 0)) (.inl rfl) (blkOf_row hB) (Nat.le_of_eq h2) h3
  have h7 := LR.ptr (β := ext β s.H.length w.heap.size) (n := (s.H ++ [B]).length) (w := w.alloc (.cells vx.cells t)) (ok := okOf w0 (ext β s.H.length w.heap.size) (s.H ++ [B]) (w.alloc (.cells vx.cells t))) s.H.length 0 (by simp)
  rw [ext_eq] at h7
  exact ⟨_, _, _, by simp [Instr.box, newVar, newRow], h1, h7⟩

theorem CR.blkp {n : Nat} {ok : Bool → Nat → Prop} {cs : List PV} {arr : Array Value} (h : CR PV.one (Imm w ok) cs arr) :
    ∀ (i : Nat) lv, (Blk.p cs).get i = some lv → lv.one = true ∧ ∃ v, arr[i]? = some v ∧ LR β n w ok lv v := fun k lv hlv => by
  simp only [Blk.get, Option.map_eq_some_iff] at hlv
  obtain ⟨q, h8, rfl⟩ := hlv
  obtain ⟨h9, v, h10, h11⟩ := h.get h8
  exact ⟨h9, v, h10, .pv h11⟩

theorem makeSliceP_sound (hT : TOk P T) (hr : Rel G w0 β s acts a w) {t : TypeId} {l c lv : LV} {vl vc : Value} {H' : List Blk} (hl : LR β s.H.length w (okOf w0 β s.H w) l vl) (hc : LR β s.H.length w (okOf w0 β s.H w) c vc)
    (h : makeSliceP T s t l c = some (lv, H')) :
    ∃ v w' β', (Instr.makeSlice t vl vc).run P w = .ok v w' ∧ Rel G w0 β' { s with H := H' } acts a w' ∧ LR β' H'.length w' (okOf w0 β' H' w') lv v := by
  unfold makeSliceP at h
  split at h
  · rename_i i k1 n k2 m ht
    cases hl with | pv hl => cases hc with | pv hc =>
    cases hl; cases hc
    split at h
    · rename_i e he
      split at h
      · cases h
      · rename_i j hj
        split at h
        · rename_i hb
          obtain ⟨hb1, hb2, hb3, hb4⟩ := hb
          simp only [Option.some.injEq, Prod.mk.injEq] at h
          obtain ⟨rfl, rfl⟩ := h
          obtain ⟨inf, z, vs, i1, i2, i3, i4, i5, i6, i7, i8, i9⟩ := (hT _ _ hj).info
          obtain ⟨z', hz1, hz2, hz3⟩ := hT.zeroCells hj w (okOf w0 β s.H w)
          have hpos : 0 < z'.cells.size := by have := hz2.len; omega
          have hzc := zeros_CR hz2 hpos m.toNat
          have hwm : IntKind.i64.wrap m = m := by unfold IntKind.wrap IntKind.bits IntKind.signed; simp; omega
          have hwn : IntKind.i64.wrap n = n := by unfold IntKind.wrap IntKind.bits IntKind.signed; simp; omega
          have hti : (typeInfo e).run P w = .ok inf w := by simp [typeInfo, i1]
          have hrun : ∃ arr : Array Value, (Instr.makeSlice t (.int k1 n) (.int k2 m)).run P w = .ok (.slice (some ⟨w.heap.size, 0, none⟩) n.toNat m.toNat) (w.alloc (.cells arr e)) ∧ CR PV.one (Imm w (okOf w0 β s.H w)) (zerosL j.zero m.toNat) arr := by
            have hnot : ¬ (m < 0 ∨ (281474976710656 : Int) < ↑j.bytes * m) := by omega
            have hnot2 : ¬ (n < 0 ∨ m < n) := by omega
            by_cases h0 : m.toNat * j.size = 0
            · refine ⟨#[], ?_, ?_⟩
              · have hs0 := hT.sizeOf (w := w) hj
                have c1 : decide (m < 0) = false := by simp; omega
                have c2 : decide ((j.bytes : Int) * m > 2 ^ 48) = false := by simp; omega
                have c3 : decide (n < 0) = false := by simp; omega
                have c4 : decide (n > m) = false := by simp; omega
                simp only [Instr.makeSlice, Sem.run_bind, hT.under ht, Result.andThen_ok, he, asInt, asIntOf, Sem.run_pure, hti, i3, hwm, hwn, c1, c2, c3, c4, Bool.or_self, Bool.false_eq_true, if_false, run_askRoom, hs0, h0, if_true, newRow, run_newObj]
                have e0 : Array.range 0 = #[] := by simp [Array.range]
                simp [e0]
              · have e0 : zerosL j.zero m.toNat = [] := List.eq_nil_of_length_eq_zero (by rw [zerosL_length, hz3, h0])
                rw [e0]
                exact ⟨rfl, by simp, by simp⟩
            · refine ⟨_, ?_, by rw [hz3] at hzc; exact hzc⟩
              have hs0 := hT.sizeOf (w := w) hj
              have c1 : decide (m < 0) = false := by simp; omega
              have c2 : decide ((j.bytes : Int) * m > 2 ^ 48) = false := by simp; omega
              have c3 : decide (n < 0) = false := by simp; omega
              have c4 : decide (n > m) = false := by simp; omega
              simp only [Instr.makeSlice, Sem.run_bind, hT.under ht, Result.andThen_ok, he, asInt, asIntOf, Sem.run_pure, hti, i3, hwm, hwn, c1, c2, c3, c4, Bool.or_self, Bool.false_eq_true, if_false, run_askRoom, hs0, h0, hz1, newRow, run_newObj]
              rfl
          obtain ⟨arr, hr1, hr2⟩ := hrun
          have hle : n.toNat * j.size ≤ m.toNat * j.size := Nat.mul_le_mul_right _ (by omega)
          have hsz : arr.size = m.toNat * j.size := by rw [← hr2.len, zerosL_length, hz3]
          have hpre : ∀ (k : Nat) p, (zerosL j.zero n.toNat)[k]? = some p → (zerosL j.zero m.toNat)[k]? = some p := fun k p hk => by
            have hi : k < n.toNat * j.zero.length := by have := (List.getElem?_eq_some_iff.1 hk).1; rwa [zerosL_length] at this
            rw [zerosL_get _ _ hi] at hk
            rw [zerosL_get _ _ (by rw [hz3] at hi ⊢; omega)]
            exact hk
          obtain ⟨h3, h4⟩ := hr.alloc (B := Blk.p (zerosL j.zero n.toNat)) (c := arr) (E := e) (fz := (0, 0)) (.inl rfl) rfl (by simp only [Blk.len]; rw [zerosL_length, hz3, hsz]; exact hle) (fun k lv hlv => by
            simp only [Blk.get, Option.map_eq_some_iff] at hlv
            obtain ⟨q, h8, rfl⟩ := hlv
            obtain ⟨h9, v, h10, h11⟩ := hr2.get (hpre _ _ h8)
            exact ⟨h9, v, h10, .pv h11⟩)
          have h7 := LR.ref (β := ext β s.H.length w.heap.size) (n := (s.H ++ [Blk.p (zerosL j.zero n.toNat)]).length) (w := w.alloc (.cells arr e)) (ok := okOf w0 (ext β s.H.length w.heap.size) (s.H ++ [Blk.p (zerosL j.zero n.toNat)]) (w.alloc (.cells arr e))) s.H.length 0 n.toNat j.size m.toNat arr e (0, 0) (by simp) (by rw [ext_eq]; exact heap_new _ _) (by omega) (by omega)
          rw [ext_eq] at h7
          exact ⟨_, _, _, hr1, h3, h7⟩
        · cases h
    · cases h
  · cases h

theorem bytesWorld_eq (w : World) (e : TypeId) (b : ByteArray) : Go.Lib.bytesWorld w e b = w.drew.alloc (.cells (Go.Lib.bytesCells w e b) e ((Go.Lib.bytesCells w e b).size, (Go.Lib.bytesCells w e b).size + 1)) := by
  have h : (Go.Lib.bytesWorld w e b).heap = (w.drew.alloc (.cells (Go.Lib.bytesCells w e b) e ((Go.Lib.bytesCells w e b).size, (Go.Lib.bytesCells w e b).size + 1))).heap := by
    apply Array.ext_getElem?
    intro k
    rcases Nat.lt_trichotomy k w.heap.size with hk | rfl | hk
    · rw [Go.Lib.bytesWorld_at_old w e b k hk, heap_alloc_lt (by simpa using hk)]; rfl
    · rw [Go.Lib.bytesWorld_at_new]; exact (heap_new w.drew _).symm
    · rw [Array.getElem?_eq_none (by rw [Go.Lib.bytesWorld_size]; omega), Array.getElem?_eq_none (by simp; omega)]
  have h2 : Go.Lib.bytesWorld w e b = { w.drew with heap := (Go.Lib.bytesWorld w e b).heap } := by
    unfold Go.Lib.bytesWorld World.freeze
    rfl
  rw [h2, h]
  rfl

theorem sl_ref_form0 {n : Nat} {ok : Bool → Nat → Prop} {b off len esz : Nat} {v : Value} (h : LR β n w ok (.ref b off len esz) v) (h0 : 0 < len) : ∃ o l cap, v = .slice (some ⟨β b, o, none⟩) l cap := by
  cases h with
  | ref => exact ⟨_, _, _, rfl⟩
  | refz => omega
theorem convBytesP_sound (hT : TOk P T) (hr : Rel G w0 β s acts a w) {src dst : TypeId} {x lv : LV} {vx : Value} {H' : List Blk} (hx : LR β s.H.length w (okOf w0 β s.H w) x vx) (h : convBytesP T s src dst x = some (lv, H')) :
    ∃ v w' β', (convert src dst vx).run P w = .ok v w' ∧ Rel G w0 β' { s with H := H' } acts a w' ∧ LR β' H'.length w' (okOf w0 β' H' w') lv v := by
  unfold convBytesP at h
  split at h
  · rename_i i j b hi hj
    cases hx with | pv hx =>
    cases hx
    split at h
    · rename_i e he
      split at h
      · rename_i k hk
        split at h
        · rename_i hu
          simp only [Option.some.injEq, Prod.mk.injEq] at h
          obtain ⟨rfl, rfl⟩ := h
          have hrun := Go.Lib.run_convert_string_bytes (P := P) w src dst e b (hT _ _ hi).und (by rw [(hT _ _ hj).und, he]) (by rw [(hT _ _ hk).und, hu])
          rw [bytesWorld_eq] at hrun
          have hr2 := hr.drewN 1
          have hsz : (Go.Lib.bytesCells w e b).size = b.size + (grownCap w b.size 0 e - b.size) := by simp [Go.Lib.bytesCells]
          have hcap := grownCap_ge w b.size 0 e
          obtain ⟨h3, h4⟩ := hr2.alloc (B := Blk.p (b.data.toList.map fun x => PV.int .u8 x.toNat)) (c := Go.Lib.bytesCells w e b) (E := e) (fz := ((Go.Lib.bytesCells w e b).size, (Go.Lib.bytesCells w e b).size + 1)) (.inr (Nat.le_refl _)) rfl
            (by simp only [Blk.len, List.length_map, Array.length_toList]; rw [hsz]; exact Nat.le_add_right _ _) (fun k lv hlv => by
            simp only [Blk.get, Option.map_eq_some_iff, List.getElem?_map] at hlv
            obtain ⟨q, ⟨x, h8, rfl⟩, rfl⟩ := hlv
            refine ⟨rfl, .int .u8 x.toNat, ?_, .pv (.int _ _)⟩
            have hk' : k < b.data.size := by have := (List.getElem?_eq_some_iff.1 h8).1; simpa using this
            simp only [Go.Lib.bytesCells]
            rw [Array.getElem?_append_left (by simpa using hk')]
            simp at h8
            simp [h8])
          have h7 := LR.ref (β := ext β s.H.length w.drew.heap.size) (n := (s.H ++ [Blk.p (b.data.toList.map fun x => PV.int .u8 x.toNat)]).length) (w := w.drew.alloc (.cells (Go.Lib.bytesCells w e b) e ((Go.Lib.bytesCells w e b).size, (Go.Lib.bytesCells w e b).size + 1)))
            (ok := okOf w0 (ext β s.H.length w.drew.heap.size) (s.H ++ [Blk.p (b.data.toList.map fun x => PV.int .u8 x.toNat)]) (w.drew.alloc (.cells (Go.Lib.bytesCells w e b) e ((Go.Lib.bytesCells w e b).size, (Go.Lib.bytesCells w e b).size + 1)))) s.H.length 0 b.size 1 (grownCap w b.size 0 e) (Go.Lib.bytesCells w e b) e ((Go.Lib.bytesCells w e b).size, (Go.Lib.bytesCells w e b).size + 1) (by simp) (by rw [ext_eq]; exact heap_new _ _) hcap (by omega)
          rw [ext_eq] at h7
          exact ⟨_, _, _, hrun, h3, h7⟩
        · cases h
      · cases h
    · cases h
  · rename_i i j b off len esz hi hj
    split at h
    · rename_i e he
      split at h
      · rename_i k cs hk hB
        split at h
        · rename_i hu
          split at h
          · rename_i heq
            obtain rfl := heq.1
            simp only [Option.some.injEq, Prod.mk.injEq] at h
            obtain ⟨rfl, rfl⟩ := h
            obtain ⟨c, E, fz, h1, h2, h3, h4⟩ := (hr.blk b _ hB rfl).row rfl
            obtain ⟨h5, h6⟩ := hr.freeze hB rfl rfl h1 (fun _ => 0)
            have hrun : ∀ o l cap, (convert src src (.slice (some ⟨β b, o, none⟩) l cap)).run P w = .ok (.slice (some ⟨β b, o, none⟩) l cap) (w.freeze { block := β b, off := c.size } 1) := fun o l cap => by
              have hsh : w.shape? (β b) = some (E, c.size) := by unfold World.shape?; rw [h1]
              have hu1 : P.underlying src = some (.slice e) := by rw [(hT _ _ hj).und, he]
              have hu2 : P.underlying e = some (.int .u8) := by rw [(hT _ _ hk).und, hu]
              simp [convert, run_underlying hu1, run_underlying hu2, markStringish, hsh]
            rcases sl_ref_form0 hx heq.2 with ⟨o, l, cap, rfl⟩
            exact ⟨_, _, β, hrun _ _ _, h5, h6 _ _ hx⟩
          · cases h
        · cases h
      · cases h
    · cases h
  · cases h
end
end Hm
namespace Hm
open Go Go.RowKit

section
variable {P : Program} {T : TypeId → Option TI} {G : Nat → Option (List PV)} {w0 : World} {β : Nat → Nat} {s : St} {acts : List Act} {a : Act} {w : World}

theorem cell_of_heap {b : Nat} {c : Array Value} {E : TypeId} {fz : Nat × Nat} (h : w.heap[b]? = some (.cells c E fz)) (i : Nat) : w.cell? ⟨b, i, none⟩ = c[i]? := by simp [World.cell?, h]

/-- Cells of a row are written. -/
theorem run_cells {b off : Nat} {c : Array Value} {E : TypeId} {fz : Nat × Nat} (h1 : w.heap[b]? = some (.cells c E fz)) (h2 : FzOk fz c.size) {vs : List Value} (hle : off + vs.length ≤ c.size)
    (ho : ∀ v ∈ vs, v.oneCell' = true) : (storeCells ⟨b, off, none⟩ vs).run P w = .ok () (w.setCells b off vs) := by
  have := run_storeCells_cells (P := P) b off vs 0 w (fun j hj => by
    rw [cell_of_heap h1]
    have : off + j < c.size := by omega
    simp [this]) (fun j hj => by
    have := h2.out (off + 0 + j) (by omega)
    simp only [World.frozen?, h1]
    simp only [Bool.and_eq_false_iff, decide_eq_false_iff_not]
    omega) ho
  simpa using this

/-- A variable is written. -/
theorem run_storeVar (hT : TOk P T) {t : TypeId} {i : TI} (ht : T t = some i) {b off : Nat} {c : Array Value} {E : TypeId} {fz : Nat × Nat} (h1 : w.heap[b]? = some (.cells c E fz)) (h2 : FzOk fz c.size) {v : Value}
    (hs : v.cells.size = i.size) (hle : off + v.cells.size ≤ c.size) (ho : ∀ u ∈ v.cells.toList, u.oneCell' = true) : (Instr.storeAt t (.pointer (some ⟨b, off, none⟩)) v).run P w = .ok () (w.setCells b off v.cells.toList) := by
  have := run_cells (P := P) h1 h2 (vs := v.cells.toList) (off := off) (by simpa using hle) ho
  simp only [Instr.storeAt, Instr.sureAddr, Sem.run_bind, Sem.run_pure, Result.andThen_ok, storeVar, hT.sizeOf ht, hs, ne_eq, not_true_eq_false, if_false, this]

theorem CR.ones {α : Type} {one : α → Bool} {R : α → Value → Prop} {cs : List α} {arr : Array Value} (h : CR one R cs arr) (hR : ∀ p v, one p = true → R p v → v.oneCell' = true) : ∀ u ∈ arr.toList, u.oneCell' = true := by
  intro u hu
  obtain ⟨i, hi⟩ := List.getElem?_of_mem hu
  have hl : i < cs.length := by have := (List.getElem?_eq_some_iff.1 hi).1; have := h.len; simp at *; omega
  exact hR cs[i] u (h.one i _ (by simp [hl])) (h.rel i _ u (by simp [hl]) (by simpa using hi))

/-- The general store: new cells, as the machine without memory sees them. -/
theorem store_gen (hT : TOk P T) (hr : Rel G w0 β s acts a w) {t : TypeId} {i : TI} (ht : T t = some i) {b off : Nat} {B B' : Blk} {v : Value} {new : List LV} (hB : s.H[b]? = some B) (hl : B.live = true) (hl' : B'.live = true)
    (hn : CR LV.one (LR β s.H.length w (okOf w0 β s.H w)) new v.cells) (hsz : new.length = i.size) (hle : off + new.length ≤ B.len) (hlen : B'.len = B.len)
    (hget : ∀ k, k < B.len → B'.get k = if off ≤ k ∧ k < off + new.length then new[k - off]? else B.get k) (hR : B.isRow = true := by rfl) (hR' : B'.isRow = true := by rfl) :
    ∃ w', (Instr.storeAt t (.pointer (some ⟨β b, off, none⟩)) v).run P w = .ok () w' ∧ Rel G w0 β { s with H := s.H.set b B' } acts a w' := by
  obtain ⟨c, E, fz, h1, h2, h3, h4⟩ := (hr.blk b B hB hl).row hR
  have hcl := hn.len
  refine ⟨_, run_storeVar hT ht h1 h2 (by omega) (by omega) (hn.ones fun p v h1 h2 => lr_one h2 h1), ?_⟩
  refine hr.store (lvs := new) hB hl hl' hR hR' (fun c' E' fz' h => ?_) (fun k hk => ?_) hn.one (fun k lv u hk hu => hn.rel k lv u hk (by simpa using hu))
  · rw [h1] at h
    simp only [Option.some.injEq, Obj.cells.injEq] at h
    obtain ⟨rfl, rfl, rfl⟩ := h
    omega
  · rw [hget k (by omega)]
    have : v.cells.toList.length = new.length := by simp [hcl]
    rw [this]

theorem get_map_pv (l : List PV) (k : Nat) : (l.map LV.pv)[k]? = (l[k]?).map .pv := by simp

theorem storeP_sound (hT : TOk P T) (hr : Rel G w0 β s acts a w) {t : TypeId} {x y : LV} {vx vy : Value} {H' : List Blk} (hx : LR β s.H.length w (okOf w0 β s.H w) x vx) (hy : LR β s.H.length w (okOf w0 β s.H w) y vy)
    (h : storeP T s t x y = some H') : ∃ w', (Instr.storeAt t vx vy).run P w = .ok () w' ∧ Rel G w0 β { s with H := H' } acts a w' := by
  unfold storeP at h
  split at h
  · rename_i i b off ht
    cases hx with | ptr _ _ hbn =>
    split at h
    · rename_i cs hB
      split at h
      · rename_i p
        split at h
        · rename_i hb
          simp only [Option.some.injEq] at h; subst h
          cases hy with | pv hy =>
          refine store_gen hT hr ht (B := .p cs) (new := (pcells p).map .pv) hB rfl rfl (pcells_CR hy).toL (by simpa using hb.1) (by simpa [Blk.len] using hb.2) (by simp only [Blk.len]; exact putA_length hb.2) fun k hk => ?_
          simp only [Blk.get, putA_get hb.2, List.length_map, get_map_pv]
          split <;> rfl
        · cases h
      · split at h
        · rename_i new hnew
          split at h
          · rename_i hb
            simp only [Option.some.injEq] at h; subst h
            refine store_gen hT hr ht (B := .p cs) (new := new) hB rfl rfl (lcells_CR hy hnew) hb.1 (by simpa [Blk.len] using hb.2) ?_ fun k hk => ?_
            · simp only [Blk.len]
              rw [putA_length (by simpa using hb.2)]; simp
            · simp only [Blk.get]
              rw [putA_get (by simpa using hb.2)]
              split <;> simp
          · cases h
        · cases h
    · rename_i cs hB
      split at h
      · rename_i p
        split at h
        · rename_i hb
          simp only [Option.some.injEq] at h; subst h
          cases hy with | pv hy =>
          have hne : ∀ l : List PV, 0 < l.length → (Blk.n l).live = true := fun l hl => by cases l <;> first | (simp at hl; done) | rfl
          refine store_gen hT hr ht (B := .n cs) (new := (pcells p).map .pv) hB (hne _ (by omega)) (hne _ (by rw [putA_length hb.2.1]; omega)) (pcells_CR hy).toL (by simpa using hb.1) (by simpa [Blk.len] using hb.2.1) (by simp only [Blk.len]; exact putA_length hb.2.1) fun k hk => ?_
          simp only [Blk.get, putA_get hb.2.1, List.length_map, get_map_pv]
          split <;> rfl
        · cases h
      · cases h
    · rename_i cs hB
      split at h
      · rename_i new hnew
        split at h
        · rename_i hb
          simp only [Option.some.injEq] at h; subst h
          have hmk : (mkBlk (putA cs off new)).live = true ∧ (mkBlk (putA cs off new)).len = (putA cs off new).length ∧ ∀ k, (mkBlk (putA cs off new)).get k = (putA cs off new)[k]? := by
            unfold mkBlk
            split
            · rename_i ps hps
              have := mapM_toPV hps
              refine ⟨rfl, by rw [this]; simp [Blk.len], fun k => by rw [this]; simp [Blk.get]⟩
            · exact ⟨rfl, rfl, fun k => rfl⟩
          refine store_gen hT hr ht (B := .l cs) (new := new) (hR' := mkBlk_row _) hB rfl hmk.1 (lcells_CR hy hnew) hb.1 (by simpa [Blk.len] using hb.2) (by rw [hmk.2.1, putA_length hb.2]; rfl) fun k hk => ?_
          rw [hmk.2.2, putA_get hb.2]
          rfl
        · cases h
      · cases h
    · cases h
  · cases h

/-- What is appended or copied, as the memory has it. -/
theorem srcP_sound (hr : Rel G w0 β s acts a w) {size : Nat} (hpos : 0 < size) {y : LV} {vy : Value} {n : Nat} {new : List PV} (hy : LR β s.H.length w (okOf w0 β s.H w) y vy) (h : srcP s size y = some (n, new)) :
    new.length = n * size ∧ (Builtin.lenOf vy).run P w = .ok n w ∧ ∃ arr : Array Value, CR PV.one (Imm w (okOf w0 β s.H w)) new arr ∧
      ∀ (m : Nat) (w1 : World), m ≤ n → w1.heap = w.heap → (Builtin.firstCells size m vy).run P w1 = .ok (arr.extract 0 (m * size)) w1 := by
  have viaRow : ∀ (blk off len cap : Nat) (arr : Array Value), arr.size = len * size → (∀ (k : Nat) v, arr[k]? = some v → w.cell? ⟨blk, off + k, none⟩ = some v) → ∀ (m : Nat) (w1 : World), m ≤ len → w1.heap = w.heap →
      (Builtin.firstCells size m (.slice (some ⟨blk, off, none⟩) len cap)).run P w1 = .ok (arr.extract 0 (m * size)) w1 := fun blk off len cap arr hs hc m w1 hm hw => by
    have hms : m * size ≤ len * size := Nat.mul_le_mul_right _ hm
    have h1 := run_firstCells_some (P := P) w1 size m ⟨blk, off, none⟩ len cap (arr.extract 0 (m * size)).toList (by simp; omega) (fun j v hj => by
      rw [add_lit]
      have h2 : w1.cell? ⟨blk, off + j, none⟩ = w.cell? ⟨blk, off + j, none⟩ := by simp [World.cell?, hw]
      rw [h2]
      simp only [Array.getElem?_toList, Array.getElem?_extract] at hj
      split at hj
      · exact hc j v (by simpa using hj)
      · cases hj)
    rw [Array.toArray_toList] at h1
    exact h1
  have viaImm : ∀ (f : Bool) (cs : List PV) (len : Nat) (v : Value), cs.length = len * size → Imm w (okOf w0 β s.H w) (.sl f cs len) v → (Builtin.lenOf v).run P w = .ok len w ∧ ∃ arr : Array Value, CR PV.one (Imm w (okOf w0 β s.H w)) cs arr ∧
      ∀ (m : Nat) (w1 : World), m ≤ len → w1.heap = w.heap → (Builtin.firstCells size m v).run P w1 = .ok (arr.extract 0 (m * size)) w1 := fun f cs len v hcs hi => by
    cases hi with
    | slz =>
      have : cs = [] := List.eq_nil_of_length_eq_zero (by simpa using hcs)
      subst this
      exact ⟨rfl, #[], ⟨rfl, by simp, by simp⟩, fun m w1 hm _ => by
          have : m = 0 := by omega
          subst this
          simp [Builtin.firstCells, loadCells, loadCellsFrom]⟩
    | sl _ _ _ blk off cap vs hl h1 hc hv =>
    refine ⟨rfl, ((List.range cs.length).map vs).toArray, ⟨by simp, h1, fun k p u hp hu => ?_⟩, viaRow _ _ _ _ _ (by simp [hcs]) (fun k u hu => ?_)⟩
    · have hk : k < cs.length := (List.getElem?_eq_some_iff.1 hp).1
      simp [hk] at hu
      subst hu
      exact hv k p hp
    · have hk : k < cs.length := by have := (Array.getElem?_eq_some_iff.1 hu).1; simpa using this
      simp [hk] at hu
      subst hu
      exact (hc k hk).2
  have viaOwn : ∀ (b off len cap : Nat) (cs : List PV) (B : Blk), s.H[b]? = some B → B.live = true → B.isRow = true → (∀ k, B.get k = (cs[k]?).map .pv) → B.len = cs.length → off + len * size ≤ cs.length →
      ∃ arr : Array Value, CR PV.one (Imm w (okOf w0 β s.H w)) ((cs.drop off).take (len * size)) arr ∧
      ∀ (m : Nat) (w1 : World), m ≤ len → w1.heap = w.heap → (Builtin.firstCells size m (.slice (some ⟨β b, off, none⟩) len cap)).run P w1 = .ok (arr.extract 0 (m * size)) w1 := fun b off len cap cs B hB hl hR hg hBl hle => by
    obtain ⟨vs, hvs⟩ := hr.cells hB hl hR
    refine ⟨((List.range (len * size)).map fun k => vs (off + k)).toArray, ⟨by simp; omega, fun k p hp => ?_, fun k p u hp hu => ?_⟩, viaRow _ _ _ _ _ (by simp) (fun k u hu => ?_)⟩
    · have h1 := get_take_drop hp
      exact ((hvs (off + k) (by have := (List.getElem?_eq_some_iff.1 h1).1; omega)).2 (.pv p) (by rw [hg, h1]; rfl)).1
    · have h1 := get_take_drop hp
      have hk : k < len * size := by have := (List.getElem?_eq_some_iff.1 hp).1; simp at this; omega
      simp [hk] at hu
      subst hu
      have h2 := ((hvs (off + k) (by have := (List.getElem?_eq_some_iff.1 h1).1; omega)).2 (.pv p) (by rw [hg, h1]; rfl)).2
      cases h2 with | pv h2 => exact h2
    · have hk : k < len * size := by have := (Array.getElem?_eq_some_iff.1 hu).1; simpa using this
      simp [hk] at hu
      subst hu
      exact (hvs (off + k) (by omega)).1
  unfold srcP at h
  split at h
  · simp only [Option.some.injEq, Prod.mk.injEq] at h
    obtain ⟨rfl, rfl⟩ := h
    cases hy with | pv hy =>
    cases hy
    exact ⟨by simp, rfl, #[], ⟨rfl, by simp, by simp⟩, fun m w1 hm _ => by simp [Builtin.firstCells]⟩
  · simp only [Option.some.injEq, Prod.mk.injEq] at h
    obtain ⟨rfl, rfl⟩ := h
    cases hy with | emp a =>
    exact ⟨by simp, rfl, #[], ⟨rfl, by simp, by simp⟩, fun m w1 hm _ => by
      have : m = 0 := by omega
      subst this
      simp [Builtin.firstCells, loadCells, loadCellsFrom]⟩
  · split at h
    · rename_i hcs
      simp only [Option.some.injEq, Prod.mk.injEq] at h
      obtain ⟨rfl, rfl⟩ := h
      cases hy with | pv hy =>
      obtain ⟨h1, h2⟩ := viaImm _ _ _ _ hcs hy
      exact ⟨hcs, h1, h2⟩
    · cases h
  · rename_i f cs len
    split at h
    · rename_i hcs
      simp only [Option.some.injEq, Prod.mk.injEq] at h
      obtain ⟨rfl, rfl⟩ := h
      cases hy with | pv hy =>
      cases hy with
      | nsl0 =>
        have : cs = [] := List.eq_nil_of_length_eq_zero (by simpa using hcs)
        subst this
        exact ⟨by simp, rfl, #[], ⟨rfl, by simp, by simp⟩, fun m w1 hm _ => by simp [Builtin.firstCells]⟩
      | nsl _ _ _ _ _ hy =>
        obtain ⟨h1, h2⟩ := viaImm _ _ _ _ hcs hy
        exact ⟨hcs, h1, h2⟩
    · cases h
  · rename_i f cs len
    split at h
    · rename_i hcs
      simp only [Option.some.injEq, Prod.mk.injEq] at h
      obtain ⟨rfl, rfl⟩ := h
      cases hy with | pv hy =>
      cases hy with
      | asl0 =>
        have : cs = [] := List.eq_nil_of_length_eq_zero (by simpa using hcs)
        subst this
        exact ⟨by simp, rfl, #[], ⟨rfl, by simp, by simp⟩, fun m w1 hm _ => by simp [Builtin.firstCells]⟩
      | asl _ _ _ _ hy =>
        obtain ⟨h1, h2⟩ := viaImm _ _ _ _ hcs hy
        exact ⟨hcs, h1, h2⟩
    · cases h
  · rename_i b
    split at h
    · rename_i hs
      subst hs
      simp only [Option.some.injEq, Prod.mk.injEq] at h
      obtain ⟨rfl, rfl⟩ := h
      cases hy with | pv hy =>
      cases hy
      refine ⟨by simp, rfl, b.data.map fun x => .int .u8 x.toNat, ⟨by simp, fun k p hp => ?_, fun k p u hp hu => ?_⟩, fun m w1 hm _ => ?_⟩
      · simp only [List.getElem?_map, Option.map_eq_some_iff] at hp
        obtain ⟨x, _, rfl⟩ := hp
        rfl
      · simp only [List.getElem?_map, Option.map_eq_some_iff, Array.getElem?_toList] at hp
        obtain ⟨x, h1, rfl⟩ := hp
        simp [h1] at hu
        subst hu
        exact .int _ _
      · simp only [Builtin.firstCells, Sem.run_pure]
        congr 1
        apply Array.ext_getElem?
        intro k
        simp [ByteArray.data_extract, Array.getElem?_extract]
    · cases h
  · rename_i b off len esz
    split at h
    · rename_i cs hB
      split at h
      · rename_i hb
        obtain ⟨rfl, hb⟩ := hb
        simp only [Option.some.injEq, Prod.mk.injEq] at h
        obtain ⟨rfl, rfl⟩ := h
        have hlen : ((cs.drop off).take (len * esz)).length = len * esz := by simp; omega
        cases hy with
        | ref _ _ _ _ cap c E fz hbn hh hl hs2 => exact ⟨hlen, rfl, viaOwn b off len cap cs _ hB rfl rfl (fun _ => rfl) rfl hb⟩
        | refz => exact ⟨by simp, rfl, #[], ⟨by simp, by simp, by simp⟩, fun m w1 hm _ => by
            have : m = 0 := by omega
            subst this
            simp [Builtin.firstCells, loadCells, loadCellsFrom]⟩
      · cases h
    · rename_i cs hB
      split at h
      · rename_i hb
        obtain ⟨rfl, hb⟩ := hb
        simp only [Option.some.injEq, Prod.mk.injEq] at h
        obtain ⟨rfl, rfl⟩ := h
        have hlen : ((cs.drop off).take (len * esz)).length = len * esz := by simp; omega
        by_cases h0 : len = 0
        · subst h0
          have e0 : (cs.drop off).take (0 * esz) = [] := by simp
          rw [e0]
          cases hy with
          | ref => exact ⟨by simp, rfl, #[], ⟨by simp, by simp, by simp⟩, fun m w1 hm _ => by
              have : m = 0 := by omega
              subst this
              simp [Builtin.firstCells, loadCells, loadCellsFrom]⟩
          | refz => exact ⟨by simp, rfl, #[], ⟨by simp, by simp, by simp⟩, fun m w1 hm _ => by
              have : m = 0 := by omega
              subst this
              simp [Builtin.firstCells, loadCells, loadCellsFrom]⟩
        · have hne : (Blk.n cs).live = true := by
            cases cs with
            | nil =>
              exfalso
              have : 0 < len * esz := Nat.mul_pos (by omega) hpos
              simp at hb
              omega
            | cons => rfl
          cases hy with
          | ref _ _ _ _ cap c E fz hbn hh hl hs2 => exact ⟨hlen, rfl, viaOwn b off len cap cs _ hB hne rfl (fun _ => rfl) rfl hb⟩
          | refz => exact absurd rfl h0
      · cases h
    · cases h
  · rename_i b len esz
    split at h
    · rename_i cs hB
      split at h
      · rename_i hb
        obtain ⟨rfl, hb⟩ := hb
        simp only [Option.some.injEq, Prod.mk.injEq] at h
        obtain ⟨rfl, rfl⟩ := h
        cases hy with
        | nref0 _ _ a =>
          have : cs = [] := List.eq_nil_of_length_eq_zero (by simpa using hb)
          subst this
          exact ⟨by simp, rfl, #[], ⟨rfl, by simp, by simp⟩, fun m w1 hm _ => by
            have : m = 0 := by omega
            subst this
            cases a <;> simp [Builtin.firstCells, loadCells, loadCellsFrom]⟩
        | nref _ _ _ _ h0 hy =>
          have hne : (Blk.n cs).live = true := by
            cases cs with
            | nil =>
              exfalso
              have : 0 < len * esz := Nat.mul_pos (by omega) hpos
              simp at hb
              omega
            | cons => rfl
          have e0 : (cs.drop 0).take (len * esz) = cs := by simp [← hb]
          cases hy with
          | ref _ _ _ _ cap c E fz hbn hh hl hs2 =>
            have := viaOwn b 0 len cap cs _ hB hne rfl (fun _ => rfl) rfl (by omega)
            rw [e0] at this
            exact ⟨hb, rfl, this⟩
          | refz => omega
      · cases h
    · cases h
  · cases h
end
end Hm
namespace Hm
open Go Go.RowKit

section
variable {P : Program} {T : TypeId → Option TI} {G : Nat → Option (List PV)} {w0 : World} {β : Nat → Nat} {s : St} {acts : List Act} {a : Act} {w : World}

theorem srcD_cases {d : TypeDesc} (h : isSrcD d = true) : (∃ e, d = .slice e) ∨ d = .string := by cases d <;> first | exact .inl ⟨_, rfl⟩ | exact .inr rfl | cases h

section
variable {t t2 e ty : TypeId} {i i2 j : TI} {vx vy : Value} {n : Nat} {arr : Array Value}

theorem run_append_room_gen (hT : TOk P T) (ht : T t = some i) (he : i.und = .slice e) (hj : T e = some j) (ht2 : T t2 = some i2) (hi2 : isSrcD i2.und = true) {base : Option Addr} {sLen sCap : Nat}
    (hn : (Builtin.lenOf vy).run P w = .ok n w) (ha : (Builtin.firstCells j.size n vy).run P w = .ok arr w) (hroom : sLen + n ≤ sCap) :
    (Builtin.append_ #[t, t2] ty #[.slice base sLen sCap, vy]).run P w = (match base with
      | some a => (storeCells (a.add (sLen * j.size)) arr.toList).run P w
      | none => .ok () w).andThen fun _ w' => .ok (.slice base (sLen + n) sCap) w' := by
  have hu2 := hT.under (w := w) ht2
  rcases srcD_cases hi2 with ⟨e2, hd⟩ | hd <;> rw [hd] at hu2 <;> cases base <;>
    simp [Builtin.append_, hT.under ht, he, hT.sizeOf hj, hu2, hn, hroom, ha]

theorem run_append_grow_gen (hT : TOk P T) (ht : T t = some i) (he : i.und = .slice e) (hj : T e = some j) (ht2 : T t2 = some i2) (hi2 : isSrcD i2.und = true) {base : Option Addr} {sLen sCap : Nat} {old : Array Value}
    (hn : (Builtin.lenOf vy).run P w = .ok n w) (ha : (Builtin.firstCells j.size n vy).run P w.drew = .ok arr w.drew) (ho : (Builtin.firstCells j.size sLen (.slice base sLen sCap)).run P w.drew = .ok old w.drew)
    (hroom : sCap < sLen + n) (hb : (sLen + n) * j.bytes ≤ 140737488355328) (h63 : sLen + n ≤ 9223372036854775807) :
    ∃ rest : Array Value, rest.size = (grownCap w (sLen + n) sCap e - (sLen + n)) * j.size ∧
    (Builtin.append_ #[t, t2] ty #[.slice base sLen sCap, vy]).run P w = .ok (.slice (some ⟨w.heap.size, 0, none⟩) (sLen + n) (grownCap w (sLen + n) sCap e)) (w.drew.alloc (.cells (old ++ arr ++ rest) e)) := by
  have hu2 := hT.under (w := w) ht2
  obtain ⟨inf, z, vs, i1, i2', i3, i4, i5, i6, i7, i8, i9⟩ := (hT _ _ hj).info
  obtain ⟨z', hz1, hz2, hz3⟩ := hT.zeroCells hj w.drew (fun _ _ => True)
  have hti : ∀ w, (typeInfo e).run P w = .ok inf w := fun w => by simp [typeInfo, i1]
  have hcells : z'.cells.size = j.size := by rw [← hz2.len, hz3]
  refine ⟨Builtin.zeroCells z'.cells (grownCap w (sLen + n) sCap e - (sLen + n)), by rw [size_zeroCells, hcells], ?_⟩
  have hnr : ¬ (sLen + n ≤ sCap) := by omega
  have h63' : ¬ (9223372036854775807 < ((sLen : Int) + (n : Int))) := by omega
  have hfit := growslice_fits (need := sLen + n) (old := sCap) (bytes := inf.bytes) hroom (by rw [i3]; exact hb)
  have hfit' : ¬ (281474976710656 < Builtin.nextslicecap (sLen + n) sCap * inf.bytes) := by omega
  rcases srcD_cases hi2 with ⟨e2, hd⟩ | hd <;> rw [hd] at hu2 <;>
    simp [Builtin.append_, hT.under ht, he, hT.sizeOf hj, hu2, hn, hnr, hti, h63', hfit', Question.forced, ho, ha, hz1, newRow, grownCap]
/-- What an append makes of what is appended, n elements with the cells arr. -/
structure Src (P : Program) (w : World) (t t2 ty e : TypeId) (j : TI) (vy : Value) (n : Nat) (arr : Array Value) : Prop where
  room : ∀ (base : Option Addr) (sLen sCap : Nat), n * j.bytes ≤ 140737488355328 → sLen + n ≤ sCap → (Builtin.append_ #[t, t2] ty #[.slice base sLen sCap, vy]).run P w = (match base with
      | some a => (storeCells (a.add (sLen * j.size)) arr.toList).run P w
      | none => .ok () w).andThen fun _ w' => .ok (.slice base (sLen + n) sCap) w'
  grow : ∀ (base : Option Addr) (sLen sCap : Nat) (old : Array Value), (Builtin.firstCells j.size sLen (.slice base sLen sCap)).run P w.drew = .ok old w.drew → sCap < sLen + n → (sLen + n) * j.bytes ≤ 140737488355328 → sLen + n ≤ 9223372036854775807 →
    ∃ rest : Array Value, rest.size = (grownCap w (sLen + n) sCap e - (sLen + n)) * j.size ∧
    (Builtin.append_ #[t, t2] ty #[.slice base sLen sCap, vy]).run P w = .ok (.slice (some ⟨w.heap.size, 0, none⟩) (sLen + n) (grownCap w (sLen + n) sCap e)) (w.drew.alloc (.cells (old ++ arr ++ rest) e))
theorem Src.els (hT : TOk P T) (ht : T t = some i) (he : i.und = .slice e) (hj : T e = some j) (ht2 : T t2 = some i2) (hi2 : isSrcD i2.und = true)
    (hn : (Builtin.lenOf vy).run P w = .ok n w) (h1 : (Builtin.firstCells j.size n vy).run P w = .ok arr w) (h2 : (Builtin.firstCells j.size n vy).run P w.drew = .ok arr w.drew) : Src P w t t2 ty e j vy n arr :=
  ⟨fun _ _ _ _ h => run_append_room_gen hT ht he hj ht2 hi2 hn h1 h, fun _ _ _ _ ho h hb h63 => run_append_grow_gen hT ht he hj ht2 hi2 hn h2 ho h hb h63⟩
theorem Src.zeros (hT : TOk P T) (ht : T t = some i) (he : i.und = .slice e) (hj : T e = some j) (ht2 : T t2 = some i2) {k2 k : IntKind} (hi2 : i2.und = .int k2) {m : Int} (hm : 0 ≤ m ∧ m ≤ 9223372036854775807) (ok : Bool → Nat → Prop) :
    ∃ arr : Array Value, CR PV.one (Imm w ok) (zerosL j.zero m.toNat) arr ∧ Src P w t t2 ty e j (.int k m) m.toNat arr := by
  have hu2 := hT.under (w := w) ht2
  rw [hi2] at hu2
  obtain ⟨inf, z, vs, i1, i2', i3, i4, i5, i6, i7, i8, i9⟩ := (hT _ _ hj).info
  obtain ⟨z', hz1, hz2, hz3⟩ := hT.zeroCells hj w ok
  have hzv : ∀ w1, (zeroValue e).run P w1 = .ok z w1 := fun w1 => by simp [zeroValue, typeInfo, i1, i4]
  obtain rfl : z' = z := by
    have := hzv w
    rw [hz1] at this
    cases this
    rfl
  have hti : ∀ w, (typeInfo e).run P w = .ok inf w := fun w => by simp [typeInfo, i1]
  have hcells : z'.cells.size = j.size := by rw [← hz2.len, hz3]
  have hpos : 0 < z'.cells.size := by omega
  have hzc := zeros_CR hz2 hpos m.toNat
  have hwm : IntKind.i64.wrap m = m := by unfold IntKind.wrap IntKind.bits IntKind.signed; simp; omega
  have hb48 : ∀ b : Nat, m.toNat * b ≤ 140737488355328 → ¬ (281474976710656 : Int) < m * b := fun b hb => by
    have e : m = (m.toNat : Int) := by omega
    rw [e, ← Int.natCast_mul]
    omega
  have hm0 : ¬ m < 0 := by omega
  refine ⟨Builtin.zeroCells z'.cells m.toNat, by rw [hz2.len] at hzc; exact hzc, ⟨fun base sLen sCap hb hroom => ?_, fun base sLen sCap old ho hroom hb h63 => ?_⟩⟩
  · have h5 := hb48 _ hb
    by_cases h0 : m.toNat * j.size = 0
    · have h3 : m.toNat = 0 := by
        rcases Nat.mul_eq_zero.1 h0 with h | h
        · exact h
        · omega
      have hroom' : sLen ≤ sCap := by omega
      cases base <;>
        simp [Builtin.append_, hT.under ht, he, hT.sizeOf hj, hu2, hroom', asInt, asIntOf, hwm, hm0, hti, i3, h5, h3, Builtin.zeroCells, storeCells]
    · cases base <;>
        simp [Builtin.append_, hT.under ht, he, hT.sizeOf hj, hu2, hroom, asInt, asIntOf, hwm, hm0, hti, i3, h5, hzv, h0]
  · have hnr : ¬ (sLen + m.toNat ≤ sCap) := by omega
    have h63' : ¬ (9223372036854775807 < ((sLen : Int) + (m.toNat : Int))) := by omega
    have hfit := growslice_fits (need := sLen + m.toNat) (old := sCap) (bytes := inf.bytes) hroom (by rw [i3]; exact hb)
    have hfit' : ¬ (281474976710656 < Builtin.nextslicecap (sLen + m.toNat) sCap * inf.bytes) := by omega
    have h5 := hb48 j.bytes (Nat.le_trans (Nat.mul_le_mul_right _ (Nat.le_add_left _ _)) hb)
    refine ⟨Builtin.zeroCells z'.cells (grownCap w (sLen + m.toNat) sCap e - (sLen + m.toNat)), by rw [size_zeroCells, hcells], ?_⟩
    have hfit2 : ¬ (281474976710656 < Builtin.nextslicecap (sLen + m.toNat) sCap * j.bytes) := by rw [← i3]; exact hfit'
    have h63'' : ¬ (9223372036854775807 < ((sLen : Int) + max m 0)) := by omega
    by_cases h0 : m.toNat * j.size = 0
    · have h3 : m.toNat = 0 := by
        rcases Nat.mul_eq_zero.1 h0 with h | h
        · exact h
        · omega
      have hnr2 : ¬ sLen ≤ sCap := by omega
      have h64 : ¬ (9223372036854775807 < (sLen : Int)) := by omega
      rw [h3, Nat.add_zero] at hfit2
      simp [Builtin.append_, hT.under ht, he, hT.sizeOf hj, hu2, hnr2, asInt, asIntOf, hwm, hm0, hti, i3, h5, h3, h64, h63'', hfit2, Question.forced, ho, hzv, newRow, grownCap, Builtin.zeroCells]
      have er : Array.range 0 = #[] := by simp [Array.range]
      rw [er]
      simp
    · simp [Builtin.append_, hT.under ht, he, hT.sizeOf hj, hu2, hnr, asInt, asIntOf, hwm, hm0, hti, i3, h5, h63', h63'', hfit2, Question.forced, ho, h0, hzv, newRow, grownCap]
end

theorem sl_ref_form {n : Nat} {ok : Bool → Nat → Prop} {b off len esz : Nat} {v : Value} (h : LR β n w ok (.ref b off len esz) v) :
    (∃ cap c E fz, v = .slice (some ⟨β b, off, none⟩) len cap ∧ b < n ∧ w.heap[β b]? = some (.cells c E fz) ∧ len ≤ cap ∧ off + cap * esz ≤ c.size) ∨ (len = 0 ∧ b < n ∧ ∃ a, v = .slice (some a) 0 0) := by
  cases h with
  | ref _ _ _ _ cap c E fz hb hh hl hs => exact .inl ⟨cap, c, E, fz, rfl, hb, hh, hl, hs⟩
  | refz _ _ _ off' hb => exact .inr ⟨rfl, hb, off', rfl⟩

theorem CR.append {α : Type} {one : α → Bool} {R : α → Value → Prop} {cs ds : List α} {arr brr : Array Value} (h : CR one R cs arr) (k : CR one R ds brr) : CR one R (cs ++ ds) (arr ++ brr) := by
  have h1 := h.len
  refine ⟨by simp [h.len, k.len], fun i p hp => ?_, fun i p v hp hv => ?_⟩
  · rw [List.getElem?_append] at hp
    split at hp
    · exact h.one _ _ hp
    · exact k.one _ _ hp
  · rw [List.getElem?_append] at hp
    rw [Array.getElem?_append] at hv
    split at hp
    · rw [if_pos (by omega)] at hv; exact h.rel _ _ _ hp hv
    · rw [if_neg (by omega), ← h1] at hv; exact k.rel _ _ _ hp hv

theorem CR.get_pre {α : Type} {one : α → Bool} {R : α → Value → Prop} {cs : List α} {arr rest : Array Value} (h : CR one R cs arr) {i : Nat} {p : α} (hp : cs[i]? = some p) :
    one p = true ∧ ∃ v, (arr ++ rest)[i]? = some v ∧ R p v := by
  obtain ⟨h1, v, h2, h3⟩ := h.get hp
  refine ⟨h1, v, ?_, h3⟩
  rw [Array.getElem?_append_left]
  · exact h2
  · exact (Array.getElem?_eq_some_iff.1 h2).1

theorem imm_heap {w' : World} {ok : Bool → Nat → Prop} (h : w'.heap = w.heap) {p : PV} {v : Value} (hi : Imm w ok p v) : Imm w' ok p v := hi.mono (fun _ b _ => by rw [h]) (fun _ _ h => h)
theorem lr_heap {w' : World} {n : Nat} {ok : Bool → Nat → Prop} (h : w'.heap = w.heap) {p : LV} {v : Value} (hi : LR β n w ok p v) : LR β n w' ok p v :=
  hi.mono (Nat.le_refl _) (fun _ _ => rfl) (fun b c E fz hb => ⟨c, fz, by rw [h]; exact hb, rfl⟩) (fun _ b _ => by rw [h]) (fun _ _ h => h)

/-- A new row behind a draw, and a slice that is all of it. -/
theorem Rel.grown (hr : Rel G w0 β s acts a w) {B : Blk} {cs : List PV} {arr rest : Array Value} {e : TypeId} {len cap esz : Nat} (hB : B.len = cs.length) (hg : ∀ k, B.get k = (cs[k]?).map .pv) (hc : CR PV.one (Imm w (okOf w0 β s.H w)) cs arr) (hl : len ≤ cap) (hsz : arr.size + rest.size = cap * esz)  (hR : B.isRow = true := by rfl) :
    ∃ β', Rel G w0 β' { s with H := s.H ++ [B] } acts a (w.drew.alloc (.cells (arr ++ rest) e)) ∧
      LR β' (s.H ++ [B]).length (w.drew.alloc (.cells (arr ++ rest) e)) (okOf w0 β' (s.H ++ [B]) (w.drew.alloc (.cells (arr ++ rest) e))) (.ref s.H.length 0 len esz) (.slice (some ⟨w.heap.size, 0, none⟩) len cap) := by
  have hr2 := hr.drewN 1
  obtain ⟨h3, h4⟩ := hr2.alloc (B := B) (c := arr ++ rest) (E := e) (fz := (0, 0)) (.inl rfl) hR (by have := hc.len; simp; omega) (fun k lv hlv => by
    rw [hg] at hlv
    simp only [Option.map_eq_some_iff] at hlv
    obtain ⟨q, h8, rfl⟩ := hlv
    obtain ⟨h9, v, h10, h11⟩ := hc.get_pre (rest := rest) h8
    exact ⟨h9, v, h10, .pv (imm_heap (w := w) (w' := w.drewN 1) rfl h11)⟩)
  have h7 := LR.ref (β := ext β s.H.length w.drew.heap.size) (n := (s.H ++ [B]).length) (w := w.drew.alloc (.cells (arr ++ rest) e)) (ok := okOf w0 (ext β s.H.length w.drew.heap.size) (s.H ++ [B]) (w.drew.alloc (.cells (arr ++ rest) e))) s.H.length 0 len esz cap (arr ++ rest) e (0, 0) (by simp) (by rw [ext_eq]; exact heap_new _ _) hl (by simp; omega)
  rw [ext_eq] at h7
  exact ⟨_, h3, h7⟩

/-- The room that a row has is filled. -/
theorem Rel.filled (hr : Rel G w0 β s acts a w) {b len n esz cap : Nat} {B B' : Blk} {cs new : List PV} {arr : Array Value} {c : Array Value} {E : TypeId} {fz : Nat × Nat} (hB : s.H[b]? = some B) (hl : B.live = true) (hBg : ∀ k, B.get k = (cs[k]?).map .pv) (_hBl : B.len = cs.length)
    (hl' : B'.live = true) (hBg' : ∀ k, B'.get k = ((cs ++ new)[k]?).map .pv) (hBl' : B'.len = (cs ++ new).length) (hcs : cs.length = len * esz) (hnew : new.length = n * esz) (hc : CR PV.one (Imm w (okOf w0 β s.H w)) new arr)
    (hh : w.heap[β b]? = some (.cells c E fz)) (hroom : len + n ≤ cap) (hcap : cap * esz ≤ c.size)  (hR : B.isRow = true := by rfl) (hR' : B'.isRow = true := by rfl) :
    ∃ w' β', (storeCells ((⟨β b, 0, none⟩ : Addr).add (len * esz)) arr.toList).run P w = .ok () w' ∧ Rel G w0 β' { s with H := s.H.set b .gone ++ [B'] } acts a w' ∧
      LR β' (s.H.set b .gone ++ [B']).length w' (okOf w0 β' (s.H.set b .gone ++ [B']) w') (.ref s.H.length 0 (len + n) esz) (.slice (some ⟨β b, 0, none⟩) (len + n) cap) := by
  obtain ⟨c1, E1, fz1, h1, h2, h3, h4⟩ := (hr.blk b B hB hl).row hR
  rw [hh] at h1
  simp only [Option.some.injEq, Obj.cells.injEq] at h1
  obtain ⟨rfl, rfl, rfl⟩ := h1
  have hb : b < s.H.length := (List.getElem?_eq_some_iff.1 hB).1
  have hal : arr.size = n * esz := by rw [← hc.len, hnew]
  have hle : (len + n) * esz ≤ cap * esz := Nat.mul_le_mul_right _ hroom
  rw [Nat.add_mul] at hle
  have hrun := run_cells (P := P) hh h2 (off := len * esz) (vs := arr.toList) (by simp; omega) (hc.ones fun p v h1 h2 => imm_one h2 h1)
  have hst := hr.store (o := len * esz) (B' := B') (vs := arr.toList) (lvs := new.map .pv) hB hl hl' hR hR' (fun c' E' fz' h => by
      rw [hh] at h
      simp only [Option.some.injEq, Obj.cells.injEq] at h
      obtain ⟨rfl, rfl, rfl⟩ := h
      rw [hBl']; simp; omega) (fun k hk => by
      rw [hBl'] at hk
      simp only [List.length_append] at hk
      rw [hBg', hBg]
      simp only [Array.length_toList, hal]
      by_cases e : len * esz ≤ k ∧ k < len * esz + n * esz
      · rw [if_pos e, List.getElem?_append_right (by omega), hcs]; simp
      · rw [if_neg e, List.getElem?_append_left (by omega)]) (fun k lv hk => by
      simp only [List.getElem?_map, Option.map_eq_some_iff] at hk
      obtain ⟨q, h5, rfl⟩ := hk
      exact hc.one _ _ h5) (fun k lv v hk hv => by
      simp only [List.getElem?_map, Option.map_eq_some_iff] at hk
      obtain ⟨q, h5, rfl⟩ := hk
      exact .pv (hc.rel _ _ _ h5 (by simpa using hv)))
  obtain ⟨c', h5, h6, h7⟩ := heap_setCells (β b) arr.toList (len * esz) w c E fz hh
  obtain ⟨h8, h9⟩ := hst.move (b := b) (B := B') (by simp [hb]) hl'
  simp only [List.set_set, List.length_set] at h8 h9
  refine ⟨_, _, by rw [add_lit, Nat.zero_add]; exact hrun, h8, ?_⟩
  have h10 := LR.ref (β := ext β s.H.length (β b)) (n := (s.H.set b .gone ++ [B']).length) (w := w.setCells (β b) (len * esz) arr.toList) (ok := okOf w0 (ext β s.H.length (β b)) (s.H.set b .gone ++ [B']) (w.setCells (β b) (len * esz) arr.toList)) s.H.length 0 (len + n) esz cap c' E fz (by simp) (by rw [ext_eq]; exact h5) hroom (by omega)
  rw [ext_eq] at h10
  exact h10

theorem CR.kill (hr : Rel G w0 β s acts a w) {b : Nat} (hb : b < s.H.length) {cs : List PV} {arr : Array Value} (h : CR PV.one (Imm w (okOf w0 β s.H w)) cs arr) : CR PV.one (Imm w (okOf w0 β (s.H.set b .gone) w)) cs arr := by
  obtain ⟨_, h2⟩ := hr.kill hb
  refine ⟨h.len, h.one, fun i p v hp hv => ?_⟩
  have := h2 (.pv p) v (.pv (h.rel i p v hp hv))
  cases this with | pv h => exact h

theorem ext_all {arr : Array Value} {m : Nat} (h : arr.size = m) : arr.extract 0 m = arr := by subst h; simp

theorem srcZ_sound (hT : TOk P T) (hr : Rel G w0 β s acts a w) {t t2 ty e : TypeId} {i i2 j : TI} (ht : T t = some i) (he : i.und = .slice e) (hj : T e = some j) (ht2 : T t2 = some i2) (hpos : 0 < j.size) {y : LV} {vy : Value} {n : Nat} {new : List PV} (hy : LR β s.H.length w (okOf w0 β s.H w) y vy) (h : srcZ s i2.und j y = some (n, new)) :
    new.length = n * j.size ∧ ∃ arr : Array Value, CR PV.one (Imm w (okOf w0 β s.H w)) new arr ∧ Src P w t t2 ty e j vy n arr := by
  unfold srcZ at h
  split at h
  · rename_i k2 k m hi2
    split at h
    · rename_i hm
      simp only [Option.some.injEq, Prod.mk.injEq] at h
      obtain ⟨rfl, rfl⟩ := h
      cases hy with | pv hy =>
      cases hy
      obtain ⟨arr, h1, h2⟩ := Src.zeros (P := P) (w := w) (ty := ty) (k := k) hT ht he hj ht2 hi2 hm (okOf w0 β s.H w)
      obtain ⟨_, _, _, h3⟩ := hT.zeroCells hj w (okOf w0 β s.H w)
      exact ⟨by rw [zerosL_length, h3], arr, h1, h2⟩
    · cases h
  · split at h
    · rename_i hi2
      obtain ⟨hnew, hlen, arr, hcr, hfirst⟩ := srcP_sound (P := P) hr hpos hy h
      have hasz : arr.size = n * j.size := by rw [← hcr.len, hnew]
      have hf1 := hfirst n w (Nat.le_refl _) rfl
      have hf2 := hfirst n w.drew (Nat.le_refl _) rfl
      rw [ext_all hasz] at hf1 hf2
      exact ⟨hnew, arr, hcr, Src.els hT ht he hj ht2 hi2 hlen hf1 hf2⟩
    · cases h
theorem appendP_sound (hT : TOk P T) (hr : Rel G w0 β s acts a w) {t t2 ty : TypeId} {x y lv : LV} {vx vy : Value} {H' : List Blk} (hx : LR β s.H.length w (okOf w0 β s.H w) x vx) (hy : LR β s.H.length w (okOf w0 β s.H w) y vy) (h : appendP T s t t2 x y = some (lv, H')) :
    ∃ v w' β', (Builtin.append_ #[t, t2] ty #[vx, vy]).run P w = .ok v w' ∧ Rel G w0 β' { s with H := H' } acts a w' ∧ LR β' H'.length w' (okOf w0 β' H' w') lv v := by
  unfold appendP at h
  split at h
  · rename_i i i2 ht ht2
    split at h
    · rename_i e he
      split at h
      · cases h
      · rename_i j hj
        · split at h
          · cases h
          · rename_i n new hsrc
            have hpos : 0 < j.size := by
              obtain ⟨_, _, _, _, _, _, _, _, _, _, _, h2⟩ := (hT _ _ hj).info
              exact h2
            obtain ⟨hnew, arr, hcr, hs⟩ := srcZ_sound (P := P) (ty := ty) hT hr ht he hj ht2 hpos hy hsrc
            have hasz : arr.size = n * j.size := by rw [← hcr.len, hnew]
            -- onto nothing
            have onNil : ∀ (ba : Option Addr) (s' : St), s'.fr = s.fr → s'.n = s.n → s'.up = s.up → Rel G w0 β s' acts a w → CR PV.one (Imm w (okOf w0 β s'.H w)) new arr → n * j.bytes ≤ 140737488355328 → n ≤ 9223372036854775807 →
                ∃ v w' β', (Builtin.append_ #[t, t2] ty #[.slice ba 0 0, vy]).run P w = .ok v w' ∧ Rel G w0 β' { s' with H := s'.H ++ [Blk.n new] } acts a w' ∧ LR β' (s'.H ++ [Blk.n new]).length w' (okOf w0 β' (s'.H ++ [Blk.n new]) w') (.nref s'.H.length n j.size) v := fun ba s' _ _ _ hr' hcr' hb h63 => by
              by_cases h0 : n = 0
              · subst h0
                have e0 : new = [] := List.eq_nil_of_length_eq_zero (by simpa using hnew)
                subst e0
                have := hs.room ba 0 0 hb (by omega)
                have e2 : arr = #[] := Array.eq_empty_of_size_eq_zero (by simpa using hasz)
                subst e2
                cases ba <;> exact ⟨_, _, _, this, (hr'.addDead (B := Blk.n []) rfl).1, .nref0 _ _ _⟩
              · obtain ⟨rest, h1, h2⟩ := hs.grow ba 0 0 #[] (by cases ba <;> simp [Builtin.firstCells, loadCells, loadCellsFrom]) (by omega) (by simpa using hb) (by omega)
                rw [Nat.zero_add, Array.empty_append] at h2
                have hge := grownCap_ge w n 0 e
                obtain ⟨β', h3, h4⟩ := hr'.grown (B := Blk.n new) (cs := new) (arr := arr) (rest := rest) (e := e) (len := n) (cap := grownCap w n 0 e) (esz := j.size) rfl (fun _ => rfl) hcr' hge (by rw [h1, hasz, Nat.zero_add, ← Nat.add_mul]; congr 1; omega)
                exact ⟨_, _, β', h2, h3, .nref _ _ _ _ (by omega) h4⟩
            -- onto a row of the call's own
            have onRow : ∀ (b len : Nat) (B B' : Blk) (cs : List PV), B.isRow = true → B'.isRow = true → s.H[b]? = some B → B.live = true → (∀ k, B.get k = (cs[k]?).map .pv) → B.len = cs.length → B'.live = true → (∀ k, B'.get k = ((cs ++ new)[k]?).map .pv) → B'.len = (cs ++ new).length → cs.length = len * j.size →
                (len + n) * j.bytes ≤ 140737488355328 → len + n ≤ 9223372036854775807 → LR β s.H.length w (okOf w0 β s.H w) (.ref b 0 len j.size) vx →
                ∃ v w' β', (Builtin.append_ #[t, t2] ty #[vx, vy]).run P w = .ok v w' ∧ Rel G w0 β' { s with H := s.H.set b .gone ++ [B'] } acts a w' ∧ LR β' (s.H.set b .gone ++ [B']).length w' (okOf w0 β' (s.H.set b .gone ++ [B']) w') (.ref s.H.length 0 (len + n) j.size) v :=
              fun b len B B' cs hR hR' hB hl hBg hBl hl' hBg' hBl' hcs hb h63 hxr => by
                have hbl : b < s.H.length := (List.getElem?_eq_some_iff.1 hB).1
                have grow : ∀ (addr : Addr) (cap : Nat) (old : Array Value), cap < len + n → vx = .slice (some addr) len cap → (Builtin.firstCells j.size len (.slice (some addr) len cap)).run P w.drew = .ok old w.drew → CR PV.one (Imm w (okOf w0 β s.H w)) cs old →
                    ∃ v w' β', (Builtin.append_ #[t, t2] ty #[vx, vy]).run P w = .ok v w' ∧ Rel G w0 β' { s with H := s.H.set b .gone ++ [B'] } acts a w' ∧ LR β' (s.H.set b .gone ++ [B']).length w' (okOf w0 β' (s.H.set b .gone ++ [B']) w') (.ref s.H.length 0 (len + n) j.size) v := fun addr cap old hg hv ho hco => by
                  subst hv
                  obtain ⟨rest, h1, h2⟩ := hs.grow (some addr) len cap old ho hg hb h63
                  have hge := grownCap_ge w (len + n) cap e
                  obtain ⟨β', h3, h4⟩ := (hr.kill hbl).1.grown (B := B') (cs := cs ++ new) (arr := old ++ arr) (rest := rest) (e := e) (len := len + n) (cap := grownCap w (len + n) cap e) (esz := j.size) hBl' hBg' ((hco.append hcr).kill hr hbl) hge (hR := hR') (by
                    rw [h1, Array.size_append, hasz, ← hco.len, hcs, ← Nat.add_mul, ← Nat.add_mul]; congr 1; omega)
                  simp only [List.length_set] at h3 h4
                  exact ⟨_, _, β', h2, h3, by simpa using h4⟩
                rcases sl_ref_form hxr with ⟨cap, c, E, fz, rfl, hbn, hh, hlc, hcap⟩ | ⟨rfl, hbn, off', rfl⟩
                · rw [Nat.zero_add] at hcap
                  obtain ⟨vs, hvs⟩ := hr.cells hB hl hR
                  have hroomc : len * j.size ≤ cap * j.size := Nat.mul_le_mul_right _ hlc
                  by_cases hroom : len + n ≤ cap
                  · obtain ⟨w', β', h1, h2, h3⟩ := hr.filled (P := P) hB hl hBg hBl hl' hBg' hBl' hcs hnew hcr hh hroom hcap hR hR'
                    have := hs.room (some ⟨β b, 0, none⟩) len cap (Nat.le_trans (Nat.mul_le_mul_right _ (Nat.le_add_left _ _)) hb) hroom
                    simp only [h1, Result.andThen_ok] at this
                    exact ⟨_, w', β', this, h2, h3⟩
                  · refine grow _ cap ((List.range (len * j.size)).map vs).toArray (by omega) rfl ?_ ⟨by simp [hcs], fun k p hp => ?_, fun k p u hp hu => ?_⟩
                    · have h1 := run_firstCells_some (P := P) w.drew j.size len ⟨β b, 0, none⟩ len cap ((List.range (len * j.size)).map vs) (by simp) (fun k v hk => by
                        rw [add_lit, Nat.zero_add]
                        have hk' : k < len * j.size := by have := (List.getElem?_eq_some_iff.1 hk).1; simpa using this
                        simp [hk'] at hk
                        subst hk
                        exact (hvs k (by omega)).1)
                      exact h1
                    · exact ((hvs k (by have := (List.getElem?_eq_some_iff.1 hp).1; omega)).2 (.pv p) (by rw [hBg, hp]; rfl)).1
                    · have hk' : k < len * j.size := by have := (List.getElem?_eq_some_iff.1 hp).1; omega
                      simp [hk'] at hu
                      subst hu
                      have := ((hvs k (by omega)).2 (.pv p) (by rw [hBg, hp]; rfl)).2
                      cases this with | pv h => exact h
                · have e0 : cs = [] := List.eq_nil_of_length_eq_zero (by simpa using hcs)
                  subst e0
                  by_cases h0 : n = 0
                  · subst h0
                    have e1 : new = [] := List.eq_nil_of_length_eq_zero (by simpa using hnew)
                    subst e1
                    have e2 : arr = #[] := Array.eq_empty_of_size_eq_zero (by simpa using hasz)
                    subst e2
                    have := hs.room (some off') 0 0 (by simp) (by omega)
                    have hst := hr.store (o := 0) (B' := B') (vs := []) (lvs := []) hB hl hl' hR hR' (fun c' E' fz' h => by rw [hBl']; simp) (fun k hk => by rw [hBl'] at hk; simp at hk) (by simp) (by simp)
                    obtain ⟨h8, h9⟩ := hst.move (b := b) (B := B') (by simp [hbl]) hl'
                    simp only [List.set_set, List.length_set] at h8 h9
                    refine ⟨_, w, _, this, h8, ?_⟩
                    have h10 := LR.refz (β := ext β s.H.length (β b)) (n := (s.H.set b .gone ++ [B']).length) (w := w) (ok := okOf w0 (ext β s.H.length (β b)) (s.H.set b .gone ++ [B']) w) s.H.length 0 j.size off' (by simp)
                    exact h10
                  · exact grow _ 0 #[] (by omega) rfl (by simp [Builtin.firstCells, loadCells, loadCellsFrom]) ⟨rfl, by simp, by simp⟩
            split at h
            · split at h
              · rename_i hb
                simp only [Option.some.injEq, Prod.mk.injEq] at h
                obtain ⟨rfl, rfl⟩ := h
                cases hx with | pv hx =>
                cases hx
                exact onNil none s rfl rfl rfl hr hcr hb.1 hb.2
              · cases h
            · split at h
              · rename_i hb
                simp only [Option.some.injEq, Prod.mk.injEq] at h
                obtain ⟨rfl, rfl⟩ := h
                cases hx with | emp a =>
                exact onNil (some a) s rfl rfl rfl hr hcr hb.1 hb.2
              · cases h
            · rename_i b len esz
              split at h
              · rename_i cs hB
                split at h
                · rename_i hb
                  obtain ⟨rfl, hcs, hb1, hb2⟩ := hb
                  simp only [Option.some.injEq, Prod.mk.injEq] at h
                  obtain ⟨rfl, rfl⟩ := h
                  have hbl : b < s.H.length := (List.getElem?_eq_some_iff.1 hB).1
                  cases hx with
                  | nref0 _ _ ba =>
                    have e0 : cs = [] := List.eq_nil_of_length_eq_zero (by simpa using hcs)
                    subst e0
                    have := onNil ba { s with H := s.H.set b .gone } rfl rfl rfl (hr.kill hbl).1 (hcr.kill hr hbl) (by simpa using hb1) (by omega)
                    simpa using this
                  | nref _ _ _ _ h0 hx =>
                    have hne : ∀ l : List PV, 0 < l.length → (Blk.n l).live = true := fun l hl => by cases l <;> first | (simp at hl; done) | rfl
                    have hp : 0 < cs.length := by rw [hcs]; exact Nat.mul_pos h0 hpos
                    obtain ⟨v, w', β', h1, h2, h3⟩ := onRow b len (.n cs) (.n (cs ++ new)) cs rfl rfl hB (hne _ hp) (fun _ => rfl) rfl (hne _ (by simp; omega)) (fun _ => rfl) rfl hcs hb1 hb2 hx
                    exact ⟨v, w', β', h1, h2, .nref _ _ _ _ (by omega) h3⟩
                · cases h
              · cases h
            · rename_i b len esz
              split at h
              · rename_i cs hB
                split at h
                · rename_i hb
                  obtain ⟨rfl, hcs, hb1, hb2⟩ := hb
                  simp only [Option.some.injEq, Prod.mk.injEq] at h
                  obtain ⟨rfl, rfl⟩ := h
                  exact onRow b len (.p cs) (.p (cs ++ new)) cs rfl rfl hB rfl (fun _ => rfl) rfl rfl (fun _ => rfl) rfl hcs hb1 hb2 hx
                · cases h
              · cases h
            · cases h
    · cases h
  · cases h
end
end Hm
