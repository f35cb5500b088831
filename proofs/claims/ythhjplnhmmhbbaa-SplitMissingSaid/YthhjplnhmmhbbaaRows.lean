/-
  No cell of these rows narrows 'for every input' (looked for: loops, veiled, ifaces, maps, wideKeys, modest, calm, conditions, laid).
  DERIVED. THE GIVEN ROWS OF THIS SEAT. 3 by the template 'for every input the law returns true; each argument reads behind the call as it read before'; 0 by the template 'total and deterministic' (their statements: YthhjplnhmmhbbaaTotals.lean).
  GIVEN WITH THE SEED: the statements are not yours to turn. If you find one false, say at which input.
  Laid BY PROGRAM, IN A SANDBOX (cutbox-rows.mjs): the forced cells as the released guide's own fill.sh prints them over the translation b309924a51591735… (all of the seat's roots in one cut). By AI agents, Wed Nov 11 2026. No macro, syntax, notation, axiom, sorry.
-/
import Derived.Test.YthhjplnhmmhbbaaChecked
import GoSem.Claim
import GoSem.ClaimJoined
import GoSem.ClaimMapViews
import Derived.JoinedTies
import Derived.KernelRfl
namespace Go.Proofs.Ythhjplnhmmhbbaa
/- THE CELL 'sum', in the pinned program and in every row, IS THE sha256 OF THE DUMP (.gsa) THAT YthhjplnhmmhbbaaProg.lean LOADS. Nothing in Lean hashes anything: it is a label: what it is worth is what the hold of that sum in a sandbox is worth. -/
noncomputable def Try.pinned : Pinned := { name := "ythhjplnhmmhbbaa", sum := "b309924a5159173574220d4d15f176a1902e91087f606dff82ffba66e455b14d", checked := Try.checked }
namespace Rows
def none {H : Type} : Left H := { results := [], args := [] }

/-- 'bitloftlaw29.SplitCuts': WHATEVER THE INPUT: true; the input reads as it did. -/
def splitCutsSpec : ChangeSpec := { name := "splitCuts", fn := fun _ => fun
  | [d1, d2, d3] => { results := [.lit (.bool true)], args := [d1, d2, d3] }
  | _ => none }
def splitCutsRow : OpenClaim := { program := "ythhjplnhmmhbbaa", sum := "b309924a5159173574220d4d15f176a1902e91087f606dff82ffba66e455b14d", func := "bitloft/bitloftlaw29.SplitCuts", spec := "splitCuts", unfollowed := true, recurses := true, apart := false }
def SplitCutsSaid : Prop := splitCutsRow.holds Try.pinned (OpenSpec.ofChange splitCutsSpec)

/-- ITS FALSE NEIGHBOUR: 'it returns false'. Refute it at one input. -/
def splitCutsWrong : ChangeSpec := { name := "splitCuts", fn := fun _ => fun
  | [d1, d2, d3] => { results := [.lit (.bool false)], args := [d1, d2, d3] }
  | _ => none }
def SplitCutsWrongFalsely : Prop := splitCutsRow.holds Try.pinned (OpenSpec.ofChange splitCutsWrong)

/-- 'bitloftlaw29.SplitOnce': WHATEVER THE INPUT: true; the input reads as it did. -/
def splitOnceSpec : ChangeSpec := { name := "splitOnce", fn := fun _ => fun
  | [d1, d2] => { results := [.lit (.bool true)], args := [d1, d2] }
  | _ => none }
def splitOnceRow : OpenClaim := { program := "ythhjplnhmmhbbaa", sum := "b309924a5159173574220d4d15f176a1902e91087f606dff82ffba66e455b14d", func := "bitloft/bitloftlaw29.SplitOnce", spec := "splitOnce", unfollowed := true, recurses := true, apart := false }
def SplitOnceSaid : Prop := splitOnceRow.holds Try.pinned (OpenSpec.ofChange splitOnceSpec)

/-- ITS FALSE NEIGHBOUR: 'it returns false'. Refute it at one input. -/
def splitOnceWrong : ChangeSpec := { name := "splitOnce", fn := fun _ => fun
  | [d1, d2] => { results := [.lit (.bool false)], args := [d1, d2] }
  | _ => none }
def SplitOnceWrongFalsely : Prop := splitOnceRow.holds Try.pinned (OpenSpec.ofChange splitOnceWrong)

/-- 'bitloftlaw29.SplitMissing': WHATEVER THE INPUT: true; the input reads as it did. -/
def splitMissingSpec : ChangeSpec := { name := "splitMissing", fn := fun _ => fun
  | [d1, d2] => { results := [.lit (.bool true)], args := [d1, d2] }
  | _ => none }
def splitMissingRow : OpenClaim := { program := "ythhjplnhmmhbbaa", sum := "b309924a5159173574220d4d15f176a1902e91087f606dff82ffba66e455b14d", func := "bitloft/bitloftlaw29.SplitMissing", spec := "splitMissing", unfollowed := true, recurses := true, apart := false }
def SplitMissingSaid : Prop := splitMissingRow.holds Try.pinned (OpenSpec.ofChange splitMissingSpec)

/-- ITS FALSE NEIGHBOUR: 'it returns false'. Refute it at one input. -/
def splitMissingWrong : ChangeSpec := { name := "splitMissing", fn := fun _ => fun
  | [d1, d2] => { results := [.lit (.bool false)], args := [d1, d2] }
  | _ => none }
def SplitMissingWrongFalsely : Prop := splitMissingRow.holds Try.pinned (OpenSpec.ofChange splitMissingWrong)

/- THE SECOND FORM. 'bulk': how many values and letters a reading holds, each counted each time it is reached (what is shared counts as often as it is met; a slice's spare places count too). A statement '..UptoSaid' is the law's where the arguments, and the package variables that the reading takes, are together of bulk at most 1048576: NARROWER than '..Said'. Prove '..Said' where nothing that the law and all that it calls make is longer than what came in: it says more and counts as full. Else prove '..UptoSaid'. A law counts once. -/
mutual
def uptoBulk {H : Type} : DataW H → Nat
  | .lit (.string bytes) => bytes.length + 1
  | .lit _ => 1
  | .nil => 1
  | .ptr d => uptoBulk d + 1
  | .slice elems spare => uptoBulkAll elems + uptoBulkAll spare + 1
  | .agg parts => uptoBulkAll parts + 1
  | .iface _ d => uptoBulk d + 1
  | .map entries => uptoBulkEntries entries + 1
  | .held _ => 1
def uptoBulkAll {H : Type} : List (DataW H) → Nat
  | [] => 0
  | d :: r => uptoBulk d + uptoBulkAll r
def uptoBulkEntries {H : Type} : List (Lit × DataW H) → Nat
  | [] => 0
  | x :: r => uptoBulkEntry x + uptoBulkEntries r
def uptoBulkEntry {H : Type} : Lit × DataW H → Nat
  | (.string bytes, d) => bytes.length + uptoBulk d + 1
  | (_, d) => uptoBulk d + 1
 end
def uptoSmall : (H : Type) → List (DataW H) → Bool := fun _ ds => decide (uptoBulkAll ds ≤ 1048576)
def OpenSpec.upto (s : _root_.Go.ChangeSpec) : _root_.Go.OpenSpec := { _root_.Go.OpenSpec.ofChange s with cond := some uptoSmall }

/-- 'bitloftlaw29.SplitCuts', WHERE WHAT IT READS IS OF BULK AT MOST 1048576: true; the input reads as it did. -/
def splitCutsUptoRow : OpenClaim := { program := "ythhjplnhmmhbbaa", sum := "b309924a5159173574220d4d15f176a1902e91087f606dff82ffba66e455b14d", func := "bitloft/bitloftlaw29.SplitCuts", spec := "splitCuts", unfollowed := true, recurses := true, apart := false, narrowed := true }
def SplitCutsUptoSaid : Prop := splitCutsUptoRow.holds Try.pinned (OpenSpec.upto splitCutsSpec)

/-- 'bitloftlaw29.SplitOnce', WHERE WHAT IT READS IS OF BULK AT MOST 1048576: true; the input reads as it did. -/
def splitOnceUptoRow : OpenClaim := { program := "ythhjplnhmmhbbaa", sum := "b309924a5159173574220d4d15f176a1902e91087f606dff82ffba66e455b14d", func := "bitloft/bitloftlaw29.SplitOnce", spec := "splitOnce", unfollowed := true, recurses := true, apart := false, narrowed := true }
def SplitOnceUptoSaid : Prop := splitOnceUptoRow.holds Try.pinned (OpenSpec.upto splitOnceSpec)

/-- 'bitloftlaw29.SplitMissing', WHERE WHAT IT READS IS OF BULK AT MOST 1048576: true; the input reads as it did. -/
def splitMissingUptoRow : OpenClaim := { program := "ythhjplnhmmhbbaa", sum := "b309924a5159173574220d4d15f176a1902e91087f606dff82ffba66e455b14d", func := "bitloft/bitloftlaw29.SplitMissing", spec := "splitMissing", unfollowed := true, recurses := true, apart := false, narrowed := true }
def SplitMissingUptoSaid : Prop := splitMissingUptoRow.holds Try.pinned (OpenSpec.upto splitMissingSpec)

end Rows
end Go.Proofs.Ythhjplnhmmhbbaa
