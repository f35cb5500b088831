/-
  No cell of these rows narrows 'for every input' (looked for: loops, veiled, ifaces, maps, wideKeys, modest, calm, conditions, laid).
  DERIVED. THE GIVEN ROWS OF THIS SEAT. 6 by the template 'for every input the law returns true; each argument reads behind the call as it read before'; 0 by the template 'total and deterministic' (their statements: YtmgjogbpmaiahaaTotals.lean).
  GIVEN WITH THE SEED: the statements are not yours to turn. If you find one false, say at which input.
  Laid BY PROGRAM, IN A SANDBOX (cutbox-rows.mjs): the forced cells as the released guide's own fill.sh prints them over the translation e265abc121229843… (all of the seat's roots in one cut). By AI agents, Wed Nov 11 2026. No macro, syntax, notation, axiom, sorry.
-/
import Derived.Test.YtmgjogbpmaiahaaChecked
import GoSem.Claim
import GoSem.ClaimJoined
import GoSem.ClaimMapViews
import Derived.JoinedTies
import Derived.KernelRfl
namespace Go.Proofs.Ytmgjogbpmaiahaa
/- THE CELL 'sum', in the pinned program and in every row, IS THE sha256 OF THE DUMP (.gsa) THAT YtmgjogbpmaiahaaProg.lean LOADS. Nothing in Lean hashes anything: it is a label: what it is worth is what the hold of that sum in a sandbox is worth. -/
noncomputable def Try.pinned : Pinned := { name := "ytmgjogbpmaiahaa", sum := "e265abc1212298439348d8d5c098b95b33cdd88cc122954b071102a876f9acfc", checked := Try.checked }
namespace Rows
def none {H : Type} : Left H := { results := [], args := [] }

/-- 'bitloftlaw25.MarkerFinds': WHATEVER THE INPUT: true; the input reads as it did. -/
def markerFindsSpec : ChangeSpec := { name := "markerFinds", fn := fun _ => fun
  | [d1, d2] => { results := [.lit (.bool true)], args := [d1, d2] }
  | _ => none }
def markerFindsRow : OpenClaim := { program := "ytmgjogbpmaiahaa", sum := "e265abc1212298439348d8d5c098b95b33cdd88cc122954b071102a876f9acfc", func := "bitloft/bitloftlaw25.MarkerFinds", spec := "markerFinds", inPlace := ["internal/bytealg.IndexByte", "internal/bytealg.Index"], named := ["internal/bytealg.MaxLen"], apart := false }
def MarkerFindsSaid : Prop := markerFindsRow.holds Try.pinned (OpenSpec.ofChange markerFindsSpec)

/-- ITS FALSE NEIGHBOUR: 'it returns false'. Refute it at one input. -/
def markerFindsWrong : ChangeSpec := { name := "markerFinds", fn := fun _ => fun
  | [d1, d2] => { results := [.lit (.bool false)], args := [d1, d2] }
  | _ => none }
def MarkerFindsWrongFalsely : Prop := markerFindsRow.holds Try.pinned (OpenSpec.ofChange markerFindsWrong)

/-- 'bitloftlaw25.MarkerCuts': WHATEVER THE INPUT: true; the input reads as it did. -/
def markerCutsSpec : ChangeSpec := { name := "markerCuts", fn := fun _ => fun
  | [d] => { results := [.lit (.bool true)], args := [d] }
  | _ => none }
def markerCutsRow : OpenClaim := { program := "ytmgjogbpmaiahaa", sum := "e265abc1212298439348d8d5c098b95b33cdd88cc122954b071102a876f9acfc", func := "bitloft/bitloftlaw25.MarkerCuts", spec := "markerCuts", inPlace := ["internal/bytealg.IndexByte", "internal/bytealg.Index"], named := ["internal/bytealg.MaxLen"], apart := false }
def MarkerCutsSaid : Prop := markerCutsRow.holds Try.pinned (OpenSpec.ofChange markerCutsSpec)

/-- ITS FALSE NEIGHBOUR: 'it returns false'. Refute it at one input. -/
def markerCutsWrong : ChangeSpec := { name := "markerCuts", fn := fun _ => fun
  | [d] => { results := [.lit (.bool false)], args := [d] }
  | _ => none }
def MarkerCutsWrongFalsely : Prop := markerCutsRow.holds Try.pinned (OpenSpec.ofChange markerCutsWrong)

/-- 'bitloftlaw25.MarkerPieces': WHATEVER THE INPUT: true; the input reads as it did. -/
def markerPiecesSpec : ChangeSpec := { name := "markerPieces", fn := fun _ => fun
  | [d] => { results := [.lit (.bool true)], args := [d] }
  | _ => none }
def markerPiecesRow : OpenClaim := { program := "ytmgjogbpmaiahaa", sum := "e265abc1212298439348d8d5c098b95b33cdd88cc122954b071102a876f9acfc", func := "bitloft/bitloftlaw25.MarkerPieces", spec := "markerPieces", inPlace := ["internal/bytealg.IndexByte", "internal/bytealg.Index"], named := ["internal/bytealg.MaxLen"], apart := false }
def MarkerPiecesSaid : Prop := markerPiecesRow.holds Try.pinned (OpenSpec.ofChange markerPiecesSpec)

/-- ITS FALSE NEIGHBOUR: 'it returns false'. Refute it at one input. -/
def markerPiecesWrong : ChangeSpec := { name := "markerPieces", fn := fun _ => fun
  | [d] => { results := [.lit (.bool false)], args := [d] }
  | _ => none }
def MarkerPiecesWrongFalsely : Prop := markerPiecesRow.holds Try.pinned (OpenSpec.ofChange markerPiecesWrong)

/-- 'bitloftlaw25.MarkerJoins': WHATEVER THE INPUT: true; the input reads as it did. -/
def markerJoinsSpec : ChangeSpec := { name := "markerJoins", fn := fun _ => fun
  | [d1, d2] => { results := [.lit (.bool true)], args := [d1, d2] }
  | _ => none }
def markerJoinsRow : OpenClaim := { program := "ytmgjogbpmaiahaa", sum := "e265abc1212298439348d8d5c098b95b33cdd88cc122954b071102a876f9acfc", func := "bitloft/bitloftlaw25.MarkerJoins", spec := "markerJoins", inPlace := ["internal/bytealg.IndexByte", "internal/bytealg.Index"], named := ["internal/bytealg.MaxLen"], apart := false }
def MarkerJoinsSaid : Prop := markerJoinsRow.holds Try.pinned (OpenSpec.ofChange markerJoinsSpec)

/-- ITS FALSE NEIGHBOUR: 'it returns false'. Refute it at one input. -/
def markerJoinsWrong : ChangeSpec := { name := "markerJoins", fn := fun _ => fun
  | [d1, d2] => { results := [.lit (.bool false)], args := [d1, d2] }
  | _ => none }
def MarkerJoinsWrongFalsely : Prop := markerJoinsRow.holds Try.pinned (OpenSpec.ofChange markerJoinsWrong)

/-- 'bitloftlaw25.MarkerNames': WHATEVER THE INPUT: true; the input reads as it did. -/
def markerNamesSpec : ChangeSpec := { name := "markerNames", fn := fun _ => fun
  | [] => { results := [.lit (.bool true)], args := [] }
  | _ => none }
def markerNamesRow : OpenClaim := { program := "ytmgjogbpmaiahaa", sum := "e265abc1212298439348d8d5c098b95b33cdd88cc122954b071102a876f9acfc", func := "bitloft/bitloftlaw25.MarkerNames", spec := "markerNames", inPlace := ["internal/bytealg.IndexByte", "internal/bytealg.Index"], named := ["internal/bytealg.MaxLen"], apart := false }
def MarkerNamesSaid : Prop := markerNamesRow.holds Try.pinned (OpenSpec.ofChange markerNamesSpec)

/-- ITS FALSE NEIGHBOUR: 'it returns false'. Refute it at one input. -/
def markerNamesWrong : ChangeSpec := { name := "markerNames", fn := fun _ => fun
  | [] => { results := [.lit (.bool false)], args := [] }
  | _ => none }
def MarkerNamesWrongFalsely : Prop := markerNamesRow.holds Try.pinned (OpenSpec.ofChange markerNamesWrong)

/-- 'bitloftlaw25.MarkerAll': WHATEVER THE INPUT: true; the input reads as it did. -/
def markerAllSpec : ChangeSpec := { name := "markerAll", fn := fun _ => fun
  | [d] => { results := [.lit (.bool true)], args := [d] }
  | _ => none }
def markerAllRow : OpenClaim := { program := "ytmgjogbpmaiahaa", sum := "e265abc1212298439348d8d5c098b95b33cdd88cc122954b071102a876f9acfc", func := "bitloft/bitloftlaw25.MarkerAll", spec := "markerAll", inPlace := ["internal/bytealg.IndexByte", "internal/bytealg.Index"], named := ["internal/bytealg.MaxLen"], apart := false }
def MarkerAllSaid : Prop := markerAllRow.holds Try.pinned (OpenSpec.ofChange markerAllSpec)

/-- ITS FALSE NEIGHBOUR: 'it returns false'. Refute it at one input. -/
def markerAllWrong : ChangeSpec := { name := "markerAll", fn := fun _ => fun
  | [d] => { results := [.lit (.bool false)], args := [d] }
  | _ => none }
def MarkerAllWrongFalsely : Prop := markerAllRow.holds Try.pinned (OpenSpec.ofChange markerAllWrong)

/- THE SECOND FORM. 'bulk': how many values and letters a reading holds, each counted each time it is reached (what is shared counts as often as it is met; a slice's spare places count too). A statement '..UptoSaid' is the law's where the arguments, and the package variables that the reading takes, are together of bulk at most 1048576: NARROWER than '..Said'. Prove '..Said' where nothing that the law and all that it calls make is longer than what came in: it says more and counts as full. Else prove '..UptoSaid'. A law counts once. -/
mutual
def uptoBulk {H : Type} : DataW H → Nat
  | .lit (.string bytes) => bytes.length + 1
  | .lit _ => 1
  | .nil => 1
  | .ptr d => uptoBulk d + 1
  | .slice elems spare => uptoBulkAll elems + uptoBulkAll spare + 1
  | .agg parts => uptoBulkAll parts + 1
  | .iface _ d => uptoBulk d + 1
  | .map entries => uptoBulkEntries entries + 1
  | .held _ => 1
def uptoBulkAll {H : Type} : List (DataW H) → Nat
  | [] => 0
  | d :: r => uptoBulk d + uptoBulkAll r
def uptoBulkEntries {H : Type} : List (Lit × DataW H) → Nat
  | [] => 0
  | x :: r => uptoBulkEntry x + uptoBulkEntries r
def uptoBulkEntry {H : Type} : Lit × DataW H → Nat
  | (.string bytes, d) => bytes.length + uptoBulk d + 1
  | (_, d) => uptoBulk d + 1
 end
def uptoSmall : (H : Type) → List (DataW H) → Bool := fun _ ds => decide (uptoBulkAll ds ≤ 1048576)
def OpenSpec.upto (s : _root_.Go.ChangeSpec) : _root_.Go.OpenSpec := { _root_.Go.OpenSpec.ofChange s with cond := some uptoSmall }

/-- 'bitloftlaw25.MarkerFinds', WHERE WHAT IT READS IS OF BULK AT MOST 1048576: true; the input reads as it did. -/
def markerFindsUptoRow : OpenClaim := { program := "ytmgjogbpmaiahaa", sum := "e265abc1212298439348d8d5c098b95b33cdd88cc122954b071102a876f9acfc", func := "bitloft/bitloftlaw25.MarkerFinds", spec := "markerFinds", inPlace := ["internal/bytealg.IndexByte", "internal/bytealg.Index"], named := ["internal/bytealg.MaxLen"], apart := false, narrowed := true }
def MarkerFindsUptoSaid : Prop := markerFindsUptoRow.holds Try.pinned (OpenSpec.upto markerFindsSpec)

/-- 'bitloftlaw25.MarkerCuts', WHERE WHAT IT READS IS OF BULK AT MOST 1048576: true; the input reads as it did. -/
def markerCutsUptoRow : OpenClaim := { program := "ytmgjogbpmaiahaa", sum := "e265abc1212298439348d8d5c098b95b33cdd88cc122954b071102a876f9acfc", func := "bitloft/bitloftlaw25.MarkerCuts", spec := "markerCuts", inPlace := ["internal/bytealg.IndexByte", "internal/bytealg.Index"], named := ["internal/bytealg.MaxLen"], apart := false, narrowed := true }
def MarkerCutsUptoSaid : Prop := markerCutsUptoRow.holds Try.pinned (OpenSpec.upto markerCutsSpec)

/-- 'bitloftlaw25.MarkerPieces', WHERE WHAT IT READS IS OF BULK AT MOST 1048576: true; the input reads as it did. -/
def markerPiecesUptoRow : OpenClaim := { program := "ytmgjogbpmaiahaa", sum := "e265abc1212298439348d8d5c098b95b33cdd88cc122954b071102a876f9acfc", func := "bitloft/bitloftlaw25.MarkerPieces", spec := "markerPieces", inPlace := ["internal/bytealg.IndexByte", "internal/bytealg.Index"], named := ["internal/bytealg.MaxLen"], apart := false, narrowed := true }
def MarkerPiecesUptoSaid : Prop := markerPiecesUptoRow.holds Try.pinned (OpenSpec.upto markerPiecesSpec)

/-- 'bitloftlaw25.MarkerJoins', WHERE WHAT IT READS IS OF BULK AT MOST 1048576: true; the input reads as it did. -/
def markerJoinsUptoRow : OpenClaim := { program := "ytmgjogbpmaiahaa", sum := "e265abc1212298439348d8d5c098b95b33cdd88cc122954b071102a876f9acfc", func := "bitloft/bitloftlaw25.MarkerJoins", spec := "markerJoins", inPlace := ["internal/bytealg.IndexByte", "internal/bytealg.Index"], named := ["internal/bytealg.MaxLen"], apart := false, narrowed := true }
def MarkerJoinsUptoSaid : Prop := markerJoinsUptoRow.holds Try.pinned (OpenSpec.upto markerJoinsSpec)

/-- 'bitloftlaw25.MarkerNames', WHERE WHAT IT READS IS OF BULK AT MOST 1048576: true; the input reads as it did. -/
def markerNamesUptoRow : OpenClaim := { program := "ytmgjogbpmaiahaa", sum := "e265abc1212298439348d8d5c098b95b33cdd88cc122954b071102a876f9acfc", func := "bitloft/bitloftlaw25.MarkerNames", spec := "markerNames", inPlace := ["internal/bytealg.IndexByte", "internal/bytealg.Index"], named := ["internal/bytealg.MaxLen"], apart := false, narrowed := true }
def MarkerNamesUptoSaid : Prop := markerNamesUptoRow.holds Try.pinned (OpenSpec.upto markerNamesSpec)

/-- 'bitloftlaw25.MarkerAll', WHERE WHAT IT READS IS OF BULK AT MOST 1048576: true; the input reads as it did. -/
def markerAllUptoRow : OpenClaim := { program := "ytmgjogbpmaiahaa", sum := "e265abc1212298439348d8d5c098b95b33cdd88cc122954b071102a876f9acfc", func := "bitloft/bitloftlaw25.MarkerAll", spec := "markerAll", inPlace := ["internal/bytealg.IndexByte", "internal/bytealg.Index"], named := ["internal/bytealg.MaxLen"], apart := false, narrowed := true }
def MarkerAllUptoSaid : Prop := markerAllUptoRow.holds Try.pinned (OpenSpec.upto markerAllSpec)

end Rows
end Go.Proofs.Ytmgjogbpmaiahaa
