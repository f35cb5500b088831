/-
  No cell of these rows narrows 'for every input' (looked for: loops, veiled, ifaces, maps, wideKeys, modest, calm, conditions, laid).
  DERIVED. THE GIVEN ROWS OF THIS SEAT. 6 by the template 'for every input the law returns true; each argument reads behind the call as it read before'; 0 by the template 'total and deterministic' (their statements: YtflmhccniamkeaaTotals.lean).
  GIVEN WITH THE SEED: the statements are not yours to turn. If you find one false, say at which input.
  Laid BY PROGRAM, IN A SANDBOX (cutbox-rows.mjs): the forced cells as the released guide's own fill.sh prints them over the translation 83a2c93d548cae8a… (all of the seat's roots in one cut). By AI agents, Wed Nov 11 2026. No macro, syntax, notation, axiom, sorry.
-/
import Derived.Test.YtflmhccniamkeaaChecked
import GoSem.Claim
import GoSem.ClaimJoined
import GoSem.ClaimMapViews
import Derived.JoinedTies
import Derived.KernelRfl
namespace Go.Proofs.Ytflmhccniamkeaa
/- THE CELL 'sum', in the pinned program and in every row, IS THE sha256 OF THE DUMP (.gsa) THAT YtflmhccniamkeaaProg.lean LOADS. Nothing in Lean hashes anything: it is a label: what it is worth is what the hold of that sum in a sandbox is worth. -/
noncomputable def Try.pinned : Pinned := { name := "ytflmhccniamkeaa", sum := "83a2c93d548cae8acd916ddf8763638352f14a5c6329ec522998d1cbed5977bc", checked := Try.checked }
namespace Rows
def none {H : Type} : Left H := { results := [], args := [] }

/-- 'bitloftlaw37.FilterOnes': WHATEVER THE INPUT: true; the input reads as it did. -/
def filterOnesSpec : ChangeSpec := { name := "filterOnes", fn := fun _ => fun
  | [d1, d2] => { results := [.lit (.bool true)], args := [d1, d2] }
  | _ => none }
def filterOnesRow : OpenClaim := { program := "ytflmhccniamkeaa", sum := "83a2c93d548cae8acd916ddf8763638352f14a5c6329ec522998d1cbed5977bc", func := "bitloft/bitloftlaw37.FilterOnes", spec := "filterOnes", inPlace := ["internal/bytealg.IndexByte", "internal/bytealg.MakeNoZero"], apart := false }
def FilterOnesSaid : Prop := filterOnesRow.holds Try.pinned (OpenSpec.ofChange filterOnesSpec)

/-- ITS FALSE NEIGHBOUR: 'it returns false'. Refute it at one input. -/
def filterOnesWrong : ChangeSpec := { name := "filterOnes", fn := fun _ => fun
  | [d1, d2] => { results := [.lit (.bool false)], args := [d1, d2] }
  | _ => none }
def FilterOnesWrongFalsely : Prop := filterOnesRow.holds Try.pinned (OpenSpec.ofChange filterOnesWrong)

/-- 'bitloftlaw37.FilterZeros': WHATEVER THE INPUT: true; the input reads as it did. -/
def filterZerosSpec : ChangeSpec := { name := "filterZeros", fn := fun _ => fun
  | [d1, d2] => { results := [.lit (.bool true)], args := [d1, d2] }
  | _ => none }
def filterZerosRow : OpenClaim := { program := "ytflmhccniamkeaa", sum := "83a2c93d548cae8acd916ddf8763638352f14a5c6329ec522998d1cbed5977bc", func := "bitloft/bitloftlaw37.FilterZeros", spec := "filterZeros", inPlace := ["internal/bytealg.IndexByte", "internal/bytealg.MakeNoZero"], apart := false }
def FilterZerosSaid : Prop := filterZerosRow.holds Try.pinned (OpenSpec.ofChange filterZerosSpec)

/-- ITS FALSE NEIGHBOUR: 'it returns false'. Refute it at one input. -/
def filterZerosWrong : ChangeSpec := { name := "filterZeros", fn := fun _ => fun
  | [d1, d2] => { results := [.lit (.bool false)], args := [d1, d2] }
  | _ => none }
def FilterZerosWrongFalsely : Prop := filterZerosRow.holds Try.pinned (OpenSpec.ofChange filterZerosWrong)

/-- 'bitloftlaw37.FilterChains': WHATEVER THE INPUT: true; the input reads as it did. -/
def filterChainsSpec : ChangeSpec := { name := "filterChains", fn := fun _ => fun
  | [d1, d2] => { results := [.lit (.bool true)], args := [d1, d2] }
  | _ => none }
def filterChainsRow : OpenClaim := { program := "ytflmhccniamkeaa", sum := "83a2c93d548cae8acd916ddf8763638352f14a5c6329ec522998d1cbed5977bc", func := "bitloft/bitloftlaw37.FilterChains", spec := "filterChains", inPlace := ["internal/bytealg.IndexByte", "internal/bytealg.MakeNoZero"], unfollowed := true, recurses := true, apart := false }
def FilterChainsSaid : Prop := filterChainsRow.holds Try.pinned (OpenSpec.ofChange filterChainsSpec)

/-- ITS FALSE NEIGHBOUR: 'it returns false'. Refute it at one input. -/
def filterChainsWrong : ChangeSpec := { name := "filterChains", fn := fun _ => fun
  | [d1, d2] => { results := [.lit (.bool false)], args := [d1, d2] }
  | _ => none }
def FilterChainsWrongFalsely : Prop := filterChainsRow.holds Try.pinned (OpenSpec.ofChange filterChainsWrong)

/-- 'bitloftlaw37.FilterNames': WHATEVER THE INPUT: true; the input reads as it did. -/
def filterNamesSpec : ChangeSpec := { name := "filterNames", fn := fun _ => fun
  | [] => { results := [.lit (.bool true)], args := [] }
  | _ => none }
def filterNamesRow : OpenClaim := { program := "ytflmhccniamkeaa", sum := "83a2c93d548cae8acd916ddf8763638352f14a5c6329ec522998d1cbed5977bc", func := "bitloft/bitloftlaw37.FilterNames", spec := "filterNames", inPlace := ["internal/bytealg.IndexByte", "internal/bytealg.MakeNoZero"], unfollowed := true, recurses := true, apart := false }
def FilterNamesSaid : Prop := filterNamesRow.holds Try.pinned (OpenSpec.ofChange filterNamesSpec)

/-- ITS FALSE NEIGHBOUR: 'it returns false'. Refute it at one input. -/
def filterNamesWrong : ChangeSpec := { name := "filterNames", fn := fun _ => fun
  | [] => { results := [.lit (.bool false)], args := [] }
  | _ => none }
def FilterNamesWrongFalsely : Prop := filterNamesRow.holds Try.pinned (OpenSpec.ofChange filterNamesWrong)

/-- 'bitloftlaw37.FilterBack': WHATEVER THE INPUT: true; the input reads as it did. -/
def filterBackSpec : ChangeSpec := { name := "filterBack", fn := fun _ => fun
  | [d1, d2, d3] => { results := [.lit (.bool true)], args := [d1, d2, d3] }
  | _ => none }
def filterBackRow : OpenClaim := { program := "ytflmhccniamkeaa", sum := "83a2c93d548cae8acd916ddf8763638352f14a5c6329ec522998d1cbed5977bc", func := "bitloft/bitloftlaw37.FilterBack", spec := "filterBack", inPlace := ["internal/bytealg.IndexByte", "internal/bytealg.MakeNoZero"], unfollowed := true, recurses := true, apart := false }
def FilterBackSaid : Prop := filterBackRow.holds Try.pinned (OpenSpec.ofChange filterBackSpec)

/-- ITS FALSE NEIGHBOUR: 'it returns false'. Refute it at one input. -/
def filterBackWrong : ChangeSpec := { name := "filterBack", fn := fun _ => fun
  | [d1, d2, d3] => { results := [.lit (.bool false)], args := [d1, d2, d3] }
  | _ => none }
def FilterBackWrongFalsely : Prop := filterBackRow.holds Try.pinned (OpenSpec.ofChange filterBackWrong)

/-- 'bitloftlaw37.FilterParts': WHATEVER THE INPUT: true; the input reads as it did. -/
def filterPartsSpec : ChangeSpec := { name := "filterParts", fn := fun _ => fun
  | [d1, d2, d3] => { results := [.lit (.bool true)], args := [d1, d2, d3] }
  | _ => none }
def filterPartsRow : OpenClaim := { program := "ytflmhccniamkeaa", sum := "83a2c93d548cae8acd916ddf8763638352f14a5c6329ec522998d1cbed5977bc", func := "bitloft/bitloftlaw37.FilterParts", spec := "filterParts", inPlace := ["internal/bytealg.IndexByte", "internal/bytealg.MakeNoZero"], unfollowed := true, recurses := true, apart := false }
def FilterPartsSaid : Prop := filterPartsRow.holds Try.pinned (OpenSpec.ofChange filterPartsSpec)

/-- ITS FALSE NEIGHBOUR: 'it returns false'. Refute it at one input. -/
def filterPartsWrong : ChangeSpec := { name := "filterParts", fn := fun _ => fun
  | [d1, d2, d3] => { results := [.lit (.bool false)], args := [d1, d2, d3] }
  | _ => none }
def FilterPartsWrongFalsely : Prop := filterPartsRow.holds Try.pinned (OpenSpec.ofChange filterPartsWrong)

/- THE SECOND FORM. 'bulk': how many values and letters a reading holds, each counted each time it is reached (what is shared counts as often as it is met; a slice's spare places count too). A statement '..UptoSaid' is the law's where the arguments, and the package variables that the reading takes, are together of bulk at most 1048576: NARROWER than '..Said'. Prove '..Said' where nothing that the law and all that it calls make is longer than what came in: it says more and counts as full. Else prove '..UptoSaid'. A law counts once. -/
mutual
def uptoBulk {H : Type} : DataW H → Nat
  | .lit (.string bytes) => bytes.length + 1
  | .lit _ => 1
  | .nil => 1
  | .ptr d => uptoBulk d + 1
  | .slice elems spare => uptoBulkAll elems + uptoBulkAll spare + 1
  | .agg parts => uptoBulkAll parts + 1
  | .iface _ d => uptoBulk d + 1
  | .map entries => uptoBulkEntries entries + 1
  | .held _ => 1
def uptoBulkAll {H : Type} : List (DataW H) → Nat
  | [] => 0
  | d :: r => uptoBulk d + uptoBulkAll r
def uptoBulkEntries {H : Type} : List (Lit × DataW H) → Nat
  | [] => 0
  | x :: r => uptoBulkEntry x + uptoBulkEntries r
def uptoBulkEntry {H : Type} : Lit × DataW H → Nat
  | (.string bytes, d) => bytes.length + uptoBulk d + 1
  | (_, d) => uptoBulk d + 1
 end
def uptoSmall : (H : Type) → List (DataW H) → Bool := fun _ ds => decide (uptoBulkAll ds ≤ 1048576)
def OpenSpec.upto (s : _root_.Go.ChangeSpec) : _root_.Go.OpenSpec := { _root_.Go.OpenSpec.ofChange s with cond := some uptoSmall }

/-- 'bitloftlaw37.FilterOnes', WHERE WHAT IT READS IS OF BULK AT MOST 1048576: true; the input reads as it did. -/
def filterOnesUptoRow : OpenClaim := { program := "ytflmhccniamkeaa", sum := "83a2c93d548cae8acd916ddf8763638352f14a5c6329ec522998d1cbed5977bc", func := "bitloft/bitloftlaw37.FilterOnes", spec := "filterOnes", inPlace := ["internal/bytealg.IndexByte", "internal/bytealg.MakeNoZero"], apart := false, narrowed := true }
def FilterOnesUptoSaid : Prop := filterOnesUptoRow.holds Try.pinned (OpenSpec.upto filterOnesSpec)

/-- 'bitloftlaw37.FilterZeros', WHERE WHAT IT READS IS OF BULK AT MOST 1048576: true; the input reads as it did. -/
def filterZerosUptoRow : OpenClaim := { program := "ytflmhccniamkeaa", sum := "83a2c93d548cae8acd916ddf8763638352f14a5c6329ec522998d1cbed5977bc", func := "bitloft/bitloftlaw37.FilterZeros", spec := "filterZeros", inPlace := ["internal/bytealg.IndexByte", "internal/bytealg.MakeNoZero"], apart := false, narrowed := true }
def FilterZerosUptoSaid : Prop := filterZerosUptoRow.holds Try.pinned (OpenSpec.upto filterZerosSpec)

/-- 'bitloftlaw37.FilterChains', WHERE WHAT IT READS IS OF BULK AT MOST 1048576: true; the input reads as it did. -/
def filterChainsUptoRow : OpenClaim := { program := "ytflmhccniamkeaa", sum := "83a2c93d548cae8acd916ddf8763638352f14a5c6329ec522998d1cbed5977bc", func := "bitloft/bitloftlaw37.FilterChains", spec := "filterChains", inPlace := ["internal/bytealg.IndexByte", "internal/bytealg.MakeNoZero"], unfollowed := true, recurses := true, apart := false, narrowed := true }
def FilterChainsUptoSaid : Prop := filterChainsUptoRow.holds Try.pinned (OpenSpec.upto filterChainsSpec)

/-- 'bitloftlaw37.FilterNames', WHERE WHAT IT READS IS OF BULK AT MOST 1048576: true; the input reads as it did. -/
def filterNamesUptoRow : OpenClaim := { program := "ytflmhccniamkeaa", sum := "83a2c93d548cae8acd916ddf8763638352f14a5c6329ec522998d1cbed5977bc", func := "bitloft/bitloftlaw37.FilterNames", spec := "filterNames", inPlace := ["internal/bytealg.IndexByte", "internal/bytealg.MakeNoZero"], unfollowed := true, recurses := true, apart := false, narrowed := true }
def FilterNamesUptoSaid : Prop := filterNamesUptoRow.holds Try.pinned (OpenSpec.upto filterNamesSpec)

/-- 'bitloftlaw37.FilterBack', WHERE WHAT IT READS IS OF BULK AT MOST 1048576: true; the input reads as it did. -/
def filterBackUptoRow : OpenClaim := { program := "ytflmhccniamkeaa", sum := "83a2c93d548cae8acd916ddf8763638352f14a5c6329ec522998d1cbed5977bc", func := "bitloft/bitloftlaw37.FilterBack", spec := "filterBack", inPlace := ["internal/bytealg.IndexByte", "internal/bytealg.MakeNoZero"], unfollowed := true, recurses := true, apart := false, narrowed := true }
def FilterBackUptoSaid : Prop := filterBackUptoRow.holds Try.pinned (OpenSpec.upto filterBackSpec)

/-- 'bitloftlaw37.FilterParts', WHERE WHAT IT READS IS OF BULK AT MOST 1048576: true; the input reads as it did. -/
def filterPartsUptoRow : OpenClaim := { program := "ytflmhccniamkeaa", sum := "83a2c93d548cae8acd916ddf8763638352f14a5c6329ec522998d1cbed5977bc", func := "bitloft/bitloftlaw37.FilterParts", spec := "filterParts", inPlace := ["internal/bytealg.IndexByte", "internal/bytealg.MakeNoZero"], unfollowed := true, recurses := true, apart := false, narrowed := true }
def FilterPartsUptoSaid : Prop := filterPartsUptoRow.holds Try.pinned (OpenSpec.upto filterPartsSpec)

end Rows
end Go.Proofs.Ytflmhccniamkeaa
