/-
  NARROWER THAN 'FOR EVERY INPUT', by the rows' own cells (each row's printed sentence says how): MemberMakes: laid · MemberWrites: laid · MemberRight: laid · MemberReads: laid · MemberBack: laid · MemberNames: laid.
  DERIVED. THE GIVEN ROWS OF THIS SEAT. 6 by the template 'for every input the law returns true; each argument reads behind the call as it read before'; 0 by the template 'total and deterministic' (their statements: YtkbmkgcenehenaaDoorTotals.lean).
  GIVEN WITH THE SEED: the statements are not yours to turn. If you find one false, say at which input.
  Laid BY PROGRAM, IN A SANDBOX (cutbox-rows.mjs): the forced cells as the released guide's own fill.sh prints them over the translation 6cf05f68c74c1541… (all of the seat's roots in one cut). By AI agents, Wed Nov 11 2026. No macro, syntax, notation, axiom, sorry.
-/
import Derived.Test.YtkbmkgcenehenaaDoorChecked
import GoSem.Claim
import GoSem.ClaimJoined
import GoSem.ClaimMapViews
import Derived.JoinedTies
import Derived.KernelRfl
namespace Go.Proofs.YtkbmkgcenehenaaDoor
/- THE CELL 'sum', in the pinned program and in every row, IS THE sha256 OF THE DUMP (.gsa) THAT YtkbmkgcenehenaaDoorProg.lean LOADS. Nothing in Lean hashes anything: it is a label: what it is worth is what the hold of that sum in a sandbox is worth. -/
noncomputable def Tryd.pinned : Pinned := { name := "ytkbmkgcenehenaadoor", sum := "6cf05f68c74c1541b75f4bdcf21f3d4465e49ce2d41f8bc51fbbe66e3c2e036d", checked := Tryd.checked }
namespace Rows
def none {H : Type} : Left H := { results := [], args := [] }

/- WHAT THE LISTED PACKAGE-LEVEL VARIABLES READ AS WHEN THE CALL BEGINS. Each datum BY PROGRAM (the guide's laid-datum.mjs) off the statement by which the dump's own 'gosem.cut.vars' lays the variable. In a bare row this is a premise. The card (YtkbmkgcenehenaaDoorCards.lean) ties it to the program's text. -/
def laid_bitloft_sha_quarters {H : Type} : DataW H := .agg [.lit (.int .u32 1518500249), .lit (.int .u32 1859775393), .lit (.int .u32 2400959708), .lit (.int .u32 3395469782)]
def laid_errors_errorType {H : Type} : DataW H := .iface "internal/reflectlite.rtype" (.agg [.ptr (.lit (.string [101, 114, 114, 111, 114]))])

/-- 'bitloftlaw28.MemberMakes': WHATEVER THE INPUT: true; the input reads as it did. -/
def memberMakesSpec : ChangeSpec := { name := "memberMakes", fn := fun _ => fun
  | [d] => { results := [.lit (.bool true)], args := [d] }
  | _ => none }
def memberMakesRow : OpenClaim := { program := "ytkbmkgcenehenaadoor", sum := "6cf05f68c74c1541b75f4bdcf21f3d4465e49ce2d41f8bc51fbbe66e3c2e036d", func := "bitloft/bitloftlaw28.MemberMakes", spec := "memberMakes", named := ["bitloft/sha.quarters"], apart := false, laid := [("bitloft/sha.quarters", laid_bitloft_sha_quarters)] }
def MemberMakesSaid : Prop := memberMakesRow.holds Tryd.pinned (OpenSpec.ofChange memberMakesSpec)

/-- ITS FALSE NEIGHBOUR: 'it returns false'. Refute it at one input. -/
def memberMakesWrong : ChangeSpec := { name := "memberMakes", fn := fun _ => fun
  | [d] => { results := [.lit (.bool false)], args := [d] }
  | _ => none }
def MemberMakesWrongFalsely : Prop := memberMakesRow.holds Tryd.pinned (OpenSpec.ofChange memberMakesWrong)

/-- 'bitloftlaw28.MemberWrites': WHATEVER THE INPUT: true; the input reads as it did. -/
def memberWritesSpec : ChangeSpec := { name := "memberWrites", fn := fun _ => fun
  | [d1, d2, d3] => { results := [.lit (.bool true)], args := [d1, d2, d3] }
  | _ => none }
def memberWritesRow : OpenClaim := { program := "ytkbmkgcenehenaadoor", sum := "6cf05f68c74c1541b75f4bdcf21f3d4465e49ce2d41f8bc51fbbe66e3c2e036d", func := "bitloft/bitloftlaw28.MemberWrites", spec := "memberWrites", named := ["bitloft/sha.quarters"], apart := false, laid := [("bitloft/sha.quarters", laid_bitloft_sha_quarters)] }
def MemberWritesSaid : Prop := memberWritesRow.holds Tryd.pinned (OpenSpec.ofChange memberWritesSpec)

/-- ITS FALSE NEIGHBOUR: 'it returns false'. Refute it at one input. -/
def memberWritesWrong : ChangeSpec := { name := "memberWrites", fn := fun _ => fun
  | [d1, d2, d3] => { results := [.lit (.bool false)], args := [d1, d2, d3] }
  | _ => none }
def MemberWritesWrongFalsely : Prop := memberWritesRow.holds Tryd.pinned (OpenSpec.ofChange memberWritesWrong)

/-- 'bitloftlaw28.MemberRight': WHATEVER THE INPUT: true; the input reads as it did. -/
def memberRightSpec : ChangeSpec := { name := "memberRight", fn := fun _ => fun
  | [d] => { results := [.lit (.bool true)], args := [d] }
  | _ => none }
def memberRightRow : OpenClaim := { program := "ytkbmkgcenehenaadoor", sum := "6cf05f68c74c1541b75f4bdcf21f3d4465e49ce2d41f8bc51fbbe66e3c2e036d", func := "bitloft/bitloftlaw28.MemberRight", spec := "memberRight", named := ["bitloft/sha.quarters"], apart := false, laid := [("bitloft/sha.quarters", laid_bitloft_sha_quarters)] }
def MemberRightSaid : Prop := memberRightRow.holds Tryd.pinned (OpenSpec.ofChange memberRightSpec)

/-- ITS FALSE NEIGHBOUR: 'it returns false'. Refute it at one input. -/
def memberRightWrong : ChangeSpec := { name := "memberRight", fn := fun _ => fun
  | [d] => { results := [.lit (.bool false)], args := [d] }
  | _ => none }
def MemberRightWrongFalsely : Prop := memberRightRow.holds Tryd.pinned (OpenSpec.ofChange memberRightWrong)

/-- 'bitloftlaw28.MemberReads': WHATEVER THE INPUT: true; the input reads as it did. -/
def memberReadsSpec : ChangeSpec := { name := "memberReads", fn := fun _ => fun
  | [d1, d2] => { results := [.lit (.bool true)], args := [d1, d2] }
  | _ => none }
def memberReadsRow : OpenClaim := { program := "ytkbmkgcenehenaadoor", sum := "6cf05f68c74c1541b75f4bdcf21f3d4465e49ce2d41f8bc51fbbe66e3c2e036d", func := "bitloft/bitloftlaw28.MemberReads", spec := "memberReads", inPlace := ["internal/reflectlite.ValueOf", "(internal/reflectlite.Value).Type", "(internal/reflectlite.Value).IsNil", "internal/reflectlite.TypeOf", "(internal/reflectlite.Value).Elem", "(internal/reflectlite.Value).Set"], unfollowed := true, recurses := true, named := ["errors.errorType", "bitloft/sha.quarters"], apart := false, laid := [("errors.errorType", laid_errors_errorType), ("bitloft/sha.quarters", laid_bitloft_sha_quarters)] }
def MemberReadsSaid : Prop := memberReadsRow.holds Tryd.pinned (OpenSpec.ofChange memberReadsSpec)

/-- ITS FALSE NEIGHBOUR: 'it returns false'. Refute it at one input. -/
def memberReadsWrong : ChangeSpec := { name := "memberReads", fn := fun _ => fun
  | [d1, d2] => { results := [.lit (.bool false)], args := [d1, d2] }
  | _ => none }
def MemberReadsWrongFalsely : Prop := memberReadsRow.holds Tryd.pinned (OpenSpec.ofChange memberReadsWrong)

/-- 'bitloftlaw28.MemberBack': WHATEVER THE INPUT: true; the input reads as it did. -/
def memberBackSpec : ChangeSpec := { name := "memberBack", fn := fun _ => fun
  | [d1, d2, d3] => { results := [.lit (.bool true)], args := [d1, d2, d3] }
  | _ => none }
def memberBackRow : OpenClaim := { program := "ytkbmkgcenehenaadoor", sum := "6cf05f68c74c1541b75f4bdcf21f3d4465e49ce2d41f8bc51fbbe66e3c2e036d", func := "bitloft/bitloftlaw28.MemberBack", spec := "memberBack", inPlace := ["internal/reflectlite.ValueOf", "(internal/reflectlite.Value).Type", "(internal/reflectlite.Value).IsNil", "internal/reflectlite.TypeOf", "(internal/reflectlite.Value).Elem", "(internal/reflectlite.Value).Set"], unfollowed := true, recurses := true, named := ["bitloft/sha.quarters", "errors.errorType"], apart := false, laid := [("errors.errorType", laid_errors_errorType), ("bitloft/sha.quarters", laid_bitloft_sha_quarters)] }
def MemberBackSaid : Prop := memberBackRow.holds Tryd.pinned (OpenSpec.ofChange memberBackSpec)

/-- ITS FALSE NEIGHBOUR: 'it returns false'. Refute it at one input. -/
def memberBackWrong : ChangeSpec := { name := "memberBack", fn := fun _ => fun
  | [d1, d2, d3] => { results := [.lit (.bool false)], args := [d1, d2, d3] }
  | _ => none }
def MemberBackWrongFalsely : Prop := memberBackRow.holds Tryd.pinned (OpenSpec.ofChange memberBackWrong)

/-- 'bitloftlaw28.MemberNames': WHATEVER THE INPUT: true; the input reads as it did. -/
def memberNamesSpec : ChangeSpec := { name := "memberNames", fn := fun _ => fun
  | [] => { results := [.lit (.bool true)], args := [] }
  | _ => none }
def memberNamesRow : OpenClaim := { program := "ytkbmkgcenehenaadoor", sum := "6cf05f68c74c1541b75f4bdcf21f3d4465e49ce2d41f8bc51fbbe66e3c2e036d", func := "bitloft/bitloftlaw28.MemberNames", spec := "memberNames", inPlace := ["internal/reflectlite.ValueOf", "(internal/reflectlite.Value).Type", "(internal/reflectlite.Value).IsNil", "internal/reflectlite.TypeOf", "(internal/reflectlite.Value).Elem", "(internal/reflectlite.Value).Set"], unfollowed := true, recurses := true, named := ["bitloft/sha.quarters", "errors.errorType"], apart := false, laid := [("errors.errorType", laid_errors_errorType), ("bitloft/sha.quarters", laid_bitloft_sha_quarters)] }
def MemberNamesSaid : Prop := memberNamesRow.holds Tryd.pinned (OpenSpec.ofChange memberNamesSpec)

/-- ITS FALSE NEIGHBOUR: 'it returns false'. Refute it at one input. -/
def memberNamesWrong : ChangeSpec := { name := "memberNames", fn := fun _ => fun
  | [] => { results := [.lit (.bool false)], args := [] }
  | _ => none }
def MemberNamesWrongFalsely : Prop := memberNamesRow.holds Tryd.pinned (OpenSpec.ofChange memberNamesWrong)

/- THE SECOND FORM. 'bulk': how many values and letters a reading holds, each counted each time it is reached (what is shared counts as often as it is met; a slice's spare places count too). A statement '..UptoSaid' is the law's where the arguments, and the package variables that the reading takes, are together of bulk at most 1048576: NARROWER than '..Said'. Prove '..Said' where nothing that the law and all that it calls make is longer than what came in: it says more and counts as full. Else prove '..UptoSaid'. A law counts once. -/
mutual
def uptoBulk {H : Type} : DataW H → Nat
  | .lit (.string bytes) => bytes.length + 1
  | .lit _ => 1
  | .nil => 1
  | .ptr d => uptoBulk d + 1
  | .slice elems spare => uptoBulkAll elems + uptoBulkAll spare + 1
  | .agg parts => uptoBulkAll parts + 1
  | .iface _ d => uptoBulk d + 1
  | .map entries => uptoBulkEntries entries + 1
  | .held _ => 1
def uptoBulkAll {H : Type} : List (DataW H) → Nat
  | [] => 0
  | d :: r => uptoBulk d + uptoBulkAll r
def uptoBulkEntries {H : Type} : List (Lit × DataW H) → Nat
  | [] => 0
  | x :: r => uptoBulkEntry x + uptoBulkEntries r
def uptoBulkEntry {H : Type} : Lit × DataW H → Nat
  | (.string bytes, d) => bytes.length + uptoBulk d + 1
  | (_, d) => uptoBulk d + 1
 end
def uptoSmall : (H : Type) → List (DataW H) → Bool := fun _ ds => decide (uptoBulkAll ds ≤ 1048576)
def OpenSpec.upto (s : _root_.Go.ChangeSpec) : _root_.Go.OpenSpec := { _root_.Go.OpenSpec.ofChange s with cond := some uptoSmall }

/-- 'bitloftlaw28.MemberMakes', WHERE WHAT IT READS IS OF BULK AT MOST 1048576: true; the input reads as it did. -/
def memberMakesUptoRow : OpenClaim := { program := "ytkbmkgcenehenaadoor", sum := "6cf05f68c74c1541b75f4bdcf21f3d4465e49ce2d41f8bc51fbbe66e3c2e036d", func := "bitloft/bitloftlaw28.MemberMakes", spec := "memberMakes", named := ["bitloft/sha.quarters"], apart := false, laid := [("bitloft/sha.quarters", laid_bitloft_sha_quarters)], narrowed := true }
def MemberMakesUptoSaid : Prop := memberMakesUptoRow.holds Tryd.pinned (OpenSpec.upto memberMakesSpec)

/-- 'bitloftlaw28.MemberWrites', WHERE WHAT IT READS IS OF BULK AT MOST 1048576: true; the input reads as it did. -/
def memberWritesUptoRow : OpenClaim := { program := "ytkbmkgcenehenaadoor", sum := "6cf05f68c74c1541b75f4bdcf21f3d4465e49ce2d41f8bc51fbbe66e3c2e036d", func := "bitloft/bitloftlaw28.MemberWrites", spec := "memberWrites", named := ["bitloft/sha.quarters"], apart := false, laid := [("bitloft/sha.quarters", laid_bitloft_sha_quarters)], narrowed := true }
def MemberWritesUptoSaid : Prop := memberWritesUptoRow.holds Tryd.pinned (OpenSpec.upto memberWritesSpec)

/-- 'bitloftlaw28.MemberRight', WHERE WHAT IT READS IS OF BULK AT MOST 1048576: true; the input reads as it did. -/
def memberRightUptoRow : OpenClaim := { program := "ytkbmkgcenehenaadoor", sum := "6cf05f68c74c1541b75f4bdcf21f3d4465e49ce2d41f8bc51fbbe66e3c2e036d", func := "bitloft/bitloftlaw28.MemberRight", spec := "memberRight", named := ["bitloft/sha.quarters"], apart := false, laid := [("bitloft/sha.quarters", laid_bitloft_sha_quarters)], narrowed := true }
def MemberRightUptoSaid : Prop := memberRightUptoRow.holds Tryd.pinned (OpenSpec.upto memberRightSpec)

/-- 'bitloftlaw28.MemberReads', WHERE WHAT IT READS IS OF BULK AT MOST 1048576: true; the input reads as it did. -/
def memberReadsUptoRow : OpenClaim := { program := "ytkbmkgcenehenaadoor", sum := "6cf05f68c74c1541b75f4bdcf21f3d4465e49ce2d41f8bc51fbbe66e3c2e036d", func := "bitloft/bitloftlaw28.MemberReads", spec := "memberReads", inPlace := ["internal/reflectlite.ValueOf", "(internal/reflectlite.Value).Type", "(internal/reflectlite.Value).IsNil", "internal/reflectlite.TypeOf", "(internal/reflectlite.Value).Elem", "(internal/reflectlite.Value).Set"], unfollowed := true, recurses := true, named := ["errors.errorType", "bitloft/sha.quarters"], apart := false, laid := [("errors.errorType", laid_errors_errorType), ("bitloft/sha.quarters", laid_bitloft_sha_quarters)], narrowed := true }
def MemberReadsUptoSaid : Prop := memberReadsUptoRow.holds Tryd.pinned (OpenSpec.upto memberReadsSpec)

/-- 'bitloftlaw28.MemberBack', WHERE WHAT IT READS IS OF BULK AT MOST 1048576: true; the input reads as it did. -/
def memberBackUptoRow : OpenClaim := { program := "ytkbmkgcenehenaadoor", sum := "6cf05f68c74c1541b75f4bdcf21f3d4465e49ce2d41f8bc51fbbe66e3c2e036d", func := "bitloft/bitloftlaw28.MemberBack", spec := "memberBack", inPlace := ["internal/reflectlite.ValueOf", "(internal/reflectlite.Value).Type", "(internal/reflectlite.Value).IsNil", "internal/reflectlite.TypeOf", "(internal/reflectlite.Value).Elem", "(internal/reflectlite.Value).Set"], unfollowed := true, recurses := true, named := ["bitloft/sha.quarters", "errors.errorType"], apart := false, laid := [("errors.errorType", laid_errors_errorType), ("bitloft/sha.quarters", laid_bitloft_sha_quarters)], narrowed := true }
def MemberBackUptoSaid : Prop := memberBackUptoRow.holds Tryd.pinned (OpenSpec.upto memberBackSpec)

/-- 'bitloftlaw28.MemberNames', WHERE WHAT IT READS IS OF BULK AT MOST 1048576: true; the input reads as it did. -/
def memberNamesUptoRow : OpenClaim := { program := "ytkbmkgcenehenaadoor", sum := "6cf05f68c74c1541b75f4bdcf21f3d4465e49ce2d41f8bc51fbbe66e3c2e036d", func := "bitloft/bitloftlaw28.MemberNames", spec := "memberNames", inPlace := ["internal/reflectlite.ValueOf", "(internal/reflectlite.Value).Type", "(internal/reflectlite.Value).IsNil", "internal/reflectlite.TypeOf", "(internal/reflectlite.Value).Elem", "(internal/reflectlite.Value).Set"], unfollowed := true, recurses := true, named := ["bitloft/sha.quarters", "errors.errorType"], apart := false, laid := [("errors.errorType", laid_errors_errorType), ("bitloft/sha.quarters", laid_bitloft_sha_quarters)], narrowed := true }
def MemberNamesUptoSaid : Prop := memberNamesUptoRow.holds Tryd.pinned (OpenSpec.upto memberNamesSpec)

end Rows
end Go.Proofs.YtkbmkgcenehenaaDoor
