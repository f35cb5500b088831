/-
  NARROWER THAN 'FOR EVERY INPUT', by the rows' own cells (each row's printed sentence says how): OctetWrites: laid · OctetOrder: laid · OctetMoves: laid · OctetNames: laid · OctetBack: laid.
  DERIVED. THE GIVEN ROWS OF THIS SEAT. 5 by the template 'for every input the law returns true; each argument reads behind the call as it read before'; 0 by the template 'total and deterministic' (their statements: YtpafcjffkbihfaaDoorTotals.lean).
  GIVEN WITH THE SEED: the statements are not yours to turn. If you find one false, say at which input.
  Laid BY PROGRAM, IN A SANDBOX (cutbox-rows.mjs): the forced cells as the released guide's own fill.sh prints them over the translation b8bfab15f90c5593… (all of the seat's roots in one cut). By AI agents, Wed Nov 11 2026. No macro, syntax, notation, axiom, sorry.
-/
import Derived.Test.YtpafcjffkbihfaaDoorChecked
import GoSem.Claim
import GoSem.ClaimJoined
import GoSem.ClaimMapViews
import Derived.JoinedTies
import Derived.KernelRfl
namespace Go.Proofs.YtpafcjffkbihfaaDoor
/- THE CELL 'sum', in the pinned program and in every row, IS THE sha256 OF THE DUMP (.gsa) THAT YtpafcjffkbihfaaDoorProg.lean LOADS. Nothing in Lean hashes anything: it is a label: what it is worth is what the hold of that sum in a sandbox is worth. -/
noncomputable def Tryd.pinned : Pinned := { name := "ytpafcjffkbihfaadoor", sum := "b8bfab15f90c559307147275eab31e3b322d309d9a28e1d123d8ce05f29bb4a8", checked := Tryd.checked }
namespace Rows
def none {H : Type} : Left H := { results := [], args := [] }

/- WHAT THE LISTED PACKAGE-LEVEL VARIABLES READ AS WHEN THE CALL BEGINS. Each datum BY PROGRAM (the guide's laid-datum.mjs) off the statement by which the dump's own 'gosem.cut.vars' lays the variable. In a bare row this is a premise. The card (YtpafcjffkbihfaaDoorCards.lean) ties it to the program's text. -/
def laid_bitloft_octet_tops {H : Type} : DataW H := .agg [.lit (.int .u64 0), .lit (.int .u64 255), .lit (.int .u64 65535), .lit (.int .u64 16777215), .lit (.int .u64 4294967295), .lit (.int .u64 1099511627775), .lit (.int .u64 281474976710655), .lit (.int .u64 72057594037927935), .lit (.int .u64 18446744073709551615)]

/-- 'bitloftlaw02.OctetWrites': WHATEVER THE INPUT: true; the input reads as it did. -/
def octetWritesSpec : ChangeSpec := { name := "octetWrites", fn := fun _ => fun
  | [d1, d2, d3] => { results := [.lit (.bool true)], args := [d1, d2, d3] }
  | _ => none }
def octetWritesRow : OpenClaim := { program := "ytpafcjffkbihfaadoor", sum := "b8bfab15f90c559307147275eab31e3b322d309d9a28e1d123d8ce05f29bb4a8", func := "bitloft/bitloftlaw02.OctetWrites", spec := "octetWrites", named := ["bitloft/octet.tops"], apart := false, laid := [("bitloft/octet.tops", laid_bitloft_octet_tops)] }
def OctetWritesSaid : Prop := octetWritesRow.holds Tryd.pinned (OpenSpec.ofChange octetWritesSpec)

/-- ITS FALSE NEIGHBOUR: 'it returns false'. Refute it at one input. -/
def octetWritesWrong : ChangeSpec := { name := "octetWrites", fn := fun _ => fun
  | [d1, d2, d3] => { results := [.lit (.bool false)], args := [d1, d2, d3] }
  | _ => none }
def OctetWritesWrongFalsely : Prop := octetWritesRow.holds Tryd.pinned (OpenSpec.ofChange octetWritesWrong)

/-- 'bitloftlaw02.OctetOrder': WHATEVER THE INPUT: true; the input reads as it did. -/
def octetOrderSpec : ChangeSpec := { name := "octetOrder", fn := fun _ => fun
  | [d1, d2, d3] => { results := [.lit (.bool true)], args := [d1, d2, d3] }
  | _ => none }
def octetOrderRow : OpenClaim := { program := "ytpafcjffkbihfaadoor", sum := "b8bfab15f90c559307147275eab31e3b322d309d9a28e1d123d8ce05f29bb4a8", func := "bitloft/bitloftlaw02.OctetOrder", spec := "octetOrder", unfollowed := true, recurses := true, named := ["bitloft/octet.tops"], apart := false, laid := [("bitloft/octet.tops", laid_bitloft_octet_tops)] }
def OctetOrderSaid : Prop := octetOrderRow.holds Tryd.pinned (OpenSpec.ofChange octetOrderSpec)

/-- ITS FALSE NEIGHBOUR: 'it returns false'. Refute it at one input. -/
def octetOrderWrong : ChangeSpec := { name := "octetOrder", fn := fun _ => fun
  | [d1, d2, d3] => { results := [.lit (.bool false)], args := [d1, d2, d3] }
  | _ => none }
def OctetOrderWrongFalsely : Prop := octetOrderRow.holds Tryd.pinned (OpenSpec.ofChange octetOrderWrong)

/-- 'bitloftlaw02.OctetMoves': WHATEVER THE INPUT: true; the input reads as it did. -/
def octetMovesSpec : ChangeSpec := { name := "octetMoves", fn := fun _ => fun
  | [d] => { results := [.lit (.bool true)], args := [d] }
  | _ => none }
def octetMovesRow : OpenClaim := { program := "ytpafcjffkbihfaadoor", sum := "b8bfab15f90c559307147275eab31e3b322d309d9a28e1d123d8ce05f29bb4a8", func := "bitloft/bitloftlaw02.OctetMoves", spec := "octetMoves", unfollowed := true, recurses := true, named := ["bitloft/octet.tops"], apart := false, laid := [("bitloft/octet.tops", laid_bitloft_octet_tops)] }
def OctetMovesSaid : Prop := octetMovesRow.holds Tryd.pinned (OpenSpec.ofChange octetMovesSpec)

/-- ITS FALSE NEIGHBOUR: 'it returns false'. Refute it at one input. -/
def octetMovesWrong : ChangeSpec := { name := "octetMoves", fn := fun _ => fun
  | [d] => { results := [.lit (.bool false)], args := [d] }
  | _ => none }
def OctetMovesWrongFalsely : Prop := octetMovesRow.holds Tryd.pinned (OpenSpec.ofChange octetMovesWrong)

/-- 'bitloftlaw02.OctetNames': WHATEVER THE INPUT: true; the input reads as it did. -/
def octetNamesSpec : ChangeSpec := { name := "octetNames", fn := fun _ => fun
  | [] => { results := [.lit (.bool true)], args := [] }
  | _ => none }
def octetNamesRow : OpenClaim := { program := "ytpafcjffkbihfaadoor", sum := "b8bfab15f90c559307147275eab31e3b322d309d9a28e1d123d8ce05f29bb4a8", func := "bitloft/bitloftlaw02.OctetNames", spec := "octetNames", unfollowed := true, recurses := true, named := ["bitloft/octet.tops"], apart := false, laid := [("bitloft/octet.tops", laid_bitloft_octet_tops)] }
def OctetNamesSaid : Prop := octetNamesRow.holds Tryd.pinned (OpenSpec.ofChange octetNamesSpec)

/-- ITS FALSE NEIGHBOUR: 'it returns false'. Refute it at one input. -/
def octetNamesWrong : ChangeSpec := { name := "octetNames", fn := fun _ => fun
  | [] => { results := [.lit (.bool false)], args := [] }
  | _ => none }
def OctetNamesWrongFalsely : Prop := octetNamesRow.holds Tryd.pinned (OpenSpec.ofChange octetNamesWrong)

/-- 'bitloftlaw02.OctetBack': WHATEVER THE INPUT: true; the input reads as it did. -/
def octetBackSpec : ChangeSpec := { name := "octetBack", fn := fun _ => fun
  | [d1, d2, d3, d4] => { results := [.lit (.bool true)], args := [d1, d2, d3, d4] }
  | _ => none }
def octetBackRow : OpenClaim := { program := "ytpafcjffkbihfaadoor", sum := "b8bfab15f90c559307147275eab31e3b322d309d9a28e1d123d8ce05f29bb4a8", func := "bitloft/bitloftlaw02.OctetBack", spec := "octetBack", unfollowed := true, recurses := true, named := ["bitloft/octet.tops"], apart := false, laid := [("bitloft/octet.tops", laid_bitloft_octet_tops)] }
def OctetBackSaid : Prop := octetBackRow.holds Tryd.pinned (OpenSpec.ofChange octetBackSpec)

/-- ITS FALSE NEIGHBOUR: 'it returns false'. Refute it at one input. -/
def octetBackWrong : ChangeSpec := { name := "octetBack", fn := fun _ => fun
  | [d1, d2, d3, d4] => { results := [.lit (.bool false)], args := [d1, d2, d3, d4] }
  | _ => none }
def OctetBackWrongFalsely : Prop := octetBackRow.holds Tryd.pinned (OpenSpec.ofChange octetBackWrong)

/- THE SECOND FORM. 'bulk': how many values and letters a reading holds, each counted each time it is reached (what is shared counts as often as it is met; a slice's spare places count too). A statement '..UptoSaid' is the law's where the arguments, and the package variables that the reading takes, are together of bulk at most 1048576: NARROWER than '..Said'. Prove '..Said' where nothing that the law and all that it calls make is longer than what came in: it says more and counts as full. Else prove '..UptoSaid'. A law counts once. -/
mutual
def uptoBulk {H : Type} : DataW H → Nat
  | .lit (.string bytes) => bytes.length + 1
  | .lit _ => 1
  | .nil => 1
  | .ptr d => uptoBulk d + 1
  | .slice elems spare => uptoBulkAll elems + uptoBulkAll spare + 1
  | .agg parts => uptoBulkAll parts + 1
  | .iface _ d => uptoBulk d + 1
  | .map entries => uptoBulkEntries entries + 1
  | .held _ => 1
def uptoBulkAll {H : Type} : List (DataW H) → Nat
  | [] => 0
  | d :: r => uptoBulk d + uptoBulkAll r
def uptoBulkEntries {H : Type} : List (Lit × DataW H) → Nat
  | [] => 0
  | x :: r => uptoBulkEntry x + uptoBulkEntries r
def uptoBulkEntry {H : Type} : Lit × DataW H → Nat
  | (.string bytes, d) => bytes.length + uptoBulk d + 1
  | (_, d) => uptoBulk d + 1
 end
def uptoSmall : (H : Type) → List (DataW H) → Bool := fun _ ds => decide (uptoBulkAll ds ≤ 1048576)
def OpenSpec.upto (s : _root_.Go.ChangeSpec) : _root_.Go.OpenSpec := { _root_.Go.OpenSpec.ofChange s with cond := some uptoSmall }

/-- 'bitloftlaw02.OctetWrites', WHERE WHAT IT READS IS OF BULK AT MOST 1048576: true; the input reads as it did. -/
def octetWritesUptoRow : OpenClaim := { program := "ytpafcjffkbihfaadoor", sum := "b8bfab15f90c559307147275eab31e3b322d309d9a28e1d123d8ce05f29bb4a8", func := "bitloft/bitloftlaw02.OctetWrites", spec := "octetWrites", named := ["bitloft/octet.tops"], apart := false, laid := [("bitloft/octet.tops", laid_bitloft_octet_tops)], narrowed := true }
def OctetWritesUptoSaid : Prop := octetWritesUptoRow.holds Tryd.pinned (OpenSpec.upto octetWritesSpec)

/-- 'bitloftlaw02.OctetOrder', WHERE WHAT IT READS IS OF BULK AT MOST 1048576: true; the input reads as it did. -/
def octetOrderUptoRow : OpenClaim := { program := "ytpafcjffkbihfaadoor", sum := "b8bfab15f90c559307147275eab31e3b322d309d9a28e1d123d8ce05f29bb4a8", func := "bitloft/bitloftlaw02.OctetOrder", spec := "octetOrder", unfollowed := true, recurses := true, named := ["bitloft/octet.tops"], apart := false, laid := [("bitloft/octet.tops", laid_bitloft_octet_tops)], narrowed := true }
def OctetOrderUptoSaid : Prop := octetOrderUptoRow.holds Tryd.pinned (OpenSpec.upto octetOrderSpec)

/-- 'bitloftlaw02.OctetMoves', WHERE WHAT IT READS IS OF BULK AT MOST 1048576: true; the input reads as it did. -/
def octetMovesUptoRow : OpenClaim := { program := "ytpafcjffkbihfaadoor", sum := "b8bfab15f90c559307147275eab31e3b322d309d9a28e1d123d8ce05f29bb4a8", func := "bitloft/bitloftlaw02.OctetMoves", spec := "octetMoves", unfollowed := true, recurses := true, named := ["bitloft/octet.tops"], apart := false, laid := [("bitloft/octet.tops", laid_bitloft_octet_tops)], narrowed := true }
def OctetMovesUptoSaid : Prop := octetMovesUptoRow.holds Tryd.pinned (OpenSpec.upto octetMovesSpec)

/-- 'bitloftlaw02.OctetNames', WHERE WHAT IT READS IS OF BULK AT MOST 1048576: true; the input reads as it did. -/
def octetNamesUptoRow : OpenClaim := { program := "ytpafcjffkbihfaadoor", sum := "b8bfab15f90c559307147275eab31e3b322d309d9a28e1d123d8ce05f29bb4a8", func := "bitloft/bitloftlaw02.OctetNames", spec := "octetNames", unfollowed := true, recurses := true, named := ["bitloft/octet.tops"], apart := false, laid := [("bitloft/octet.tops", laid_bitloft_octet_tops)], narrowed := true }
def OctetNamesUptoSaid : Prop := octetNamesUptoRow.holds Tryd.pinned (OpenSpec.upto octetNamesSpec)

/-- 'bitloftlaw02.OctetBack', WHERE WHAT IT READS IS OF BULK AT MOST 1048576: true; the input reads as it did. -/
def octetBackUptoRow : OpenClaim := { program := "ytpafcjffkbihfaadoor", sum := "b8bfab15f90c559307147275eab31e3b322d309d9a28e1d123d8ce05f29bb4a8", func := "bitloft/bitloftlaw02.OctetBack", spec := "octetBack", unfollowed := true, recurses := true, named := ["bitloft/octet.tops"], apart := false, laid := [("bitloft/octet.tops", laid_bitloft_octet_tops)], narrowed := true }
def OctetBackUptoSaid : Prop := octetBackUptoRow.holds Tryd.pinned (OpenSpec.upto octetBackSpec)

end Rows
end Go.Proofs.YtpafcjffkbihfaaDoor
