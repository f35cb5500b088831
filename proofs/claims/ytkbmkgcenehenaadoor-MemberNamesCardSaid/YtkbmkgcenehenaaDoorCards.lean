/-
  DERIVED. GIVEN WITH THE SEED: THE CARDS: each row of YtkbmkgcenehenaaDoorRows.lean that lists a variable, with what it lists TIED to the program's text (the seventh form; the later family's looks); each row that meets fmt, with fmt's text TOLD by the authors' own Lean function (tested against real Go, not proved from fmt's source: count such statements apart). THE CARD IS WHAT COUNTS. Prove the row's statement (the work); the ties are given (YtkbmkgcenehenaaDoorTie.lean); close each card by the builder's one call (the guide's Derived/Test/ToyasCard.lean, 'card_holds'). Laid BY PROGRAM, IN A SANDBOX (cutbox-door.mjs). By AI agents, Wed Nov 11 2026. No macro, syntax, notation, axiom, sorry.
-/
import Derived.Test.YtkbmkgcenehenaaDoorRows
import GoSem.ClaimSeven
namespace Go.Proofs.YtkbmkgcenehenaaDoor
namespace Rows

/-- THE TIED CARD OF 'bitloftlaw28.MemberMakes'. -/
def memberMakesCard : Claim7 := { stood := { row := memberMakesRow, standIns := [], harness := (true, "65c14298005b1475f8dcfa8826feea96e8e7f784ad2ba486561ac271b3565835"), looks := true }, kinds := [], alts := [], laidByText := true, laidKinds := [.data], laidTests := true, laidLooks := .later }
def MemberMakesCardSaid : Prop := Claim7.holds Tryd.pinned (.plain (OpenSpec.ofChange memberMakesSpec)) memberMakesCard

/-- THE TIED CARD OF 'bitloftlaw28.MemberWrites'. -/
def memberWritesCard : Claim7 := { stood := { row := memberWritesRow, standIns := [], harness := (true, "65c14298005b1475f8dcfa8826feea96e8e7f784ad2ba486561ac271b3565835"), looks := true }, kinds := [], alts := [], laidByText := true, laidKinds := [.data], laidTests := true, laidLooks := .later }
def MemberWritesCardSaid : Prop := Claim7.holds Tryd.pinned (.plain (OpenSpec.ofChange memberWritesSpec)) memberWritesCard

/-- THE TIED CARD OF 'bitloftlaw28.MemberRight'. -/
def memberRightCard : Claim7 := { stood := { row := memberRightRow, standIns := [], harness := (true, "65c14298005b1475f8dcfa8826feea96e8e7f784ad2ba486561ac271b3565835"), looks := true }, kinds := [], alts := [], laidByText := true, laidKinds := [.data], laidTests := true, laidLooks := .later }
def MemberRightCardSaid : Prop := Claim7.holds Tryd.pinned (.plain (OpenSpec.ofChange memberRightSpec)) memberRightCard

/-- THE TIED CARD OF 'bitloftlaw28.MemberReads'. -/
def memberReadsCard : Claim7 := { stood := { row := memberReadsRow, standIns := [], harness := (true, "65c14298005b1475f8dcfa8826feea96e8e7f784ad2ba486561ac271b3565835"), looks := true }, kinds := [], alts := [], laidByText := true, laidKinds := [.handle, .data], laidTests := true, laidLooks := .later }
def MemberReadsCardSaid : Prop := Claim7.holds Tryd.pinned (.plain (OpenSpec.ofChange memberReadsSpec)) memberReadsCard

/-- THE TIED CARD OF 'bitloftlaw28.MemberBack'. -/
def memberBackCard : Claim7 := { stood := { row := memberBackRow, standIns := [], harness := (true, "65c14298005b1475f8dcfa8826feea96e8e7f784ad2ba486561ac271b3565835"), looks := true }, kinds := [], alts := [], laidByText := true, laidKinds := [.handle, .data], laidTests := true, laidLooks := .later }
def MemberBackCardSaid : Prop := Claim7.holds Tryd.pinned (.plain (OpenSpec.ofChange memberBackSpec)) memberBackCard

/-- THE TIED CARD OF 'bitloftlaw28.MemberNames'. -/
def memberNamesCard : Claim7 := { stood := { row := memberNamesRow, standIns := [], harness := (true, "65c14298005b1475f8dcfa8826feea96e8e7f784ad2ba486561ac271b3565835"), looks := true }, kinds := [], alts := [], laidByText := true, laidKinds := [.handle, .data], laidTests := true, laidLooks := .later }
def MemberNamesCardSaid : Prop := Claim7.holds Tryd.pinned (.plain (OpenSpec.ofChange memberNamesSpec)) memberNamesCard

/-- THE SECOND FORM's CARD OF 'bitloftlaw28.MemberMakes'. -/
def memberMakesUptoCard : Claim7 := { stood := { row := memberMakesUptoRow, standIns := [], harness := (true, "65c14298005b1475f8dcfa8826feea96e8e7f784ad2ba486561ac271b3565835"), looks := true }, kinds := [], alts := [], laidByText := true, laidKinds := [.data], laidTests := true, laidLooks := .later }
def MemberMakesUptoCardSaid : Prop := Claim7.holds Tryd.pinned (.plain (OpenSpec.upto memberMakesSpec)) memberMakesUptoCard

/-- THE SECOND FORM's CARD OF 'bitloftlaw28.MemberWrites'. -/
def memberWritesUptoCard : Claim7 := { stood := { row := memberWritesUptoRow, standIns := [], harness := (true, "65c14298005b1475f8dcfa8826feea96e8e7f784ad2ba486561ac271b3565835"), looks := true }, kinds := [], alts := [], laidByText := true, laidKinds := [.data], laidTests := true, laidLooks := .later }
def MemberWritesUptoCardSaid : Prop := Claim7.holds Tryd.pinned (.plain (OpenSpec.upto memberWritesSpec)) memberWritesUptoCard

/-- THE SECOND FORM's CARD OF 'bitloftlaw28.MemberRight'. -/
def memberRightUptoCard : Claim7 := { stood := { row := memberRightUptoRow, standIns := [], harness := (true, "65c14298005b1475f8dcfa8826feea96e8e7f784ad2ba486561ac271b3565835"), looks := true }, kinds := [], alts := [], laidByText := true, laidKinds := [.data], laidTests := true, laidLooks := .later }
def MemberRightUptoCardSaid : Prop := Claim7.holds Tryd.pinned (.plain (OpenSpec.upto memberRightSpec)) memberRightUptoCard

/-- THE SECOND FORM's CARD OF 'bitloftlaw28.MemberReads'. -/
def memberReadsUptoCard : Claim7 := { stood := { row := memberReadsUptoRow, standIns := [], harness := (true, "65c14298005b1475f8dcfa8826feea96e8e7f784ad2ba486561ac271b3565835"), looks := true }, kinds := [], alts := [], laidByText := true, laidKinds := [.handle, .data], laidTests := true, laidLooks := .later }
def MemberReadsUptoCardSaid : Prop := Claim7.holds Tryd.pinned (.plain (OpenSpec.upto memberReadsSpec)) memberReadsUptoCard

/-- THE SECOND FORM's CARD OF 'bitloftlaw28.MemberBack'. -/
def memberBackUptoCard : Claim7 := { stood := { row := memberBackUptoRow, standIns := [], harness := (true, "65c14298005b1475f8dcfa8826feea96e8e7f784ad2ba486561ac271b3565835"), looks := true }, kinds := [], alts := [], laidByText := true, laidKinds := [.handle, .data], laidTests := true, laidLooks := .later }
def MemberBackUptoCardSaid : Prop := Claim7.holds Tryd.pinned (.plain (OpenSpec.upto memberBackSpec)) memberBackUptoCard

/-- THE SECOND FORM's CARD OF 'bitloftlaw28.MemberNames'. -/
def memberNamesUptoCard : Claim7 := { stood := { row := memberNamesUptoRow, standIns := [], harness := (true, "65c14298005b1475f8dcfa8826feea96e8e7f784ad2ba486561ac271b3565835"), looks := true }, kinds := [], alts := [], laidByText := true, laidKinds := [.handle, .data], laidTests := true, laidLooks := .later }
def MemberNamesUptoCardSaid : Prop := Claim7.holds Tryd.pinned (.plain (OpenSpec.upto memberNamesSpec)) memberNamesUptoCard
end Rows
end Go.Proofs.YtkbmkgcenehenaaDoor
