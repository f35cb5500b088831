/-
  DERIVED. GIVEN WITH THE SEED: THE CARDS: each row of YtpafcjffkbihfaaDoorRows.lean that lists a variable, with what it lists TIED to the program's text (the seventh form; the later family's looks); each row that meets fmt, with fmt's text TOLD by the authors' own Lean function (tested against real Go, not proved from fmt's source: count such statements apart). THE CARD IS WHAT COUNTS. Prove the row's statement (the work); the ties are given (YtpafcjffkbihfaaDoorTie.lean); close each card by the builder's one call (the guide's Derived/Test/ToyasCard.lean, 'card_holds'). Laid BY PROGRAM, IN A SANDBOX (cutbox-door.mjs). By AI agents, Wed Nov 11 2026. No macro, syntax, notation, axiom, sorry.
-/
import Derived.Test.YtpafcjffkbihfaaDoorRows
import GoSem.ClaimSeven
namespace Go.Proofs.YtpafcjffkbihfaaDoor
namespace Rows

/-- THE TIED CARD OF 'bitloftlaw02.OctetWrites'. -/
def octetWritesCard : Claim7 := { stood := { row := octetWritesRow, standIns := [], harness := (true, "f39099cf1d62139205bc63a33d97bd772e6dbdae1546b15841778d3e3a335623"), looks := false }, kinds := [], alts := [], laidByText := true, laidKinds := [.data], laidTests := true, laidLooks := .later }
def OctetWritesCardSaid : Prop := Claim7.holds Tryd.pinned (.plain (OpenSpec.ofChange octetWritesSpec)) octetWritesCard

/-- THE TIED CARD OF 'bitloftlaw02.OctetOrder'. -/
def octetOrderCard : Claim7 := { stood := { row := octetOrderRow, standIns := [], harness := (true, "f39099cf1d62139205bc63a33d97bd772e6dbdae1546b15841778d3e3a335623"), looks := false }, kinds := [], alts := [], laidByText := true, laidKinds := [.data], laidTests := true, laidLooks := .later }
def OctetOrderCardSaid : Prop := Claim7.holds Tryd.pinned (.plain (OpenSpec.ofChange octetOrderSpec)) octetOrderCard

/-- THE TIED CARD OF 'bitloftlaw02.OctetMoves'. -/
def octetMovesCard : Claim7 := { stood := { row := octetMovesRow, standIns := [], harness := (true, "f39099cf1d62139205bc63a33d97bd772e6dbdae1546b15841778d3e3a335623"), looks := false }, kinds := [], alts := [], laidByText := true, laidKinds := [.data], laidTests := true, laidLooks := .later }
def OctetMovesCardSaid : Prop := Claim7.holds Tryd.pinned (.plain (OpenSpec.ofChange octetMovesSpec)) octetMovesCard

/-- THE TIED CARD OF 'bitloftlaw02.OctetNames'. -/
def octetNamesCard : Claim7 := { stood := { row := octetNamesRow, standIns := [], harness := (true, "f39099cf1d62139205bc63a33d97bd772e6dbdae1546b15841778d3e3a335623"), looks := false }, kinds := [], alts := [], laidByText := true, laidKinds := [.data], laidTests := true, laidLooks := .later }
def OctetNamesCardSaid : Prop := Claim7.holds Tryd.pinned (.plain (OpenSpec.ofChange octetNamesSpec)) octetNamesCard

/-- THE TIED CARD OF 'bitloftlaw02.OctetBack'. -/
def octetBackCard : Claim7 := { stood := { row := octetBackRow, standIns := [], harness := (true, "f39099cf1d62139205bc63a33d97bd772e6dbdae1546b15841778d3e3a335623"), looks := false }, kinds := [], alts := [], laidByText := true, laidKinds := [.data], laidTests := true, laidLooks := .later }
def OctetBackCardSaid : Prop := Claim7.holds Tryd.pinned (.plain (OpenSpec.ofChange octetBackSpec)) octetBackCard

/-- THE SECOND FORM's CARD OF 'bitloftlaw02.OctetWrites'. -/
def octetWritesUptoCard : Claim7 := { stood := { row := octetWritesUptoRow, standIns := [], harness := (true, "f39099cf1d62139205bc63a33d97bd772e6dbdae1546b15841778d3e3a335623"), looks := false }, kinds := [], alts := [], laidByText := true, laidKinds := [.data], laidTests := true, laidLooks := .later }
def OctetWritesUptoCardSaid : Prop := Claim7.holds Tryd.pinned (.plain (OpenSpec.upto octetWritesSpec)) octetWritesUptoCard

/-- THE SECOND FORM's CARD OF 'bitloftlaw02.OctetOrder'. -/
def octetOrderUptoCard : Claim7 := { stood := { row := octetOrderUptoRow, standIns := [], harness := (true, "f39099cf1d62139205bc63a33d97bd772e6dbdae1546b15841778d3e3a335623"), looks := false }, kinds := [], alts := [], laidByText := true, laidKinds := [.data], laidTests := true, laidLooks := .later }
def OctetOrderUptoCardSaid : Prop := Claim7.holds Tryd.pinned (.plain (OpenSpec.upto octetOrderSpec)) octetOrderUptoCard

/-- THE SECOND FORM's CARD OF 'bitloftlaw02.OctetMoves'. -/
def octetMovesUptoCard : Claim7 := { stood := { row := octetMovesUptoRow, standIns := [], harness := (true, "f39099cf1d62139205bc63a33d97bd772e6dbdae1546b15841778d3e3a335623"), looks := false }, kinds := [], alts := [], laidByText := true, laidKinds := [.data], laidTests := true, laidLooks := .later }
def OctetMovesUptoCardSaid : Prop := Claim7.holds Tryd.pinned (.plain (OpenSpec.upto octetMovesSpec)) octetMovesUptoCard

/-- THE SECOND FORM's CARD OF 'bitloftlaw02.OctetNames'. -/
def octetNamesUptoCard : Claim7 := { stood := { row := octetNamesUptoRow, standIns := [], harness := (true, "f39099cf1d62139205bc63a33d97bd772e6dbdae1546b15841778d3e3a335623"), looks := false }, kinds := [], alts := [], laidByText := true, laidKinds := [.data], laidTests := true, laidLooks := .later }
def OctetNamesUptoCardSaid : Prop := Claim7.holds Tryd.pinned (.plain (OpenSpec.upto octetNamesSpec)) octetNamesUptoCard

/-- THE SECOND FORM's CARD OF 'bitloftlaw02.OctetBack'. -/
def octetBackUptoCard : Claim7 := { stood := { row := octetBackUptoRow, standIns := [], harness := (true, "f39099cf1d62139205bc63a33d97bd772e6dbdae1546b15841778d3e3a335623"), looks := false }, kinds := [], alts := [], laidByText := true, laidKinds := [.data], laidTests := true, laidLooks := .later }
def OctetBackUptoCardSaid : Prop := Claim7.holds Tryd.pinned (.plain (OpenSpec.upto octetBackSpec)) octetBackUptoCard
end Rows
end Go.Proofs.YtpafcjffkbihfaaDoor
