/-
  DERIVED. GIVEN WITH THE SEED: THE CARDS: each row of YtamgmbmjbegfgaaDoorRows.lean that lists a variable, with what it lists TIED to the program's text (the seventh form; the later family's looks); each row that meets fmt, with fmt's text TOLD by the authors' own Lean function (tested against real Go, not proved from fmt's source: count such statements apart). THE CARD IS WHAT COUNTS. Prove the row's statement (the work); the ties are given (YtamgmbmjbegfgaaDoorTie.lean); close each card by the builder's one call (the guide's Derived/Test/ToyasCard.lean, 'card_holds'). Laid BY PROGRAM, IN A SANDBOX (cutbox-door.mjs). By AI agents, Wed Nov 11 2026. No macro, syntax, notation, axiom, sorry.
-/
import Derived.Test.YtamgmbmjbegfgaaDoorRows
import GoSem.ClaimSeven
namespace Go.Proofs.YtamgmbmjbegfgaaDoor
namespace Rows

/-- THE TIED CARD OF 'waterlinelaw01.WordFields'. -/
def wordFieldsCard : Claim7 := { stood := { row := wordFieldsRow, standIns := [], harness := (true, "07d771aedfa1bf558717cfd52acd92e599fbbd2e7b4f0271496256e17b045ea2"), looks := false }, kinds := [], alts := [], laidByText := true, laidKinds := [.data], laidTests := true, laidLooks := .later }
def WordFieldsCardSaid : Prop := Claim7.holds Tryd.pinned (.plain (OpenSpec.ofChange wordFieldsSpec)) wordFieldsCard

/-- THE TIED CARD OF 'waterlinelaw01.WordBytes'. -/
def wordBytesCard : Claim7 := { stood := { row := wordBytesRow, standIns := [], harness := (true, "07d771aedfa1bf558717cfd52acd92e599fbbd2e7b4f0271496256e17b045ea2"), looks := false }, kinds := [], alts := [], laidByText := true, laidKinds := [.data], laidTests := true, laidLooks := .later }
def WordBytesCardSaid : Prop := Claim7.holds Tryd.pinned (.plain (OpenSpec.ofChange wordBytesSpec)) wordBytesCard

/-- THE TIED CARD OF 'waterlinelaw01.WordTails'. -/
def wordTailsCard : Claim7 := { stood := { row := wordTailsRow, standIns := [], harness := (true, "07d771aedfa1bf558717cfd52acd92e599fbbd2e7b4f0271496256e17b045ea2"), looks := false }, kinds := [], alts := [], laidByText := true, laidKinds := [.data], laidTests := true, laidLooks := .later }
def WordTailsCardSaid : Prop := Claim7.holds Tryd.pinned (.plain (OpenSpec.ofChange wordTailsSpec)) wordTailsCard

/-- THE TIED CARD OF 'waterlinelaw01.WordJoins'. -/
def wordJoinsCard : Claim7 := { stood := { row := wordJoinsRow, standIns := [], harness := (true, "07d771aedfa1bf558717cfd52acd92e599fbbd2e7b4f0271496256e17b045ea2"), looks := false }, kinds := [], alts := [], laidByText := true, laidKinds := [.data], laidTests := true, laidLooks := .later }
def WordJoinsCardSaid : Prop := Claim7.holds Tryd.pinned (.plain (OpenSpec.ofChange wordJoinsSpec)) wordJoinsCard

/-- THE TIED CARD OF 'waterlinelaw01.WordBits'. -/
def wordBitsCard : Claim7 := { stood := { row := wordBitsRow, standIns := [], harness := (true, "07d771aedfa1bf558717cfd52acd92e599fbbd2e7b4f0271496256e17b045ea2"), looks := false }, kinds := [], alts := [], laidByText := true, laidKinds := [.data], laidTests := true, laidLooks := .later }
def WordBitsCardSaid : Prop := Claim7.holds Tryd.pinned (.plain (OpenSpec.ofChange wordBitsSpec)) wordBitsCard

/-- THE TIED CARD OF 'waterlinelaw01.WordHolds'. -/
def wordHoldsCard : Claim7 := { stood := { row := wordHoldsRow, standIns := [], harness := (true, "07d771aedfa1bf558717cfd52acd92e599fbbd2e7b4f0271496256e17b045ea2"), looks := false }, kinds := [], alts := [], laidByText := true, laidKinds := [.data], laidTests := true, laidLooks := .later }
def WordHoldsCardSaid : Prop := Claim7.holds Tryd.pinned (.plain (OpenSpec.ofChange wordHoldsSpec)) wordHoldsCard

/-- THE TIED CARD OF 'waterlinelaw01.WordTwice'. -/
def wordTwiceCard : Claim7 := { stood := { row := wordTwiceRow, standIns := [], harness := (true, "07d771aedfa1bf558717cfd52acd92e599fbbd2e7b4f0271496256e17b045ea2"), looks := false }, kinds := [], alts := [], laidByText := true, laidKinds := [.data], laidTests := true, laidLooks := .later }
def WordTwiceCardSaid : Prop := Claim7.holds Tryd.pinned (.plain (OpenSpec.ofChange wordTwiceSpec)) wordTwiceCard

/-- THE SECOND FORM's CARD OF 'waterlinelaw01.WordFields'. -/
def wordFieldsUptoCard : Claim7 := { stood := { row := wordFieldsUptoRow, standIns := [], harness := (true, "07d771aedfa1bf558717cfd52acd92e599fbbd2e7b4f0271496256e17b045ea2"), looks := false }, kinds := [], alts := [], laidByText := true, laidKinds := [.data], laidTests := true, laidLooks := .later }
def WordFieldsUptoCardSaid : Prop := Claim7.holds Tryd.pinned (.plain (OpenSpec.upto wordFieldsSpec)) wordFieldsUptoCard

/-- THE SECOND FORM's CARD OF 'waterlinelaw01.WordBytes'. -/
def wordBytesUptoCard : Claim7 := { stood := { row := wordBytesUptoRow, standIns := [], harness := (true, "07d771aedfa1bf558717cfd52acd92e599fbbd2e7b4f0271496256e17b045ea2"), looks := false }, kinds := [], alts := [], laidByText := true, laidKinds := [.data], laidTests := true, laidLooks := .later }
def WordBytesUptoCardSaid : Prop := Claim7.holds Tryd.pinned (.plain (OpenSpec.upto wordBytesSpec)) wordBytesUptoCard

/-- THE SECOND FORM's CARD OF 'waterlinelaw01.WordTails'. -/
def wordTailsUptoCard : Claim7 := { stood := { row := wordTailsUptoRow, standIns := [], harness := (true, "07d771aedfa1bf558717cfd52acd92e599fbbd2e7b4f0271496256e17b045ea2"), looks := false }, kinds := [], alts := [], laidByText := true, laidKinds := [.data], laidTests := true, laidLooks := .later }
def WordTailsUptoCardSaid : Prop := Claim7.holds Tryd.pinned (.plain (OpenSpec.upto wordTailsSpec)) wordTailsUptoCard

/-- THE SECOND FORM's CARD OF 'waterlinelaw01.WordJoins'. -/
def wordJoinsUptoCard : Claim7 := { stood := { row := wordJoinsUptoRow, standIns := [], harness := (true, "07d771aedfa1bf558717cfd52acd92e599fbbd2e7b4f0271496256e17b045ea2"), looks := false }, kinds := [], alts := [], laidByText := true, laidKinds := [.data], laidTests := true, laidLooks := .later }
def WordJoinsUptoCardSaid : Prop := Claim7.holds Tryd.pinned (.plain (OpenSpec.upto wordJoinsSpec)) wordJoinsUptoCard

/-- THE SECOND FORM's CARD OF 'waterlinelaw01.WordBits'. -/
def wordBitsUptoCard : Claim7 := { stood := { row := wordBitsUptoRow, standIns := [], harness := (true, "07d771aedfa1bf558717cfd52acd92e599fbbd2e7b4f0271496256e17b045ea2"), looks := false }, kinds := [], alts := [], laidByText := true, laidKinds := [.data], laidTests := true, laidLooks := .later }
def WordBitsUptoCardSaid : Prop := Claim7.holds Tryd.pinned (.plain (OpenSpec.upto wordBitsSpec)) wordBitsUptoCard

/-- THE SECOND FORM's CARD OF 'waterlinelaw01.WordHolds'. -/
def wordHoldsUptoCard : Claim7 := { stood := { row := wordHoldsUptoRow, standIns := [], harness := (true, "07d771aedfa1bf558717cfd52acd92e599fbbd2e7b4f0271496256e17b045ea2"), looks := false }, kinds := [], alts := [], laidByText := true, laidKinds := [.data], laidTests := true, laidLooks := .later }
def WordHoldsUptoCardSaid : Prop := Claim7.holds Tryd.pinned (.plain (OpenSpec.upto wordHoldsSpec)) wordHoldsUptoCard

/-- THE SECOND FORM's CARD OF 'waterlinelaw01.WordTwice'. -/
def wordTwiceUptoCard : Claim7 := { stood := { row := wordTwiceUptoRow, standIns := [], harness := (true, "07d771aedfa1bf558717cfd52acd92e599fbbd2e7b4f0271496256e17b045ea2"), looks := false }, kinds := [], alts := [], laidByText := true, laidKinds := [.data], laidTests := true, laidLooks := .later }
def WordTwiceUptoCardSaid : Prop := Claim7.holds Tryd.pinned (.plain (OpenSpec.upto wordTwiceSpec)) wordTwiceUptoCard
end Rows
end Go.Proofs.YtamgmbmjbegfgaaDoor
