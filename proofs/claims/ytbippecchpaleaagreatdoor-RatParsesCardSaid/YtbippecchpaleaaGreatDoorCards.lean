/-
  DERIVED. GIVEN WITH THE SEED: THE CARDS: each row of YtbippecchpaleaaGreatDoorRows.lean that lists a variable, with what it lists TIED to the program's text (the seventh form; the later family's looks); each row that meets fmt, with fmt's text TOLD by the authors' own Lean function (tested against real Go, not proved from fmt's source: count such statements apart). THE CARD IS WHAT COUNTS. Prove the row's statement (the work); the ties are given (YtbippecchpaleaaGreatDoorTie.lean); close each card by the builder's one call (the guide's Derived/Test/ToyasCard.lean, 'card_holds'). Laid BY PROGRAM, IN A SANDBOX (cutbox-door.mjs). By AI agents, Wed Nov 11 2026. No macro, syntax, notation, axiom, sorry.
-/
import Derived.Test.YtbippecchpaleaaGreatDoorRows
import GoSem.ClaimSeven
namespace Go.Proofs.YtbippecchpaleaaGreatDoor
namespace Rows

/-- THE TIED CARD OF 'litmuslaw03.RatTells'. -/
def ratTellsCard : Claim7 := { stood := { row := ratTellsRow, standIns := [], harness := (true, "c77720da3e9c82da10884732fa40152e96510ac7f08f4ebca5e102c2edf57e4f"), looks := false }, kinds := [], alts := [], laidByText := true, laidKinds := [.data, .pinned], laidTests := true, laidLooks := .later }
def RatTellsCardSaid : Prop := Claim7.holds Tryz.pinned (.plain (OpenSpec.ofChange ratTellsSpec)) ratTellsCard

/-- THE TIED CARD OF 'litmuslaw03.RatKnown'. -/
def ratKnownCard : Claim7 := { stood := { row := ratKnownRow, standIns := [], harness := (true, "c77720da3e9c82da10884732fa40152e96510ac7f08f4ebca5e102c2edf57e4f"), looks := false }, kinds := [], alts := [], laidByText := true, laidKinds := [.data, .pinned], laidTests := true, laidLooks := .later }
def RatKnownCardSaid : Prop := Claim7.holds Tryz.pinned (.plain (OpenSpec.ofChange ratKnownSpec)) ratKnownCard

/-- THE TIED CARD OF 'litmuslaw03.RatMakes'. -/
def ratMakesCard : Claim7 := { stood := { row := ratMakesRow, standIns := [], harness := (true, "c77720da3e9c82da10884732fa40152e96510ac7f08f4ebca5e102c2edf57e4f"), looks := false }, kinds := [], alts := [], laidByText := true, laidKinds := [.data, .pinned], laidTests := true, laidLooks := .later }
def RatMakesCardSaid : Prop := Claim7.holds Tryz.pinned (.plain (OpenSpec.ofChange ratMakesSpec)) ratMakesCard

/-- THE TIED CARD OF 'litmuslaw03.RatParses'. -/
def ratParsesCard : Claim7 := { stood := { row := ratParsesRow, standIns := [], harness := (true, "c77720da3e9c82da10884732fa40152e96510ac7f08f4ebca5e102c2edf57e4f"), looks := false }, kinds := [], alts := [], laidByText := true, laidKinds := [.data, .pinned], laidTests := true, laidLooks := .later }
def RatParsesCardSaid : Prop := Claim7.holds Tryz.pinned (.plain (OpenSpec.ofChange ratParsesSpec)) ratParsesCard

/-- THE TIED CARD OF 'litmuslaw03.RatShares'. -/
def ratSharesCard : Claim7 := { stood := { row := ratSharesRow, standIns := [], harness := (true, "c77720da3e9c82da10884732fa40152e96510ac7f08f4ebca5e102c2edf57e4f"), looks := false }, kinds := [], alts := [], laidByText := true, laidKinds := [.data, .pinned], laidTests := true, laidLooks := .later }
def RatSharesCardSaid : Prop := Claim7.holds Tryz.pinned (.plain (OpenSpec.ofChange ratSharesSpec)) ratSharesCard

/-- THE TIED CARD OF 'litmuslaw03.RatWhole'. -/
def ratWholeCard : Claim7 := { stood := { row := ratWholeRow, standIns := [], harness := (true, "c77720da3e9c82da10884732fa40152e96510ac7f08f4ebca5e102c2edf57e4f"), looks := false }, kinds := [], alts := [], laidByText := true, laidKinds := [.data, .pinned], laidTests := true, laidLooks := .later }
def RatWholeCardSaid : Prop := Claim7.holds Tryz.pinned (.plain (OpenSpec.ofChange ratWholeSpec)) ratWholeCard

/-- THE TIED CARD OF 'litmuslaw03.RatField'. -/
def ratFieldCard : Claim7 := { stood := { row := ratFieldRow, standIns := [], harness := (true, "c77720da3e9c82da10884732fa40152e96510ac7f08f4ebca5e102c2edf57e4f"), looks := false }, kinds := [], alts := [], laidByText := true, laidKinds := [.data, .pinned], laidTests := true, laidLooks := .later }
def RatFieldCardSaid : Prop := Claim7.holds Tryz.pinned (.plain (OpenSpec.ofChange ratFieldSpec)) ratFieldCard

/-- THE TIED CARD OF 'litmuslaw03.RatOrder'. -/
def ratOrderCard : Claim7 := { stood := { row := ratOrderRow, standIns := [], harness := (true, "c77720da3e9c82da10884732fa40152e96510ac7f08f4ebca5e102c2edf57e4f"), looks := false }, kinds := [], alts := [], laidByText := true, laidKinds := [.data, .pinned], laidTests := true, laidLooks := .later }
def RatOrderCardSaid : Prop := Claim7.holds Tryz.pinned (.plain (OpenSpec.ofChange ratOrderSpec)) ratOrderCard

/-- THE TIED CARD OF 'litmuslaw03.RatTexts'. -/
def ratTextsCard : Claim7 := { stood := { row := ratTextsRow, standIns := [], harness := (true, "c77720da3e9c82da10884732fa40152e96510ac7f08f4ebca5e102c2edf57e4f"), looks := false }, kinds := [], alts := [], laidByText := true, laidKinds := [.data, .pinned], laidTests := true, laidLooks := .later }
def RatTextsCardSaid : Prop := Claim7.holds Tryz.pinned (.plain (OpenSpec.ofChange ratTextsSpec)) ratTextsCard

/-- THE SECOND FORM's CARD OF 'litmuslaw03.RatTells'. -/
def ratTellsUptoCard : Claim7 := { stood := { row := ratTellsUptoRow, standIns := [], harness := (true, "c77720da3e9c82da10884732fa40152e96510ac7f08f4ebca5e102c2edf57e4f"), looks := false }, kinds := [], alts := [], laidByText := true, laidKinds := [.data, .pinned], laidTests := true, laidLooks := .later }
def RatTellsUptoCardSaid : Prop := Claim7.holds Tryz.pinned (.plain (OpenSpec.upto ratTellsSpec)) ratTellsUptoCard

/-- THE SECOND FORM's CARD OF 'litmuslaw03.RatKnown'. -/
def ratKnownUptoCard : Claim7 := { stood := { row := ratKnownUptoRow, standIns := [], harness := (true, "c77720da3e9c82da10884732fa40152e96510ac7f08f4ebca5e102c2edf57e4f"), looks := false }, kinds := [], alts := [], laidByText := true, laidKinds := [.data, .pinned], laidTests := true, laidLooks := .later }
def RatKnownUptoCardSaid : Prop := Claim7.holds Tryz.pinned (.plain (OpenSpec.upto ratKnownSpec)) ratKnownUptoCard

/-- THE SECOND FORM's CARD OF 'litmuslaw03.RatMakes'. -/
def ratMakesUptoCard : Claim7 := { stood := { row := ratMakesUptoRow, standIns := [], harness := (true, "c77720da3e9c82da10884732fa40152e96510ac7f08f4ebca5e102c2edf57e4f"), looks := false }, kinds := [], alts := [], laidByText := true, laidKinds := [.data, .pinned], laidTests := true, laidLooks := .later }
def RatMakesUptoCardSaid : Prop := Claim7.holds Tryz.pinned (.plain (OpenSpec.upto ratMakesSpec)) ratMakesUptoCard

/-- THE SECOND FORM's CARD OF 'litmuslaw03.RatParses'. -/
def ratParsesUptoCard : Claim7 := { stood := { row := ratParsesUptoRow, standIns := [], harness := (true, "c77720da3e9c82da10884732fa40152e96510ac7f08f4ebca5e102c2edf57e4f"), looks := false }, kinds := [], alts := [], laidByText := true, laidKinds := [.data, .pinned], laidTests := true, laidLooks := .later }
def RatParsesUptoCardSaid : Prop := Claim7.holds Tryz.pinned (.plain (OpenSpec.upto ratParsesSpec)) ratParsesUptoCard

/-- THE SECOND FORM's CARD OF 'litmuslaw03.RatShares'. -/
def ratSharesUptoCard : Claim7 := { stood := { row := ratSharesUptoRow, standIns := [], harness := (true, "c77720da3e9c82da10884732fa40152e96510ac7f08f4ebca5e102c2edf57e4f"), looks := false }, kinds := [], alts := [], laidByText := true, laidKinds := [.data, .pinned], laidTests := true, laidLooks := .later }
def RatSharesUptoCardSaid : Prop := Claim7.holds Tryz.pinned (.plain (OpenSpec.upto ratSharesSpec)) ratSharesUptoCard

/-- THE SECOND FORM's CARD OF 'litmuslaw03.RatWhole'. -/
def ratWholeUptoCard : Claim7 := { stood := { row := ratWholeUptoRow, standIns := [], harness := (true, "c77720da3e9c82da10884732fa40152e96510ac7f08f4ebca5e102c2edf57e4f"), looks := false }, kinds := [], alts := [], laidByText := true, laidKinds := [.data, .pinned], laidTests := true, laidLooks := .later }
def RatWholeUptoCardSaid : Prop := Claim7.holds Tryz.pinned (.plain (OpenSpec.upto ratWholeSpec)) ratWholeUptoCard

/-- THE SECOND FORM's CARD OF 'litmuslaw03.RatField'. -/
def ratFieldUptoCard : Claim7 := { stood := { row := ratFieldUptoRow, standIns := [], harness := (true, "c77720da3e9c82da10884732fa40152e96510ac7f08f4ebca5e102c2edf57e4f"), looks := false }, kinds := [], alts := [], laidByText := true, laidKinds := [.data, .pinned], laidTests := true, laidLooks := .later }
def RatFieldUptoCardSaid : Prop := Claim7.holds Tryz.pinned (.plain (OpenSpec.upto ratFieldSpec)) ratFieldUptoCard

/-- THE SECOND FORM's CARD OF 'litmuslaw03.RatOrder'. -/
def ratOrderUptoCard : Claim7 := { stood := { row := ratOrderUptoRow, standIns := [], harness := (true, "c77720da3e9c82da10884732fa40152e96510ac7f08f4ebca5e102c2edf57e4f"), looks := false }, kinds := [], alts := [], laidByText := true, laidKinds := [.data, .pinned], laidTests := true, laidLooks := .later }
def RatOrderUptoCardSaid : Prop := Claim7.holds Tryz.pinned (.plain (OpenSpec.upto ratOrderSpec)) ratOrderUptoCard

/-- THE SECOND FORM's CARD OF 'litmuslaw03.RatTexts'. -/
def ratTextsUptoCard : Claim7 := { stood := { row := ratTextsUptoRow, standIns := [], harness := (true, "c77720da3e9c82da10884732fa40152e96510ac7f08f4ebca5e102c2edf57e4f"), looks := false }, kinds := [], alts := [], laidByText := true, laidKinds := [.data, .pinned], laidTests := true, laidLooks := .later }
def RatTextsUptoCardSaid : Prop := Claim7.holds Tryz.pinned (.plain (OpenSpec.upto ratTextsSpec)) ratTextsUptoCard
end Rows
end Go.Proofs.YtbippecchpaleaaGreatDoor
