/-
  DERIVED. GIVEN WITH THE SEED: THE CARDS: each row of YtmajcjdhhnhmmaaDoorRows.lean that lists a variable, with what it lists TIED to the program's text (the seventh form; the later family's looks); each row that meets fmt, with fmt's text TOLD by the authors' own Lean function (tested against real Go, not proved from fmt's source: count such statements apart). THE CARD IS WHAT COUNTS. Prove the row's statement (the work); the ties are given (YtmajcjdhhnhmmaaDoorTie.lean); close each card by the builder's one call (the guide's Derived/Test/ToyasCard.lean, 'card_holds'). Laid BY PROGRAM, IN A SANDBOX (cutbox-door.mjs). By AI agents, Wed Nov 11 2026. No macro, syntax, notation, axiom, sorry.
-/
import Derived.Test.YtmajcjdhhnhmmaaDoorRows
import GoSem.ClaimSeven
namespace Go.Proofs.YtmajcjdhhnhmmaaDoor
namespace Rows

/-- THE TIED CARD OF 'litmuslaw02.BigDivs'. -/
def bigDivsCard : Claim7 := { stood := { row := bigDivsRow, standIns := [], harness := (true, "25303b479983dfd7ce851f87b5c3326e71cf7819c43c0d89f4a45dcbf18d6eec"), looks := false }, kinds := [], alts := [], laidByText := true, laidKinds := [.data, .pinned], laidTests := true, laidLooks := .later }
def BigDivsCardSaid : Prop := Claim7.holds Tryd.pinned (.plain (OpenSpec.ofChange bigDivsSpec)) bigDivsCard

/-- THE TIED CARD OF 'litmuslaw02.BigReads'. -/
def bigReadsCard : Claim7 := { stood := { row := bigReadsRow, standIns := [], harness := (true, "25303b479983dfd7ce851f87b5c3326e71cf7819c43c0d89f4a45dcbf18d6eec"), looks := false }, kinds := [], alts := [], laidByText := true, laidKinds := [.data, .pinned], laidTests := true, laidLooks := .later }
def BigReadsCardSaid : Prop := Claim7.holds Tryd.pinned (.plain (OpenSpec.ofChange bigReadsSpec)) bigReadsCard

/-- THE TIED CARD OF 'litmuslaw02.BigRing'. -/
def bigRingCard : Claim7 := { stood := { row := bigRingRow, standIns := [], harness := (true, "25303b479983dfd7ce851f87b5c3326e71cf7819c43c0d89f4a45dcbf18d6eec"), looks := false }, kinds := [], alts := [], laidByText := true, laidKinds := [.data, .pinned], laidTests := true, laidLooks := .later }
def BigRingCardSaid : Prop := Claim7.holds Tryd.pinned (.plain (OpenSpec.ofChange bigRingSpec)) bigRingCard

/-- THE TIED CARD OF 'litmuslaw02.BigShares'. -/
def bigSharesCard : Claim7 := { stood := { row := bigSharesRow, standIns := [], harness := (true, "25303b479983dfd7ce851f87b5c3326e71cf7819c43c0d89f4a45dcbf18d6eec"), looks := false }, kinds := [], alts := [], laidByText := true, laidKinds := [.data, .pinned], laidTests := true, laidLooks := .later }
def BigSharesCardSaid : Prop := Claim7.holds Tryd.pinned (.plain (OpenSpec.ofChange bigSharesSpec)) bigSharesCard

/-- THE TIED CARD OF 'litmuslaw02.BigFloor'. -/
def bigFloorCard : Claim7 := { stood := { row := bigFloorRow, standIns := [], harness := (true, "25303b479983dfd7ce851f87b5c3326e71cf7819c43c0d89f4a45dcbf18d6eec"), looks := false }, kinds := [], alts := [], laidByText := true, laidKinds := [.data, .pinned], laidTests := true, laidLooks := .later }
def BigFloorCardSaid : Prop := Claim7.holds Tryd.pinned (.plain (OpenSpec.ofChange bigFloorSpec)) bigFloorCard

/-- THE TIED CARD OF 'litmuslaw02.BigTexts'. -/
def bigTextsCard : Claim7 := { stood := { row := bigTextsRow, standIns := [], harness := (true, "25303b479983dfd7ce851f87b5c3326e71cf7819c43c0d89f4a45dcbf18d6eec"), looks := false }, kinds := [], alts := [], laidByText := true, laidKinds := [.data, .pinned], laidTests := true, laidLooks := .later }
def BigTextsCardSaid : Prop := Claim7.holds Tryd.pinned (.plain (OpenSpec.ofChange bigTextsSpec)) bigTextsCard

/-- THE TIED CARD OF 'litmuslaw02.BigOrder'. -/
def bigOrderCard : Claim7 := { stood := { row := bigOrderRow, standIns := [], harness := (true, "25303b479983dfd7ce851f87b5c3326e71cf7819c43c0d89f4a45dcbf18d6eec"), looks := false }, kinds := [], alts := [], laidByText := true, laidKinds := [.data, .pinned], laidTests := true, laidLooks := .later }
def BigOrderCardSaid : Prop := Claim7.holds Tryd.pinned (.plain (OpenSpec.ofChange bigOrderSpec)) bigOrderCard

/-- THE TIED CARD OF 'litmuslaw02.BigSmall'. -/
def bigSmallCard : Claim7 := { stood := { row := bigSmallRow, standIns := [], harness := (true, "25303b479983dfd7ce851f87b5c3326e71cf7819c43c0d89f4a45dcbf18d6eec"), looks := false }, kinds := [], alts := [], laidByText := true, laidKinds := [.data, .pinned], laidTests := true, laidLooks := .later }
def BigSmallCardSaid : Prop := Claim7.holds Tryd.pinned (.plain (OpenSpec.ofChange bigSmallSpec)) bigSmallCard

/-- THE TIED CARD OF 'litmuslaw02.BigTells'. -/
def bigTellsCard : Claim7 := { stood := { row := bigTellsRow, standIns := [], harness := (true, "25303b479983dfd7ce851f87b5c3326e71cf7819c43c0d89f4a45dcbf18d6eec"), looks := false }, kinds := [], alts := [], laidByText := true, laidKinds := [.data, .pinned], laidTests := true, laidLooks := .later }
def BigTellsCardSaid : Prop := Claim7.holds Tryd.pinned (.plain (OpenSpec.ofChange bigTellsSpec)) bigTellsCard

/-- THE TIED CARD OF 'litmuslaw02.BigKnown'. -/
def bigKnownCard : Claim7 := { stood := { row := bigKnownRow, standIns := [], harness := (true, "25303b479983dfd7ce851f87b5c3326e71cf7819c43c0d89f4a45dcbf18d6eec"), looks := false }, kinds := [], alts := [], laidByText := true, laidKinds := [.data, .pinned], laidTests := true, laidLooks := .later }
def BigKnownCardSaid : Prop := Claim7.holds Tryd.pinned (.plain (OpenSpec.ofChange bigKnownSpec)) bigKnownCard

/-- THE SECOND FORM's CARD OF 'litmuslaw02.BigDivs'. -/
def bigDivsUptoCard : Claim7 := { stood := { row := bigDivsUptoRow, standIns := [], harness := (true, "25303b479983dfd7ce851f87b5c3326e71cf7819c43c0d89f4a45dcbf18d6eec"), looks := false }, kinds := [], alts := [], laidByText := true, laidKinds := [.data, .pinned], laidTests := true, laidLooks := .later }
def BigDivsUptoCardSaid : Prop := Claim7.holds Tryd.pinned (.plain (OpenSpec.upto bigDivsSpec)) bigDivsUptoCard

/-- THE SECOND FORM's CARD OF 'litmuslaw02.BigReads'. -/
def bigReadsUptoCard : Claim7 := { stood := { row := bigReadsUptoRow, standIns := [], harness := (true, "25303b479983dfd7ce851f87b5c3326e71cf7819c43c0d89f4a45dcbf18d6eec"), looks := false }, kinds := [], alts := [], laidByText := true, laidKinds := [.data, .pinned], laidTests := true, laidLooks := .later }
def BigReadsUptoCardSaid : Prop := Claim7.holds Tryd.pinned (.plain (OpenSpec.upto bigReadsSpec)) bigReadsUptoCard

/-- THE SECOND FORM's CARD OF 'litmuslaw02.BigRing'. -/
def bigRingUptoCard : Claim7 := { stood := { row := bigRingUptoRow, standIns := [], harness := (true, "25303b479983dfd7ce851f87b5c3326e71cf7819c43c0d89f4a45dcbf18d6eec"), looks := false }, kinds := [], alts := [], laidByText := true, laidKinds := [.data, .pinned], laidTests := true, laidLooks := .later }
def BigRingUptoCardSaid : Prop := Claim7.holds Tryd.pinned (.plain (OpenSpec.upto bigRingSpec)) bigRingUptoCard

/-- THE SECOND FORM's CARD OF 'litmuslaw02.BigShares'. -/
def bigSharesUptoCard : Claim7 := { stood := { row := bigSharesUptoRow, standIns := [], harness := (true, "25303b479983dfd7ce851f87b5c3326e71cf7819c43c0d89f4a45dcbf18d6eec"), looks := false }, kinds := [], alts := [], laidByText := true, laidKinds := [.data, .pinned], laidTests := true, laidLooks := .later }
def BigSharesUptoCardSaid : Prop := Claim7.holds Tryd.pinned (.plain (OpenSpec.upto bigSharesSpec)) bigSharesUptoCard

/-- THE SECOND FORM's CARD OF 'litmuslaw02.BigFloor'. -/
def bigFloorUptoCard : Claim7 := { stood := { row := bigFloorUptoRow, standIns := [], harness := (true, "25303b479983dfd7ce851f87b5c3326e71cf7819c43c0d89f4a45dcbf18d6eec"), looks := false }, kinds := [], alts := [], laidByText := true, laidKinds := [.data, .pinned], laidTests := true, laidLooks := .later }
def BigFloorUptoCardSaid : Prop := Claim7.holds Tryd.pinned (.plain (OpenSpec.upto bigFloorSpec)) bigFloorUptoCard

/-- THE SECOND FORM's CARD OF 'litmuslaw02.BigTexts'. -/
def bigTextsUptoCard : Claim7 := { stood := { row := bigTextsUptoRow, standIns := [], harness := (true, "25303b479983dfd7ce851f87b5c3326e71cf7819c43c0d89f4a45dcbf18d6eec"), looks := false }, kinds := [], alts := [], laidByText := true, laidKinds := [.data, .pinned], laidTests := true, laidLooks := .later }
def BigTextsUptoCardSaid : Prop := Claim7.holds Tryd.pinned (.plain (OpenSpec.upto bigTextsSpec)) bigTextsUptoCard

/-- THE SECOND FORM's CARD OF 'litmuslaw02.BigOrder'. -/
def bigOrderUptoCard : Claim7 := { stood := { row := bigOrderUptoRow, standIns := [], harness := (true, "25303b479983dfd7ce851f87b5c3326e71cf7819c43c0d89f4a45dcbf18d6eec"), looks := false }, kinds := [], alts := [], laidByText := true, laidKinds := [.data, .pinned], laidTests := true, laidLooks := .later }
def BigOrderUptoCardSaid : Prop := Claim7.holds Tryd.pinned (.plain (OpenSpec.upto bigOrderSpec)) bigOrderUptoCard

/-- THE SECOND FORM's CARD OF 'litmuslaw02.BigSmall'. -/
def bigSmallUptoCard : Claim7 := { stood := { row := bigSmallUptoRow, standIns := [], harness := (true, "25303b479983dfd7ce851f87b5c3326e71cf7819c43c0d89f4a45dcbf18d6eec"), looks := false }, kinds := [], alts := [], laidByText := true, laidKinds := [.data, .pinned], laidTests := true, laidLooks := .later }
def BigSmallUptoCardSaid : Prop := Claim7.holds Tryd.pinned (.plain (OpenSpec.upto bigSmallSpec)) bigSmallUptoCard

/-- THE SECOND FORM's CARD OF 'litmuslaw02.BigTells'. -/
def bigTellsUptoCard : Claim7 := { stood := { row := bigTellsUptoRow, standIns := [], harness := (true, "25303b479983dfd7ce851f87b5c3326e71cf7819c43c0d89f4a45dcbf18d6eec"), looks := false }, kinds := [], alts := [], laidByText := true, laidKinds := [.data, .pinned], laidTests := true, laidLooks := .later }
def BigTellsUptoCardSaid : Prop := Claim7.holds Tryd.pinned (.plain (OpenSpec.upto bigTellsSpec)) bigTellsUptoCard

/-- THE SECOND FORM's CARD OF 'litmuslaw02.BigKnown'. -/
def bigKnownUptoCard : Claim7 := { stood := { row := bigKnownUptoRow, standIns := [], harness := (true, "25303b479983dfd7ce851f87b5c3326e71cf7819c43c0d89f4a45dcbf18d6eec"), looks := false }, kinds := [], alts := [], laidByText := true, laidKinds := [.data, .pinned], laidTests := true, laidLooks := .later }
def BigKnownUptoCardSaid : Prop := Claim7.holds Tryd.pinned (.plain (OpenSpec.upto bigKnownSpec)) bigKnownUptoCard
end Rows
end Go.Proofs.YtmajcjdhhnhmmaaDoor
