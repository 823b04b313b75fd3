/-
  NARROWER THAN 'FOR EVERY INPUT', by the rows' own cells (each row's printed sentence says how): BigDivs: laid · BigReads: laid · BigRing: laid · BigShares: laid · BigFloor: laid · BigTexts: laid · BigOrder: laid · BigSmall: laid · BigTells: laid · BigKnown: laid.
  DERIVED. THE GIVEN ROWS OF THIS SEAT. 10 by the template 'for every input the law returns true; each argument reads behind the call as it read before'; 0 by the template 'total and deterministic' (their statements: YtmajcjdhhnhmmaaDoorTotals.lean).
  GIVEN WITH THE SEED: the statements are not yours to turn. If you find one false, say at which input.
  Laid BY PROGRAM, IN A SANDBOX (cutbox-rows.mjs): the forced cells as the released guide's own fill.sh prints them over the translation 0f5888e4b748d782… (all of the seat's roots in one cut). By AI agents, Wed Nov 11 2026. No macro, syntax, notation, axiom, sorry.
-/
import Derived.Test.YtmajcjdhhnhmmaaDoorChecked
import GoSem.PinnedTables
import GoSem.Claim
import GoSem.ClaimJoined
import GoSem.ClaimMapViews
import Derived.JoinedTies
import Derived.KernelRfl
namespace Go.Proofs.YtmajcjdhhnhmmaaDoor
/- THE CELL 'sum', in the pinned program and in every row, IS THE sha256 OF THE DUMP (.gsa) THAT YtmajcjdhhnhmmaaDoorProg.lean LOADS. Nothing in Lean hashes anything: it is a label: what it is worth is what the hold of that sum in a sandbox is worth. -/
noncomputable def Tryd.pinned : Pinned := { name := "ytmajcjdhhnhmmaadoor", sum := "0f5888e4b748d7821f9afc97ac4a0ec3e2ce5df1b3d76594a7d6358a3e5afce9", checked := Tryd.checked }
namespace Rows
def none {H : Type} : Left H := { results := [], args := [] }

/- WHAT THE LISTED PACKAGE-LEVEL VARIABLES READ AS WHEN THE CALL BEGINS. Each datum BY PROGRAM (the guide's laid-datum.mjs) off the statement by which the dump's own 'gosem.cut.vars' lays the variable. In a bare row this is a premise. The card (YtmajcjdhhnhmmaaDoorCards.lean) ties it to the program's text. -/
def laid_unicode_utf8_acceptRanges {H : Type} : DataW H := .agg [.agg [.lit (.int .u8 128), .lit (.int .u8 191)], .agg [.lit (.int .u8 160), .lit (.int .u8 191)], .agg [.lit (.int .u8 128), .lit (.int .u8 159)], .agg [.lit (.int .u8 144), .lit (.int .u8 191)], .agg [.lit (.int .u8 128), .lit (.int .u8 143)], .agg [.lit (.int .u8 0), .lit (.int .u8 0)], .agg [.lit (.int .u8 0), .lit (.int .u8 0)], .agg [.lit (.int .u8 0), .lit (.int .u8 0)], .agg [.lit (.int .u8 0), .lit (.int .u8 0)], .agg [.lit (.int .u8 0), .lit (.int .u8 0)], .agg [.lit (.int .u8 0), .lit (.int .u8 0)], .agg [.lit (.int .u8 0), .lit (.int .u8 0)], .agg [.lit (.int .u8 0), .lit (.int .u8 0)], .agg [.lit (.int .u8 0), .lit (.int .u8 0)], .agg [.lit (.int .u8 0), .lit (.int .u8 0)], .agg [.lit (.int .u8 0), .lit (.int .u8 0)]]
/-- One of Go's own tables, pinned by name: the form's constant. -/
def laid_unicode_utf8_first : DataW Unit := Go.Pinned.utf8First

/-- 'litmuslaw02.BigDivs': WHATEVER THE INPUT: true; the input reads as it did. -/
def bigDivsSpec : ChangeSpec := { name := "bigDivs", fn := fun _ => fun
  | [d1, d2, d3] => { results := [.lit (.bool true)], args := [d1, d2, d3] }
  | _ => none }
def bigDivsRow : OpenClaim := { program := "ytmajcjdhhnhmmaadoor", sum := "0f5888e4b748d7821f9afc97ac4a0ec3e2ce5df1b3d76594a7d6358a3e5afce9", func := "litmus/litmuslaw02.BigDivs", spec := "bigDivs", inPlace := ["internal/bytealg.IndexByteString", "internal/bytealg.IndexString"], unfollowed := true, recurses := true, named := ["unicode/utf8.first", "unicode/utf8.acceptRanges", "internal/bytealg.MaxLen"], apart := false, laid := [("unicode/utf8.acceptRanges", laid_unicode_utf8_acceptRanges), ("unicode/utf8.first", laid_unicode_utf8_first)] }
def BigDivsSaid : Prop := bigDivsRow.holds Tryd.pinned (OpenSpec.ofChange bigDivsSpec)

/-- ITS FALSE NEIGHBOUR: 'it returns false'. Refute it at one input. -/
def bigDivsWrong : ChangeSpec := { name := "bigDivs", fn := fun _ => fun
  | [d1, d2, d3] => { results := [.lit (.bool false)], args := [d1, d2, d3] }
  | _ => none }
def BigDivsWrongFalsely : Prop := bigDivsRow.holds Tryd.pinned (OpenSpec.ofChange bigDivsWrong)

/-- 'litmuslaw02.BigReads': WHATEVER THE INPUT: true; the input reads as it did. -/
def bigReadsSpec : ChangeSpec := { name := "bigReads", fn := fun _ => fun
  | [d1, d2, d3] => { results := [.lit (.bool true)], args := [d1, d2, d3] }
  | _ => none }
def bigReadsRow : OpenClaim := { program := "ytmajcjdhhnhmmaadoor", sum := "0f5888e4b748d7821f9afc97ac4a0ec3e2ce5df1b3d76594a7d6358a3e5afce9", func := "litmus/litmuslaw02.BigReads", spec := "bigReads", inPlace := ["internal/bytealg.IndexByteString", "internal/bytealg.IndexString"], unfollowed := true, recurses := true, named := ["unicode/utf8.first", "unicode/utf8.acceptRanges", "internal/bytealg.MaxLen"], apart := false, laid := [("unicode/utf8.acceptRanges", laid_unicode_utf8_acceptRanges), ("unicode/utf8.first", laid_unicode_utf8_first)] }
def BigReadsSaid : Prop := bigReadsRow.holds Tryd.pinned (OpenSpec.ofChange bigReadsSpec)

/-- ITS FALSE NEIGHBOUR: 'it returns false'. Refute it at one input. -/
def bigReadsWrong : ChangeSpec := { name := "bigReads", fn := fun _ => fun
  | [d1, d2, d3] => { results := [.lit (.bool false)], args := [d1, d2, d3] }
  | _ => none }
def BigReadsWrongFalsely : Prop := bigReadsRow.holds Tryd.pinned (OpenSpec.ofChange bigReadsWrong)

/-- 'litmuslaw02.BigRing': WHATEVER THE INPUT: true; the input reads as it did. -/
def bigRingSpec : ChangeSpec := { name := "bigRing", fn := fun _ => fun
  | [d1, d2] => { results := [.lit (.bool true)], args := [d1, d2] }
  | _ => none }
def bigRingRow : OpenClaim := { program := "ytmajcjdhhnhmmaadoor", sum := "0f5888e4b748d7821f9afc97ac4a0ec3e2ce5df1b3d76594a7d6358a3e5afce9", func := "litmus/litmuslaw02.BigRing", spec := "bigRing", inPlace := ["internal/bytealg.IndexByteString", "internal/bytealg.IndexString"], unfollowed := true, recurses := true, named := ["unicode/utf8.first", "unicode/utf8.acceptRanges", "internal/bytealg.MaxLen"], apart := false, laid := [("unicode/utf8.acceptRanges", laid_unicode_utf8_acceptRanges), ("unicode/utf8.first", laid_unicode_utf8_first)] }
def BigRingSaid : Prop := bigRingRow.holds Tryd.pinned (OpenSpec.ofChange bigRingSpec)

/-- ITS FALSE NEIGHBOUR: 'it returns false'. Refute it at one input. -/
def bigRingWrong : ChangeSpec := { name := "bigRing", fn := fun _ => fun
  | [d1, d2] => { results := [.lit (.bool false)], args := [d1, d2] }
  | _ => none }
def BigRingWrongFalsely : Prop := bigRingRow.holds Tryd.pinned (OpenSpec.ofChange bigRingWrong)

/-- 'litmuslaw02.BigShares': WHATEVER THE INPUT: true; the input reads as it did. -/
def bigSharesSpec : ChangeSpec := { name := "bigShares", fn := fun _ => fun
  | [d1, d2] => { results := [.lit (.bool true)], args := [d1, d2] }
  | _ => none }
def bigSharesRow : OpenClaim := { program := "ytmajcjdhhnhmmaadoor", sum := "0f5888e4b748d7821f9afc97ac4a0ec3e2ce5df1b3d76594a7d6358a3e5afce9", func := "litmus/litmuslaw02.BigShares", spec := "bigShares", inPlace := ["internal/bytealg.IndexByteString", "internal/bytealg.IndexString"], unfollowed := true, recurses := true, named := ["unicode/utf8.first", "unicode/utf8.acceptRanges", "internal/bytealg.MaxLen"], apart := false, laid := [("unicode/utf8.acceptRanges", laid_unicode_utf8_acceptRanges), ("unicode/utf8.first", laid_unicode_utf8_first)] }
def BigSharesSaid : Prop := bigSharesRow.holds Tryd.pinned (OpenSpec.ofChange bigSharesSpec)

/-- ITS FALSE NEIGHBOUR: 'it returns false'. Refute it at one input. -/
def bigSharesWrong : ChangeSpec := { name := "bigShares", fn := fun _ => fun
  | [d1, d2] => { results := [.lit (.bool false)], args := [d1, d2] }
  | _ => none }
def BigSharesWrongFalsely : Prop := bigSharesRow.holds Tryd.pinned (OpenSpec.ofChange bigSharesWrong)

/-- 'litmuslaw02.BigFloor': WHATEVER THE INPUT: true; the input reads as it did. -/
def bigFloorSpec : ChangeSpec := { name := "bigFloor", fn := fun _ => fun
  | [d] => { results := [.lit (.bool true)], args := [d] }
  | _ => none }
def bigFloorRow : OpenClaim := { program := "ytmajcjdhhnhmmaadoor", sum := "0f5888e4b748d7821f9afc97ac4a0ec3e2ce5df1b3d76594a7d6358a3e5afce9", func := "litmus/litmuslaw02.BigFloor", spec := "bigFloor", inPlace := ["internal/bytealg.IndexByteString", "internal/bytealg.IndexString"], unfollowed := true, recurses := true, named := ["unicode/utf8.first", "unicode/utf8.acceptRanges", "internal/bytealg.MaxLen"], apart := false, laid := [("unicode/utf8.acceptRanges", laid_unicode_utf8_acceptRanges), ("unicode/utf8.first", laid_unicode_utf8_first)] }
def BigFloorSaid : Prop := bigFloorRow.holds Tryd.pinned (OpenSpec.ofChange bigFloorSpec)

/-- ITS FALSE NEIGHBOUR: 'it returns false'. Refute it at one input. -/
def bigFloorWrong : ChangeSpec := { name := "bigFloor", fn := fun _ => fun
  | [d] => { results := [.lit (.bool false)], args := [d] }
  | _ => none }
def BigFloorWrongFalsely : Prop := bigFloorRow.holds Tryd.pinned (OpenSpec.ofChange bigFloorWrong)

/-- 'litmuslaw02.BigTexts': WHATEVER THE INPUT: true; the input reads as it did. -/
def bigTextsSpec : ChangeSpec := { name := "bigTexts", fn := fun _ => fun
  | [d1, d2] => { results := [.lit (.bool true)], args := [d1, d2] }
  | _ => none }
def bigTextsRow : OpenClaim := { program := "ytmajcjdhhnhmmaadoor", sum := "0f5888e4b748d7821f9afc97ac4a0ec3e2ce5df1b3d76594a7d6358a3e5afce9", func := "litmus/litmuslaw02.BigTexts", spec := "bigTexts", inPlace := ["internal/bytealg.IndexByteString", "internal/bytealg.IndexString"], unfollowed := true, recurses := true, named := ["unicode/utf8.first", "unicode/utf8.acceptRanges", "internal/bytealg.MaxLen"], apart := false, laid := [("unicode/utf8.acceptRanges", laid_unicode_utf8_acceptRanges), ("unicode/utf8.first", laid_unicode_utf8_first)] }
def BigTextsSaid : Prop := bigTextsRow.holds Tryd.pinned (OpenSpec.ofChange bigTextsSpec)

/-- ITS FALSE NEIGHBOUR: 'it returns false'. Refute it at one input. -/
def bigTextsWrong : ChangeSpec := { name := "bigTexts", fn := fun _ => fun
  | [d1, d2] => { results := [.lit (.bool false)], args := [d1, d2] }
  | _ => none }
def BigTextsWrongFalsely : Prop := bigTextsRow.holds Tryd.pinned (OpenSpec.ofChange bigTextsWrong)

/-- 'litmuslaw02.BigOrder': WHATEVER THE INPUT: true; the input reads as it did. -/
def bigOrderSpec : ChangeSpec := { name := "bigOrder", fn := fun _ => fun
  | [d1, d2, d3] => { results := [.lit (.bool true)], args := [d1, d2, d3] }
  | _ => none }
def bigOrderRow : OpenClaim := { program := "ytmajcjdhhnhmmaadoor", sum := "0f5888e4b748d7821f9afc97ac4a0ec3e2ce5df1b3d76594a7d6358a3e5afce9", func := "litmus/litmuslaw02.BigOrder", spec := "bigOrder", inPlace := ["internal/bytealg.IndexByteString", "internal/bytealg.IndexString"], unfollowed := true, recurses := true, named := ["unicode/utf8.first", "unicode/utf8.acceptRanges", "internal/bytealg.MaxLen"], apart := false, laid := [("unicode/utf8.acceptRanges", laid_unicode_utf8_acceptRanges), ("unicode/utf8.first", laid_unicode_utf8_first)] }
def BigOrderSaid : Prop := bigOrderRow.holds Tryd.pinned (OpenSpec.ofChange bigOrderSpec)

/-- ITS FALSE NEIGHBOUR: 'it returns false'. Refute it at one input. -/
def bigOrderWrong : ChangeSpec := { name := "bigOrder", fn := fun _ => fun
  | [d1, d2, d3] => { results := [.lit (.bool false)], args := [d1, d2, d3] }
  | _ => none }
def BigOrderWrongFalsely : Prop := bigOrderRow.holds Tryd.pinned (OpenSpec.ofChange bigOrderWrong)

/-- 'litmuslaw02.BigSmall': WHATEVER THE INPUT: true; the input reads as it did. -/
def bigSmallSpec : ChangeSpec := { name := "bigSmall", fn := fun _ => fun
  | [d1, d2, d3] => { results := [.lit (.bool true)], args := [d1, d2, d3] }
  | _ => none }
def bigSmallRow : OpenClaim := { program := "ytmajcjdhhnhmmaadoor", sum := "0f5888e4b748d7821f9afc97ac4a0ec3e2ce5df1b3d76594a7d6358a3e5afce9", func := "litmus/litmuslaw02.BigSmall", spec := "bigSmall", inPlace := ["internal/bytealg.IndexByteString", "internal/bytealg.IndexString"], unfollowed := true, recurses := true, named := ["unicode/utf8.first", "unicode/utf8.acceptRanges", "internal/bytealg.MaxLen"], apart := false, laid := [("unicode/utf8.acceptRanges", laid_unicode_utf8_acceptRanges), ("unicode/utf8.first", laid_unicode_utf8_first)] }
def BigSmallSaid : Prop := bigSmallRow.holds Tryd.pinned (OpenSpec.ofChange bigSmallSpec)

/-- ITS FALSE NEIGHBOUR: 'it returns false'. Refute it at one input. -/
def bigSmallWrong : ChangeSpec := { name := "bigSmall", fn := fun _ => fun
  | [d1, d2, d3] => { results := [.lit (.bool false)], args := [d1, d2, d3] }
  | _ => none }
def BigSmallWrongFalsely : Prop := bigSmallRow.holds Tryd.pinned (OpenSpec.ofChange bigSmallWrong)

/-- 'litmuslaw02.BigTells': WHATEVER THE INPUT: true; the input reads as it did. -/
def bigTellsSpec : ChangeSpec := { name := "bigTells", fn := fun _ => fun
  | [d1, d2, d3] => { results := [.lit (.bool true)], args := [d1, d2, d3] }
  | _ => none }
def bigTellsRow : OpenClaim := { program := "ytmajcjdhhnhmmaadoor", sum := "0f5888e4b748d7821f9afc97ac4a0ec3e2ce5df1b3d76594a7d6358a3e5afce9", func := "litmus/litmuslaw02.BigTells", spec := "bigTells", inPlace := ["internal/bytealg.IndexByteString", "internal/bytealg.IndexString"], unfollowed := true, recurses := true, named := ["unicode/utf8.first", "unicode/utf8.acceptRanges", "internal/bytealg.MaxLen"], apart := false, laid := [("unicode/utf8.acceptRanges", laid_unicode_utf8_acceptRanges), ("unicode/utf8.first", laid_unicode_utf8_first)] }
def BigTellsSaid : Prop := bigTellsRow.holds Tryd.pinned (OpenSpec.ofChange bigTellsSpec)

/-- ITS FALSE NEIGHBOUR: 'it returns false'. Refute it at one input. -/
def bigTellsWrong : ChangeSpec := { name := "bigTells", fn := fun _ => fun
  | [d1, d2, d3] => { results := [.lit (.bool false)], args := [d1, d2, d3] }
  | _ => none }
def BigTellsWrongFalsely : Prop := bigTellsRow.holds Tryd.pinned (OpenSpec.ofChange bigTellsWrong)

/-- 'litmuslaw02.BigKnown': WHATEVER THE INPUT: true; the input reads as it did. -/
def bigKnownSpec : ChangeSpec := { name := "bigKnown", fn := fun _ => fun
  | [] => { results := [.lit (.bool true)], args := [] }
  | _ => none }
def bigKnownRow : OpenClaim := { program := "ytmajcjdhhnhmmaadoor", sum := "0f5888e4b748d7821f9afc97ac4a0ec3e2ce5df1b3d76594a7d6358a3e5afce9", func := "litmus/litmuslaw02.BigKnown", spec := "bigKnown", inPlace := ["internal/bytealg.IndexByteString", "internal/bytealg.IndexString"], unfollowed := true, recurses := true, named := ["unicode/utf8.first", "unicode/utf8.acceptRanges", "internal/bytealg.MaxLen"], apart := false, laid := [("unicode/utf8.acceptRanges", laid_unicode_utf8_acceptRanges), ("unicode/utf8.first", laid_unicode_utf8_first)] }
def BigKnownSaid : Prop := bigKnownRow.holds Tryd.pinned (OpenSpec.ofChange bigKnownSpec)

/-- ITS FALSE NEIGHBOUR: 'it returns false'. Refute it at one input. -/
def bigKnownWrong : ChangeSpec := { name := "bigKnown", fn := fun _ => fun
  | [] => { results := [.lit (.bool false)], args := [] }
  | _ => none }
def BigKnownWrongFalsely : Prop := bigKnownRow.holds Tryd.pinned (OpenSpec.ofChange bigKnownWrong)

/- THE SECOND FORM. 'bulk': how many values and letters a reading holds, each counted each time it is reached (what is shared counts as often as it is met; a slice's spare places count too). A statement '..UptoSaid' is the law's where the arguments, and the package variables that the reading takes, are together of bulk at most 1048576: NARROWER than '..Said'. Prove '..Said' where nothing that the law and all that it calls make is longer than what came in: it says more and counts as full. Else prove '..UptoSaid'. A law counts once. -/
mutual
def uptoBulk {H : Type} : DataW H → Nat
  | .lit (.string bytes) => bytes.length + 1
  | .lit _ => 1
  | .nil => 1
  | .ptr d => uptoBulk d + 1
  | .slice elems spare => uptoBulkAll elems + uptoBulkAll spare + 1
  | .agg parts => uptoBulkAll parts + 1
  | .iface _ d => uptoBulk d + 1
  | .map entries => uptoBulkEntries entries + 1
  | .held _ => 1
def uptoBulkAll {H : Type} : List (DataW H) → Nat
  | [] => 0
  | d :: r => uptoBulk d + uptoBulkAll r
def uptoBulkEntries {H : Type} : List (Lit × DataW H) → Nat
  | [] => 0
  | x :: r => uptoBulkEntry x + uptoBulkEntries r
def uptoBulkEntry {H : Type} : Lit × DataW H → Nat
  | (.string bytes, d) => bytes.length + uptoBulk d + 1
  | (_, d) => uptoBulk d + 1
 end
def uptoSmall : (H : Type) → List (DataW H) → Bool := fun _ ds => decide (uptoBulkAll ds ≤ 1048576)
def OpenSpec.upto (s : _root_.Go.ChangeSpec) : _root_.Go.OpenSpec := { _root_.Go.OpenSpec.ofChange s with cond := some uptoSmall }

/-- 'litmuslaw02.BigDivs', WHERE WHAT IT READS IS OF BULK AT MOST 1048576: true; the input reads as it did. -/
def bigDivsUptoRow : OpenClaim := { program := "ytmajcjdhhnhmmaadoor", sum := "0f5888e4b748d7821f9afc97ac4a0ec3e2ce5df1b3d76594a7d6358a3e5afce9", func := "litmus/litmuslaw02.BigDivs", spec := "bigDivs", inPlace := ["internal/bytealg.IndexByteString", "internal/bytealg.IndexString"], unfollowed := true, recurses := true, named := ["unicode/utf8.first", "unicode/utf8.acceptRanges", "internal/bytealg.MaxLen"], apart := false, laid := [("unicode/utf8.acceptRanges", laid_unicode_utf8_acceptRanges), ("unicode/utf8.first", laid_unicode_utf8_first)], narrowed := true }
def BigDivsUptoSaid : Prop := bigDivsUptoRow.holds Tryd.pinned (OpenSpec.upto bigDivsSpec)

/-- 'litmuslaw02.BigReads', WHERE WHAT IT READS IS OF BULK AT MOST 1048576: true; the input reads as it did. -/
def bigReadsUptoRow : OpenClaim := { program := "ytmajcjdhhnhmmaadoor", sum := "0f5888e4b748d7821f9afc97ac4a0ec3e2ce5df1b3d76594a7d6358a3e5afce9", func := "litmus/litmuslaw02.BigReads", spec := "bigReads", inPlace := ["internal/bytealg.IndexByteString", "internal/bytealg.IndexString"], unfollowed := true, recurses := true, named := ["unicode/utf8.first", "unicode/utf8.acceptRanges", "internal/bytealg.MaxLen"], apart := false, laid := [("unicode/utf8.acceptRanges", laid_unicode_utf8_acceptRanges), ("unicode/utf8.first", laid_unicode_utf8_first)], narrowed := true }
def BigReadsUptoSaid : Prop := bigReadsUptoRow.holds Tryd.pinned (OpenSpec.upto bigReadsSpec)

/-- 'litmuslaw02.BigRing', WHERE WHAT IT READS IS OF BULK AT MOST 1048576: true; the input reads as it did. -/
def bigRingUptoRow : OpenClaim := { program := "ytmajcjdhhnhmmaadoor", sum := "0f5888e4b748d7821f9afc97ac4a0ec3e2ce5df1b3d76594a7d6358a3e5afce9", func := "litmus/litmuslaw02.BigRing", spec := "bigRing", inPlace := ["internal/bytealg.IndexByteString", "internal/bytealg.IndexString"], unfollowed := true, recurses := true, named := ["unicode/utf8.first", "unicode/utf8.acceptRanges", "internal/bytealg.MaxLen"], apart := false, laid := [("unicode/utf8.acceptRanges", laid_unicode_utf8_acceptRanges), ("unicode/utf8.first", laid_unicode_utf8_first)], narrowed := true }
def BigRingUptoSaid : Prop := bigRingUptoRow.holds Tryd.pinned (OpenSpec.upto bigRingSpec)

/-- 'litmuslaw02.BigShares', WHERE WHAT IT READS IS OF BULK AT MOST 1048576: true; the input reads as it did. -/
def bigSharesUptoRow : OpenClaim := { program := "ytmajcjdhhnhmmaadoor", sum := "0f5888e4b748d7821f9afc97ac4a0ec3e2ce5df1b3d76594a7d6358a3e5afce9", func := "litmus/litmuslaw02.BigShares", spec := "bigShares", inPlace := ["internal/bytealg.IndexByteString", "internal/bytealg.IndexString"], unfollowed := true, recurses := true, named := ["unicode/utf8.first", "unicode/utf8.acceptRanges", "internal/bytealg.MaxLen"], apart := false, laid := [("unicode/utf8.acceptRanges", laid_unicode_utf8_acceptRanges), ("unicode/utf8.first", laid_unicode_utf8_first)], narrowed := true }
def BigSharesUptoSaid : Prop := bigSharesUptoRow.holds Tryd.pinned (OpenSpec.upto bigSharesSpec)

/-- 'litmuslaw02.BigFloor', WHERE WHAT IT READS IS OF BULK AT MOST 1048576: true; the input reads as it did. -/
def bigFloorUptoRow : OpenClaim := { program := "ytmajcjdhhnhmmaadoor", sum := "0f5888e4b748d7821f9afc97ac4a0ec3e2ce5df1b3d76594a7d6358a3e5afce9", func := "litmus/litmuslaw02.BigFloor", spec := "bigFloor", inPlace := ["internal/bytealg.IndexByteString", "internal/bytealg.IndexString"], unfollowed := true, recurses := true, named := ["unicode/utf8.first", "unicode/utf8.acceptRanges", "internal/bytealg.MaxLen"], apart := false, laid := [("unicode/utf8.acceptRanges", laid_unicode_utf8_acceptRanges), ("unicode/utf8.first", laid_unicode_utf8_first)], narrowed := true }
def BigFloorUptoSaid : Prop := bigFloorUptoRow.holds Tryd.pinned (OpenSpec.upto bigFloorSpec)

/-- 'litmuslaw02.BigTexts', WHERE WHAT IT READS IS OF BULK AT MOST 1048576: true; the input reads as it did. -/
def bigTextsUptoRow : OpenClaim := { program := "ytmajcjdhhnhmmaadoor", sum := "0f5888e4b748d7821f9afc97ac4a0ec3e2ce5df1b3d76594a7d6358a3e5afce9", func := "litmus/litmuslaw02.BigTexts", spec := "bigTexts", inPlace := ["internal/bytealg.IndexByteString", "internal/bytealg.IndexString"], unfollowed := true, recurses := true, named := ["unicode/utf8.first", "unicode/utf8.acceptRanges", "internal/bytealg.MaxLen"], apart := false, laid := [("unicode/utf8.acceptRanges", laid_unicode_utf8_acceptRanges), ("unicode/utf8.first", laid_unicode_utf8_first)], narrowed := true }
def BigTextsUptoSaid : Prop := bigTextsUptoRow.holds Tryd.pinned (OpenSpec.upto bigTextsSpec)

/-- 'litmuslaw02.BigOrder', WHERE WHAT IT READS IS OF BULK AT MOST 1048576: true; the input reads as it did. -/
def bigOrderUptoRow : OpenClaim := { program := "ytmajcjdhhnhmmaadoor", sum := "0f5888e4b748d7821f9afc97ac4a0ec3e2ce5df1b3d76594a7d6358a3e5afce9", func := "litmus/litmuslaw02.BigOrder", spec := "bigOrder", inPlace := ["internal/bytealg.IndexByteString", "internal/bytealg.IndexString"], unfollowed := true, recurses := true, named := ["unicode/utf8.first", "unicode/utf8.acceptRanges", "internal/bytealg.MaxLen"], apart := false, laid := [("unicode/utf8.acceptRanges", laid_unicode_utf8_acceptRanges), ("unicode/utf8.first", laid_unicode_utf8_first)], narrowed := true }
def BigOrderUptoSaid : Prop := bigOrderUptoRow.holds Tryd.pinned (OpenSpec.upto bigOrderSpec)

/-- 'litmuslaw02.BigSmall', WHERE WHAT IT READS IS OF BULK AT MOST 1048576: true; the input reads as it did. -/
def bigSmallUptoRow : OpenClaim := { program := "ytmajcjdhhnhmmaadoor", sum := "0f5888e4b748d7821f9afc97ac4a0ec3e2ce5df1b3d76594a7d6358a3e5afce9", func := "litmus/litmuslaw02.BigSmall", spec := "bigSmall", inPlace := ["internal/bytealg.IndexByteString", "internal/bytealg.IndexString"], unfollowed := true, recurses := true, named := ["unicode/utf8.first", "unicode/utf8.acceptRanges", "internal/bytealg.MaxLen"], apart := false, laid := [("unicode/utf8.acceptRanges", laid_unicode_utf8_acceptRanges), ("unicode/utf8.first", laid_unicode_utf8_first)], narrowed := true }
def BigSmallUptoSaid : Prop := bigSmallUptoRow.holds Tryd.pinned (OpenSpec.upto bigSmallSpec)

/-- 'litmuslaw02.BigTells', WHERE WHAT IT READS IS OF BULK AT MOST 1048576: true; the input reads as it did. -/
def bigTellsUptoRow : OpenClaim := { program := "ytmajcjdhhnhmmaadoor", sum := "0f5888e4b748d7821f9afc97ac4a0ec3e2ce5df1b3d76594a7d6358a3e5afce9", func := "litmus/litmuslaw02.BigTells", spec := "bigTells", inPlace := ["internal/bytealg.IndexByteString", "internal/bytealg.IndexString"], unfollowed := true, recurses := true, named := ["unicode/utf8.first", "unicode/utf8.acceptRanges", "internal/bytealg.MaxLen"], apart := false, laid := [("unicode/utf8.acceptRanges", laid_unicode_utf8_acceptRanges), ("unicode/utf8.first", laid_unicode_utf8_first)], narrowed := true }
def BigTellsUptoSaid : Prop := bigTellsUptoRow.holds Tryd.pinned (OpenSpec.upto bigTellsSpec)

/-- 'litmuslaw02.BigKnown', WHERE WHAT IT READS IS OF BULK AT MOST 1048576: true; the input reads as it did. -/
def bigKnownUptoRow : OpenClaim := { program := "ytmajcjdhhnhmmaadoor", sum := "0f5888e4b748d7821f9afc97ac4a0ec3e2ce5df1b3d76594a7d6358a3e5afce9", func := "litmus/litmuslaw02.BigKnown", spec := "bigKnown", inPlace := ["internal/bytealg.IndexByteString", "internal/bytealg.IndexString"], unfollowed := true, recurses := true, named := ["unicode/utf8.first", "unicode/utf8.acceptRanges", "internal/bytealg.MaxLen"], apart := false, laid := [("unicode/utf8.acceptRanges", laid_unicode_utf8_acceptRanges), ("unicode/utf8.first", laid_unicode_utf8_first)], narrowed := true }
def BigKnownUptoSaid : Prop := bigKnownUptoRow.holds Tryd.pinned (OpenSpec.upto bigKnownSpec)

end Rows
end Go.Proofs.YtmajcjdhhnhmmaaDoor
