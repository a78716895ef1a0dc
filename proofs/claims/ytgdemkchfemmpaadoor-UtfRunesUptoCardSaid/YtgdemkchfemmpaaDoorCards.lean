/-
  DERIVED. GIVEN WITH THE SEED: THE CARDS: each row of YtgdemkchfemmpaaDoorRows.lean that lists a variable, with what it lists TIED to the program's text (the seventh form; the later family's looks); each row that meets fmt, with fmt's text TOLD by the authors' own Lean function (tested against real Go, not proved from fmt's source: count such statements apart). THE CARD IS WHAT COUNTS. Prove the row's statement (the work); the ties are given (YtgdemkchfemmpaaDoorTie.lean); close each card by the builder's one call (the guide's Derived/Test/ToyasCard.lean, 'card_holds'). Laid BY PROGRAM, IN A SANDBOX (cutbox-door.mjs). By AI agents, Wed Nov 11 2026. No macro, syntax, notation, axiom, sorry.
-/
import Derived.Test.YtgdemkchfemmpaaDoorRows
import GoSem.ClaimSeven
namespace Go.Proofs.YtgdemkchfemmpaaDoor
namespace Rows

/-- THE TIED CARD OF 'commonplacelaw01.UtfValid'. -/
def utfValidCard : Claim7 := { stood := { row := utfValidRow, standIns := [], harness := (true, "3bd9bce602d205904a52bd575bcf2ca4e087a51ae8e3bd273efb31cbc75eeea9"), looks := false }, kinds := [], alts := [], laidByText := true, laidKinds := [.data, .pinned], laidTests := true, laidLooks := .later }
def UtfValidCardSaid : Prop := Claim7.holds Tryd.pinned (.plain (OpenSpec.ofChange utfValidSpec)) utfValidCard

/-- THE TIED CARD OF 'commonplacelaw01.UtfQuotes'. -/
def utfQuotesCard : Claim7 := { stood := { row := utfQuotesRow, standIns := [], harness := (true, "3bd9bce602d205904a52bd575bcf2ca4e087a51ae8e3bd273efb31cbc75eeea9"), looks := false }, kinds := [], alts := [], laidByText := true, laidKinds := [.data, .pinned], laidTests := true, laidLooks := .later }
def UtfQuotesCardSaid : Prop := Claim7.holds Tryd.pinned (.plain (OpenSpec.ofChange utfQuotesSpec)) utfQuotesCard

/-- THE TIED CARD OF 'commonplacelaw01.UtfReads'. -/
def utfReadsCard : Claim7 := { stood := { row := utfReadsRow, standIns := [], harness := (true, "3bd9bce602d205904a52bd575bcf2ca4e087a51ae8e3bd273efb31cbc75eeea9"), looks := false }, kinds := [], alts := [], laidByText := true, laidKinds := [.data, .pinned], laidTests := true, laidLooks := .later }
def UtfReadsCardSaid : Prop := Claim7.holds Tryd.pinned (.plain (OpenSpec.ofChange utfReadsSpec)) utfReadsCard

/-- THE TIED CARD OF 'commonplacelaw01.UtfBack'. -/
def utfBackCard : Claim7 := { stood := { row := utfBackRow, standIns := [], harness := (true, "3bd9bce602d205904a52bd575bcf2ca4e087a51ae8e3bd273efb31cbc75eeea9"), looks := false }, kinds := [], alts := [], laidByText := true, laidKinds := [.data, .pinned], laidTests := true, laidLooks := .later }
def UtfBackCardSaid : Prop := Claim7.holds Tryd.pinned (.plain (OpenSpec.ofChange utfBackSpec)) utfBackCard

/-- THE TIED CARD OF 'commonplacelaw01.UtfHalves'. -/
def utfHalvesCard : Claim7 := { stood := { row := utfHalvesRow, standIns := [], harness := (true, "3bd9bce602d205904a52bd575bcf2ca4e087a51ae8e3bd273efb31cbc75eeea9"), looks := false }, kinds := [], alts := [], laidByText := true, laidKinds := [.data, .pinned], laidTests := true, laidLooks := .later }
def UtfHalvesCardSaid : Prop := Claim7.holds Tryd.pinned (.plain (OpenSpec.ofChange utfHalvesSpec)) utfHalvesCard

/-- THE TIED CARD OF 'commonplacelaw01.UtfRunes'. -/
def utfRunesCard : Claim7 := { stood := { row := utfRunesRow, standIns := [], harness := (true, "3bd9bce602d205904a52bd575bcf2ca4e087a51ae8e3bd273efb31cbc75eeea9"), looks := false }, kinds := [], alts := [], laidByText := true, laidKinds := [.data, .pinned], laidTests := true, laidLooks := .later }
def UtfRunesCardSaid : Prop := Claim7.holds Tryd.pinned (.plain (OpenSpec.ofChange utfRunesSpec)) utfRunesCard

/-- THE SECOND FORM's CARD OF 'commonplacelaw01.UtfValid'. -/
def utfValidUptoCard : Claim7 := { stood := { row := utfValidUptoRow, standIns := [], harness := (true, "3bd9bce602d205904a52bd575bcf2ca4e087a51ae8e3bd273efb31cbc75eeea9"), looks := false }, kinds := [], alts := [], laidByText := true, laidKinds := [.data, .pinned], laidTests := true, laidLooks := .later }
def UtfValidUptoCardSaid : Prop := Claim7.holds Tryd.pinned (.plain (OpenSpec.upto utfValidSpec)) utfValidUptoCard

/-- THE SECOND FORM's CARD OF 'commonplacelaw01.UtfQuotes'. -/
def utfQuotesUptoCard : Claim7 := { stood := { row := utfQuotesUptoRow, standIns := [], harness := (true, "3bd9bce602d205904a52bd575bcf2ca4e087a51ae8e3bd273efb31cbc75eeea9"), looks := false }, kinds := [], alts := [], laidByText := true, laidKinds := [.data, .pinned], laidTests := true, laidLooks := .later }
def UtfQuotesUptoCardSaid : Prop := Claim7.holds Tryd.pinned (.plain (OpenSpec.upto utfQuotesSpec)) utfQuotesUptoCard

/-- THE SECOND FORM's CARD OF 'commonplacelaw01.UtfReads'. -/
def utfReadsUptoCard : Claim7 := { stood := { row := utfReadsUptoRow, standIns := [], harness := (true, "3bd9bce602d205904a52bd575bcf2ca4e087a51ae8e3bd273efb31cbc75eeea9"), looks := false }, kinds := [], alts := [], laidByText := true, laidKinds := [.data, .pinned], laidTests := true, laidLooks := .later }
def UtfReadsUptoCardSaid : Prop := Claim7.holds Tryd.pinned (.plain (OpenSpec.upto utfReadsSpec)) utfReadsUptoCard

/-- THE SECOND FORM's CARD OF 'commonplacelaw01.UtfBack'. -/
def utfBackUptoCard : Claim7 := { stood := { row := utfBackUptoRow, standIns := [], harness := (true, "3bd9bce602d205904a52bd575bcf2ca4e087a51ae8e3bd273efb31cbc75eeea9"), looks := false }, kinds := [], alts := [], laidByText := true, laidKinds := [.data, .pinned], laidTests := true, laidLooks := .later }
def UtfBackUptoCardSaid : Prop := Claim7.holds Tryd.pinned (.plain (OpenSpec.upto utfBackSpec)) utfBackUptoCard

/-- THE SECOND FORM's CARD OF 'commonplacelaw01.UtfHalves'. -/
def utfHalvesUptoCard : Claim7 := { stood := { row := utfHalvesUptoRow, standIns := [], harness := (true, "3bd9bce602d205904a52bd575bcf2ca4e087a51ae8e3bd273efb31cbc75eeea9"), looks := false }, kinds := [], alts := [], laidByText := true, laidKinds := [.data, .pinned], laidTests := true, laidLooks := .later }
def UtfHalvesUptoCardSaid : Prop := Claim7.holds Tryd.pinned (.plain (OpenSpec.upto utfHalvesSpec)) utfHalvesUptoCard

/-- THE SECOND FORM's CARD OF 'commonplacelaw01.UtfRunes'. -/
def utfRunesUptoCard : Claim7 := { stood := { row := utfRunesUptoRow, standIns := [], harness := (true, "3bd9bce602d205904a52bd575bcf2ca4e087a51ae8e3bd273efb31cbc75eeea9"), looks := false }, kinds := [], alts := [], laidByText := true, laidKinds := [.data, .pinned], laidTests := true, laidLooks := .later }
def UtfRunesUptoCardSaid : Prop := Claim7.holds Tryd.pinned (.plain (OpenSpec.upto utfRunesSpec)) utfRunesUptoCard
end Rows
end Go.Proofs.YtgdemkchfemmpaaDoor
