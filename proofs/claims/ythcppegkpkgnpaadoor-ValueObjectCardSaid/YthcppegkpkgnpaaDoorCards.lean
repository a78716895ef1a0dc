/-
  DERIVED. GIVEN WITH THE SEED: THE CARDS: each row of YthcppegkpkgnpaaDoorRows.lean that lists a variable, with what it lists TIED to the program's text (the seventh form; the later family's looks); each row that meets fmt, with fmt's text TOLD by the authors' own Lean function (tested against real Go, not proved from fmt's source: count such statements apart). THE CARD IS WHAT COUNTS. Prove the row's statement (the work); the ties are given (YthcppegkpkgnpaaDoorTie.lean); close each card by the builder's one call (the guide's Derived/Test/ToyasCard.lean, 'card_holds'). Laid BY PROGRAM, IN A SANDBOX (cutbox-door.mjs). By AI agents, Wed Nov 11 2026. No macro, syntax, notation, axiom, sorry.
-/
import Derived.Test.YthcppegkpkgnpaaDoorRows
import GoSem.ClaimSeven
namespace Go.Proofs.YthcppegkpkgnpaaDoor
namespace Rows

/-- THE TIED CARD OF 'commonplacelaw02.ValueObject'. -/
def valueObjectCard : Claim7 := { stood := { row := valueObjectRow, standIns := [], harness := (true, "0621fa5276a46eccab7fdccc3a9d717d2013dd0961e57440199c3c92069629e6"), looks := false }, kinds := [], alts := [], laidByText := true, laidKinds := [.data, .pinned], laidTests := true, laidLooks := .later }
def ValueObjectCardSaid : Prop := Claim7.holds Tryd.pinned (.plain (OpenSpec.ofChange valueObjectSpec)) valueObjectCard

/-- THE TIED CARD OF 'commonplacelaw02.ValueMay'. -/
def valueMayCard : Claim7 := { stood := { row := valueMayRow, standIns := [], harness := (true, "0621fa5276a46eccab7fdccc3a9d717d2013dd0961e57440199c3c92069629e6"), looks := false }, kinds := [], alts := [], laidByText := true, laidKinds := [.data, .pinned], laidTests := true, laidLooks := .later }
def ValueMayCardSaid : Prop := Claim7.holds Tryd.pinned (.plain (OpenSpec.ofChange valueMaySpec)) valueMayCard

/-- THE TIED CARD OF 'commonplacelaw02.ValueMeasures'. -/
def valueMeasuresCard : Claim7 := { stood := { row := valueMeasuresRow, standIns := [], harness := (true, "0621fa5276a46eccab7fdccc3a9d717d2013dd0961e57440199c3c92069629e6"), looks := false }, kinds := [], alts := [], laidByText := true, laidKinds := [.data, .pinned], laidTests := true, laidLooks := .later }
def ValueMeasuresCardSaid : Prop := Claim7.holds Tryd.pinned (.plain (OpenSpec.ofChange valueMeasuresSpec)) valueMeasuresCard

/-- THE TIED CARD OF 'commonplacelaw02.ValueWithin'. -/
def valueWithinCard : Claim7 := { stood := { row := valueWithinRow, standIns := [], harness := (true, "0621fa5276a46eccab7fdccc3a9d717d2013dd0961e57440199c3c92069629e6"), looks := false }, kinds := [], alts := [], laidByText := true, laidKinds := [.data, .pinned], laidTests := true, laidLooks := .later }
def ValueWithinCardSaid : Prop := Claim7.holds Tryd.pinned (.plain (OpenSpec.ofChange valueWithinSpec)) valueWithinCard

/-- THE TIED CARD OF 'commonplacelaw02.ValueOrders'. -/
def valueOrdersCard : Claim7 := { stood := { row := valueOrdersRow, standIns := [], harness := (true, "0621fa5276a46eccab7fdccc3a9d717d2013dd0961e57440199c3c92069629e6"), looks := false }, kinds := [], alts := [], laidByText := true, laidKinds := [.data, .pinned], laidTests := true, laidLooks := .later }
def ValueOrdersCardSaid : Prop := Claim7.holds Tryd.pinned (.plain (OpenSpec.ofChange valueOrdersSpec)) valueOrdersCard

/-- THE TIED CARD OF 'commonplacelaw02.ValueChain'. -/
def valueChainCard : Claim7 := { stood := { row := valueChainRow, standIns := [], harness := (true, "0621fa5276a46eccab7fdccc3a9d717d2013dd0961e57440199c3c92069629e6"), looks := false }, kinds := [], alts := [], laidByText := true, laidKinds := [.data, .pinned], laidTests := true, laidLooks := .later }
def ValueChainCardSaid : Prop := Claim7.holds Tryd.pinned (.plain (OpenSpec.ofChange valueChainSpec)) valueChainCard

/-- THE TIED CARD OF 'commonplacelaw02.ValueCopies'. -/
def valueCopiesCard : Claim7 := { stood := { row := valueCopiesRow, standIns := [], harness := (true, "0621fa5276a46eccab7fdccc3a9d717d2013dd0961e57440199c3c92069629e6"), looks := false }, kinds := [], alts := [], laidByText := true, laidKinds := [.data, .pinned], laidTests := true, laidLooks := .later }
def ValueCopiesCardSaid : Prop := Claim7.holds Tryd.pinned (.plain (OpenSpec.ofChange valueCopiesSpec)) valueCopiesCard

/-- THE TIED CARD OF 'commonplacelaw02.ValueMember'. -/
def valueMemberCard : Claim7 := { stood := { row := valueMemberRow, standIns := [], harness := (true, "0621fa5276a46eccab7fdccc3a9d717d2013dd0961e57440199c3c92069629e6"), looks := false }, kinds := [], alts := [], laidByText := true, laidKinds := [.data, .pinned], laidTests := true, laidLooks := .later }
def ValueMemberCardSaid : Prop := Claim7.holds Tryd.pinned (.plain (OpenSpec.ofChange valueMemberSpec)) valueMemberCard

/-- THE SECOND FORM's CARD OF 'commonplacelaw02.ValueObject'. -/
def valueObjectUptoCard : Claim7 := { stood := { row := valueObjectUptoRow, standIns := [], harness := (true, "0621fa5276a46eccab7fdccc3a9d717d2013dd0961e57440199c3c92069629e6"), looks := false }, kinds := [], alts := [], laidByText := true, laidKinds := [.data, .pinned], laidTests := true, laidLooks := .later }
def ValueObjectUptoCardSaid : Prop := Claim7.holds Tryd.pinned (.plain (OpenSpec.upto valueObjectSpec)) valueObjectUptoCard

/-- THE SECOND FORM's CARD OF 'commonplacelaw02.ValueMay'. -/
def valueMayUptoCard : Claim7 := { stood := { row := valueMayUptoRow, standIns := [], harness := (true, "0621fa5276a46eccab7fdccc3a9d717d2013dd0961e57440199c3c92069629e6"), looks := false }, kinds := [], alts := [], laidByText := true, laidKinds := [.data, .pinned], laidTests := true, laidLooks := .later }
def ValueMayUptoCardSaid : Prop := Claim7.holds Tryd.pinned (.plain (OpenSpec.upto valueMaySpec)) valueMayUptoCard

/-- THE SECOND FORM's CARD OF 'commonplacelaw02.ValueMeasures'. -/
def valueMeasuresUptoCard : Claim7 := { stood := { row := valueMeasuresUptoRow, standIns := [], harness := (true, "0621fa5276a46eccab7fdccc3a9d717d2013dd0961e57440199c3c92069629e6"), looks := false }, kinds := [], alts := [], laidByText := true, laidKinds := [.data, .pinned], laidTests := true, laidLooks := .later }
def ValueMeasuresUptoCardSaid : Prop := Claim7.holds Tryd.pinned (.plain (OpenSpec.upto valueMeasuresSpec)) valueMeasuresUptoCard

/-- THE SECOND FORM's CARD OF 'commonplacelaw02.ValueWithin'. -/
def valueWithinUptoCard : Claim7 := { stood := { row := valueWithinUptoRow, standIns := [], harness := (true, "0621fa5276a46eccab7fdccc3a9d717d2013dd0961e57440199c3c92069629e6"), looks := false }, kinds := [], alts := [], laidByText := true, laidKinds := [.data, .pinned], laidTests := true, laidLooks := .later }
def ValueWithinUptoCardSaid : Prop := Claim7.holds Tryd.pinned (.plain (OpenSpec.upto valueWithinSpec)) valueWithinUptoCard

/-- THE SECOND FORM's CARD OF 'commonplacelaw02.ValueOrders'. -/
def valueOrdersUptoCard : Claim7 := { stood := { row := valueOrdersUptoRow, standIns := [], harness := (true, "0621fa5276a46eccab7fdccc3a9d717d2013dd0961e57440199c3c92069629e6"), looks := false }, kinds := [], alts := [], laidByText := true, laidKinds := [.data, .pinned], laidTests := true, laidLooks := .later }
def ValueOrdersUptoCardSaid : Prop := Claim7.holds Tryd.pinned (.plain (OpenSpec.upto valueOrdersSpec)) valueOrdersUptoCard

/-- THE SECOND FORM's CARD OF 'commonplacelaw02.ValueChain'. -/
def valueChainUptoCard : Claim7 := { stood := { row := valueChainUptoRow, standIns := [], harness := (true, "0621fa5276a46eccab7fdccc3a9d717d2013dd0961e57440199c3c92069629e6"), looks := false }, kinds := [], alts := [], laidByText := true, laidKinds := [.data, .pinned], laidTests := true, laidLooks := .later }
def ValueChainUptoCardSaid : Prop := Claim7.holds Tryd.pinned (.plain (OpenSpec.upto valueChainSpec)) valueChainUptoCard

/-- THE SECOND FORM's CARD OF 'commonplacelaw02.ValueCopies'. -/
def valueCopiesUptoCard : Claim7 := { stood := { row := valueCopiesUptoRow, standIns := [], harness := (true, "0621fa5276a46eccab7fdccc3a9d717d2013dd0961e57440199c3c92069629e6"), looks := false }, kinds := [], alts := [], laidByText := true, laidKinds := [.data, .pinned], laidTests := true, laidLooks := .later }
def ValueCopiesUptoCardSaid : Prop := Claim7.holds Tryd.pinned (.plain (OpenSpec.upto valueCopiesSpec)) valueCopiesUptoCard

/-- THE SECOND FORM's CARD OF 'commonplacelaw02.ValueMember'. -/
def valueMemberUptoCard : Claim7 := { stood := { row := valueMemberUptoRow, standIns := [], harness := (true, "0621fa5276a46eccab7fdccc3a9d717d2013dd0961e57440199c3c92069629e6"), looks := false }, kinds := [], alts := [], laidByText := true, laidKinds := [.data, .pinned], laidTests := true, laidLooks := .later }
def ValueMemberUptoCardSaid : Prop := Claim7.holds Tryd.pinned (.plain (OpenSpec.upto valueMemberSpec)) valueMemberUptoCard
end Rows
end Go.Proofs.YthcppegkpkgnpaaDoor
