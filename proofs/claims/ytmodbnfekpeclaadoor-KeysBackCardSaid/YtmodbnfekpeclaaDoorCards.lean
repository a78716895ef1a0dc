/-
  DERIVED. GIVEN WITH THE SEED: THE CARDS: each row of YtmodbnfekpeclaaDoorRows.lean that lists a variable, with what it lists TIED to the program's text (the seventh form; the later family's looks); each row that meets fmt, with fmt's text TOLD by the authors' own Lean function (tested against real Go, not proved from fmt's source: count such statements apart). THE CARD IS WHAT COUNTS. Prove the row's statement (the work); the ties are given (YtmodbnfekpeclaaDoorTie.lean); close each card by the builder's one call (the guide's Derived/Test/ToyasCard.lean, 'card_holds'). Laid BY PROGRAM, IN A SANDBOX (cutbox-door.mjs). By AI agents, Wed Nov 11 2026. No macro, syntax, notation, axiom, sorry.
-/
import Derived.Test.YtmodbnfekpeclaaDoorRows
import GoSem.ClaimSeven
namespace Go.Proofs.YtmodbnfekpeclaaDoor
namespace Rows

/-- THE TIED CARD OF 'commonplacelaw05.KeysMay'. -/
def keysMayCard : Claim7 := { stood := { row := keysMayRow, standIns := [], harness := (true, "58f4da8a581a57e35a01b5a6d1600de2939089498bfcc634045f19dfe6ec517e"), looks := false }, kinds := [], alts := [], laidByText := true, laidKinds := [.data, .pinned], laidTests := true, laidLooks := .later }
def KeysMayCardSaid : Prop := Claim7.holds Tryd.pinned (.plain (OpenSpec.ofChange keysMaySpec)) keysMayCard

/-- THE TIED CARD OF 'commonplacelaw05.KeysEnd'. -/
def keysEndCard : Claim7 := { stood := { row := keysEndRow, standIns := [], harness := (true, "58f4da8a581a57e35a01b5a6d1600de2939089498bfcc634045f19dfe6ec517e"), looks := false }, kinds := [], alts := [], laidByText := true, laidKinds := [.data, .pinned], laidTests := true, laidLooks := .later }
def KeysEndCardSaid : Prop := Claim7.holds Tryd.pinned (.plain (OpenSpec.ofChange keysEndSpec)) keysEndCard

/-- THE TIED CARD OF 'commonplacelaw05.KeysLeast'. -/
def keysLeastCard : Claim7 := { stood := { row := keysLeastRow, standIns := [], harness := (true, "58f4da8a581a57e35a01b5a6d1600de2939089498bfcc634045f19dfe6ec517e"), looks := false }, kinds := [], alts := [], laidByText := true, laidKinds := [.data, .pinned], laidTests := true, laidLooks := .later }
def KeysLeastCardSaid : Prop := Claim7.holds Tryd.pinned (.plain (OpenSpec.ofChange keysLeastSpec)) keysLeastCard

/-- THE TIED CARD OF 'commonplacelaw05.KeysTurn'. -/
def keysTurnCard : Claim7 := { stood := { row := keysTurnRow, standIns := [], harness := (true, "58f4da8a581a57e35a01b5a6d1600de2939089498bfcc634045f19dfe6ec517e"), looks := false }, kinds := [], alts := [], laidByText := true, laidKinds := [.data, .pinned], laidTests := true, laidLooks := .later }
def KeysTurnCardSaid : Prop := Claim7.holds Tryd.pinned (.plain (OpenSpec.ofChange keysTurnSpec)) keysTurnCard

/-- THE TIED CARD OF 'commonplacelaw05.KeysBack'. -/
def keysBackCard : Claim7 := { stood := { row := keysBackRow, standIns := [], harness := (true, "58f4da8a581a57e35a01b5a6d1600de2939089498bfcc634045f19dfe6ec517e"), looks := false }, kinds := [], alts := [], laidByText := true, laidKinds := [.data, .pinned], laidTests := true, laidLooks := .later }
def KeysBackCardSaid : Prop := Claim7.holds Tryd.pinned (.plain (OpenSpec.ofChange keysBackSpec)) keysBackCard

/-- THE TIED CARD OF 'commonplacelaw05.KeysWithin'. -/
def keysWithinCard : Claim7 := { stood := { row := keysWithinRow, standIns := [], harness := (true, "58f4da8a581a57e35a01b5a6d1600de2939089498bfcc634045f19dfe6ec517e"), looks := false }, kinds := [], alts := [], laidByText := true, laidKinds := [.data, .pinned], laidTests := true, laidLooks := .later }
def KeysWithinCardSaid : Prop := Claim7.holds Tryd.pinned (.plain (OpenSpec.ofChange keysWithinSpec)) keysWithinCard

/-- THE TIED CARD OF 'commonplacelaw05.KeysPrefix'. -/
def keysPrefixCard : Claim7 := { stood := { row := keysPrefixRow, standIns := [], harness := (true, "58f4da8a581a57e35a01b5a6d1600de2939089498bfcc634045f19dfe6ec517e"), looks := false }, kinds := [], alts := [], laidByText := true, laidKinds := [.data, .pinned], laidTests := true, laidLooks := .later }
def KeysPrefixCardSaid : Prop := Claim7.holds Tryd.pinned (.plain (OpenSpec.ofChange keysPrefixSpec)) keysPrefixCard

/-- THE SECOND FORM's CARD OF 'commonplacelaw05.KeysMay'. -/
def keysMayUptoCard : Claim7 := { stood := { row := keysMayUptoRow, standIns := [], harness := (true, "58f4da8a581a57e35a01b5a6d1600de2939089498bfcc634045f19dfe6ec517e"), looks := false }, kinds := [], alts := [], laidByText := true, laidKinds := [.data, .pinned], laidTests := true, laidLooks := .later }
def KeysMayUptoCardSaid : Prop := Claim7.holds Tryd.pinned (.plain (OpenSpec.upto keysMaySpec)) keysMayUptoCard

/-- THE SECOND FORM's CARD OF 'commonplacelaw05.KeysEnd'. -/
def keysEndUptoCard : Claim7 := { stood := { row := keysEndUptoRow, standIns := [], harness := (true, "58f4da8a581a57e35a01b5a6d1600de2939089498bfcc634045f19dfe6ec517e"), looks := false }, kinds := [], alts := [], laidByText := true, laidKinds := [.data, .pinned], laidTests := true, laidLooks := .later }
def KeysEndUptoCardSaid : Prop := Claim7.holds Tryd.pinned (.plain (OpenSpec.upto keysEndSpec)) keysEndUptoCard

/-- THE SECOND FORM's CARD OF 'commonplacelaw05.KeysLeast'. -/
def keysLeastUptoCard : Claim7 := { stood := { row := keysLeastUptoRow, standIns := [], harness := (true, "58f4da8a581a57e35a01b5a6d1600de2939089498bfcc634045f19dfe6ec517e"), looks := false }, kinds := [], alts := [], laidByText := true, laidKinds := [.data, .pinned], laidTests := true, laidLooks := .later }
def KeysLeastUptoCardSaid : Prop := Claim7.holds Tryd.pinned (.plain (OpenSpec.upto keysLeastSpec)) keysLeastUptoCard

/-- THE SECOND FORM's CARD OF 'commonplacelaw05.KeysTurn'. -/
def keysTurnUptoCard : Claim7 := { stood := { row := keysTurnUptoRow, standIns := [], harness := (true, "58f4da8a581a57e35a01b5a6d1600de2939089498bfcc634045f19dfe6ec517e"), looks := false }, kinds := [], alts := [], laidByText := true, laidKinds := [.data, .pinned], laidTests := true, laidLooks := .later }
def KeysTurnUptoCardSaid : Prop := Claim7.holds Tryd.pinned (.plain (OpenSpec.upto keysTurnSpec)) keysTurnUptoCard

/-- THE SECOND FORM's CARD OF 'commonplacelaw05.KeysBack'. -/
def keysBackUptoCard : Claim7 := { stood := { row := keysBackUptoRow, standIns := [], harness := (true, "58f4da8a581a57e35a01b5a6d1600de2939089498bfcc634045f19dfe6ec517e"), looks := false }, kinds := [], alts := [], laidByText := true, laidKinds := [.data, .pinned], laidTests := true, laidLooks := .later }
def KeysBackUptoCardSaid : Prop := Claim7.holds Tryd.pinned (.plain (OpenSpec.upto keysBackSpec)) keysBackUptoCard

/-- THE SECOND FORM's CARD OF 'commonplacelaw05.KeysWithin'. -/
def keysWithinUptoCard : Claim7 := { stood := { row := keysWithinUptoRow, standIns := [], harness := (true, "58f4da8a581a57e35a01b5a6d1600de2939089498bfcc634045f19dfe6ec517e"), looks := false }, kinds := [], alts := [], laidByText := true, laidKinds := [.data, .pinned], laidTests := true, laidLooks := .later }
def KeysWithinUptoCardSaid : Prop := Claim7.holds Tryd.pinned (.plain (OpenSpec.upto keysWithinSpec)) keysWithinUptoCard

/-- THE SECOND FORM's CARD OF 'commonplacelaw05.KeysPrefix'. -/
def keysPrefixUptoCard : Claim7 := { stood := { row := keysPrefixUptoRow, standIns := [], harness := (true, "58f4da8a581a57e35a01b5a6d1600de2939089498bfcc634045f19dfe6ec517e"), looks := false }, kinds := [], alts := [], laidByText := true, laidKinds := [.data, .pinned], laidTests := true, laidLooks := .later }
def KeysPrefixUptoCardSaid : Prop := Claim7.holds Tryd.pinned (.plain (OpenSpec.upto keysPrefixSpec)) keysPrefixUptoCard
end Rows
end Go.Proofs.YtmodbnfekpeclaaDoor
