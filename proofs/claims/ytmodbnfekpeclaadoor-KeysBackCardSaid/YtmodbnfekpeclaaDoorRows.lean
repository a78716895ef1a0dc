/-
  NARROWER THAN 'FOR EVERY INPUT', by the rows' own cells (each row's printed sentence says how): KeysMay: laid · KeysEnd: laid · KeysLeast: laid · KeysTurn: laid · KeysBack: laid · KeysWithin: laid · KeysPrefix: laid.
  DERIVED. THE GIVEN ROWS OF THIS SEAT. 7 by the template 'for every input the law returns true; each argument reads behind the call as it read before'; 0 by the template 'total and deterministic' (their statements: YtmodbnfekpeclaaDoorTotals.lean).
  GIVEN WITH THE SEED: the statements are not yours to turn. If you find one false, say at which input.
  Laid BY PROGRAM, IN A SANDBOX (cutbox-rows.mjs): the forced cells as the released guide's own fill.sh prints them over the translation 06fa1133b19ffe67… (all of the seat's roots in one cut). By AI agents, Wed Nov 11 2026. No macro, syntax, notation, axiom, sorry.
-/
import Derived.Test.YtmodbnfekpeclaaDoorChecked
import GoSem.PinnedTables
import GoSem.Claim
import GoSem.ClaimJoined
import GoSem.ClaimMapViews
import Derived.JoinedTies
import Derived.KernelRfl
namespace Go.Proofs.YtmodbnfekpeclaaDoor
/- THE CELL 'sum', in the pinned program and in every row, IS THE sha256 OF THE DUMP (.gsa) THAT YtmodbnfekpeclaaDoorProg.lean LOADS. Nothing in Lean hashes anything: it is a label: what it is worth is what the hold of that sum in a sandbox is worth. -/
noncomputable def Tryd.pinned : Pinned := { name := "ytmodbnfekpeclaadoor", sum := "06fa1133b19ffe67e52c663734c8bb6759be9a3a992f1547092cb6c487cdd766", checked := Tryd.checked }
namespace Rows
def none {H : Type} : Left H := { results := [], args := [] }

/- WHAT THE LISTED PACKAGE-LEVEL VARIABLES READ AS WHEN THE CALL BEGINS. Each datum BY PROGRAM (the guide's laid-datum.mjs) off the statement by which the dump's own 'gosem.cut.vars' lays the variable. In a bare row this is a premise. The card (YtmodbnfekpeclaaDoorCards.lean) ties it to the program's text. -/
def laid_unicode_utf8_acceptRanges {H : Type} : DataW H := .agg [.agg [.lit (.int .u8 128), .lit (.int .u8 191)], .agg [.lit (.int .u8 160), .lit (.int .u8 191)], .agg [.lit (.int .u8 128), .lit (.int .u8 159)], .agg [.lit (.int .u8 144), .lit (.int .u8 191)], .agg [.lit (.int .u8 128), .lit (.int .u8 143)], .agg [.lit (.int .u8 0), .lit (.int .u8 0)], .agg [.lit (.int .u8 0), .lit (.int .u8 0)], .agg [.lit (.int .u8 0), .lit (.int .u8 0)], .agg [.lit (.int .u8 0), .lit (.int .u8 0)], .agg [.lit (.int .u8 0), .lit (.int .u8 0)], .agg [.lit (.int .u8 0), .lit (.int .u8 0)], .agg [.lit (.int .u8 0), .lit (.int .u8 0)], .agg [.lit (.int .u8 0), .lit (.int .u8 0)], .agg [.lit (.int .u8 0), .lit (.int .u8 0)], .agg [.lit (.int .u8 0), .lit (.int .u8 0)], .agg [.lit (.int .u8 0), .lit (.int .u8 0)]]
/-- One of Go's own tables, pinned by name: the form's constant. -/
def laid_unicode_utf8_first : DataW Unit := Go.Pinned.utf8First

/-- 'commonplacelaw05.KeysMay': WHATEVER THE INPUT: true; the input reads as it did. -/
def keysMaySpec : ChangeSpec := { name := "keysMay", fn := fun _ => fun
  | [d] => { results := [.lit (.bool true)], args := [d] }
  | _ => none }
def keysMayRow : OpenClaim := { program := "ytmodbnfekpeclaadoor", sum := "06fa1133b19ffe67e52c663734c8bb6759be9a3a992f1547092cb6c487cdd766", func := "commonplace/commonplacelaw05.KeysMay", spec := "keysMay", unfollowed := true, recurses := true, named := ["unicode/utf8.first", "unicode/utf8.acceptRanges"], apart := false, laid := [("unicode/utf8.acceptRanges", laid_unicode_utf8_acceptRanges), ("unicode/utf8.first", laid_unicode_utf8_first)] }
def KeysMaySaid : Prop := keysMayRow.holds Tryd.pinned (OpenSpec.ofChange keysMaySpec)

/-- ITS FALSE NEIGHBOUR: 'it returns false'. Refute it at one input. -/
def keysMayWrong : ChangeSpec := { name := "keysMay", fn := fun _ => fun
  | [d] => { results := [.lit (.bool false)], args := [d] }
  | _ => none }
def KeysMayWrongFalsely : Prop := keysMayRow.holds Tryd.pinned (OpenSpec.ofChange keysMayWrong)

/-- 'commonplacelaw05.KeysEnd': WHATEVER THE INPUT: true; the input reads as it did. -/
def keysEndSpec : ChangeSpec := { name := "keysEnd", fn := fun _ => fun
  | [d] => { results := [.lit (.bool true)], args := [d] }
  | _ => none }
def keysEndRow : OpenClaim := { program := "ytmodbnfekpeclaadoor", sum := "06fa1133b19ffe67e52c663734c8bb6759be9a3a992f1547092cb6c487cdd766", func := "commonplace/commonplacelaw05.KeysEnd", spec := "keysEnd", unfollowed := true, recurses := true, named := ["unicode/utf8.first", "unicode/utf8.acceptRanges"], apart := false, laid := [("unicode/utf8.acceptRanges", laid_unicode_utf8_acceptRanges), ("unicode/utf8.first", laid_unicode_utf8_first)] }
def KeysEndSaid : Prop := keysEndRow.holds Tryd.pinned (OpenSpec.ofChange keysEndSpec)

/-- ITS FALSE NEIGHBOUR: 'it returns false'. Refute it at one input. -/
def keysEndWrong : ChangeSpec := { name := "keysEnd", fn := fun _ => fun
  | [d] => { results := [.lit (.bool false)], args := [d] }
  | _ => none }
def KeysEndWrongFalsely : Prop := keysEndRow.holds Tryd.pinned (OpenSpec.ofChange keysEndWrong)

/-- 'commonplacelaw05.KeysLeast': WHATEVER THE INPUT: true; the input reads as it did. -/
def keysLeastSpec : ChangeSpec := { name := "keysLeast", fn := fun _ => fun
  | [d1, d2, d3] => { results := [.lit (.bool true)], args := [d1, d2, d3] }
  | _ => none }
def keysLeastRow : OpenClaim := { program := "ytmodbnfekpeclaadoor", sum := "06fa1133b19ffe67e52c663734c8bb6759be9a3a992f1547092cb6c487cdd766", func := "commonplace/commonplacelaw05.KeysLeast", spec := "keysLeast", unfollowed := true, recurses := true, named := ["unicode/utf8.first", "unicode/utf8.acceptRanges"], apart := false, laid := [("unicode/utf8.acceptRanges", laid_unicode_utf8_acceptRanges), ("unicode/utf8.first", laid_unicode_utf8_first)] }
def KeysLeastSaid : Prop := keysLeastRow.holds Tryd.pinned (OpenSpec.ofChange keysLeastSpec)

/-- ITS FALSE NEIGHBOUR: 'it returns false'. Refute it at one input. -/
def keysLeastWrong : ChangeSpec := { name := "keysLeast", fn := fun _ => fun
  | [d1, d2, d3] => { results := [.lit (.bool false)], args := [d1, d2, d3] }
  | _ => none }
def KeysLeastWrongFalsely : Prop := keysLeastRow.holds Tryd.pinned (OpenSpec.ofChange keysLeastWrong)

/-- 'commonplacelaw05.KeysTurn': WHATEVER THE INPUT: true; the input reads as it did. -/
def keysTurnSpec : ChangeSpec := { name := "keysTurn", fn := fun _ => fun
  | [d1, d2, d3] => { results := [.lit (.bool true)], args := [d1, d2, d3] }
  | _ => none }
def keysTurnRow : OpenClaim := { program := "ytmodbnfekpeclaadoor", sum := "06fa1133b19ffe67e52c663734c8bb6759be9a3a992f1547092cb6c487cdd766", func := "commonplace/commonplacelaw05.KeysTurn", spec := "keysTurn", unfollowed := true, recurses := true, named := ["unicode/utf8.first", "unicode/utf8.acceptRanges"], apart := false, laid := [("unicode/utf8.acceptRanges", laid_unicode_utf8_acceptRanges), ("unicode/utf8.first", laid_unicode_utf8_first)] }
def KeysTurnSaid : Prop := keysTurnRow.holds Tryd.pinned (OpenSpec.ofChange keysTurnSpec)

/-- ITS FALSE NEIGHBOUR: 'it returns false'. Refute it at one input. -/
def keysTurnWrong : ChangeSpec := { name := "keysTurn", fn := fun _ => fun
  | [d1, d2, d3] => { results := [.lit (.bool false)], args := [d1, d2, d3] }
  | _ => none }
def KeysTurnWrongFalsely : Prop := keysTurnRow.holds Tryd.pinned (OpenSpec.ofChange keysTurnWrong)

/-- 'commonplacelaw05.KeysBack': WHATEVER THE INPUT: true; the input reads as it did. -/
def keysBackSpec : ChangeSpec := { name := "keysBack", fn := fun _ => fun
  | [d1, d2, d3, d4] => { results := [.lit (.bool true)], args := [d1, d2, d3, d4] }
  | _ => none }
def keysBackRow : OpenClaim := { program := "ytmodbnfekpeclaadoor", sum := "06fa1133b19ffe67e52c663734c8bb6759be9a3a992f1547092cb6c487cdd766", func := "commonplace/commonplacelaw05.KeysBack", spec := "keysBack", unfollowed := true, recurses := true, named := ["unicode/utf8.first", "unicode/utf8.acceptRanges"], apart := false, laid := [("unicode/utf8.acceptRanges", laid_unicode_utf8_acceptRanges), ("unicode/utf8.first", laid_unicode_utf8_first)] }
def KeysBackSaid : Prop := keysBackRow.holds Tryd.pinned (OpenSpec.ofChange keysBackSpec)

/-- ITS FALSE NEIGHBOUR: 'it returns false'. Refute it at one input. -/
def keysBackWrong : ChangeSpec := { name := "keysBack", fn := fun _ => fun
  | [d1, d2, d3, d4] => { results := [.lit (.bool false)], args := [d1, d2, d3, d4] }
  | _ => none }
def KeysBackWrongFalsely : Prop := keysBackRow.holds Tryd.pinned (OpenSpec.ofChange keysBackWrong)

/-- 'commonplacelaw05.KeysWithin': WHATEVER THE INPUT: true; the input reads as it did. -/
def keysWithinSpec : ChangeSpec := { name := "keysWithin", fn := fun _ => fun
  | [d1, d2, d3, d4] => { results := [.lit (.bool true)], args := [d1, d2, d3, d4] }
  | _ => none }
def keysWithinRow : OpenClaim := { program := "ytmodbnfekpeclaadoor", sum := "06fa1133b19ffe67e52c663734c8bb6759be9a3a992f1547092cb6c487cdd766", func := "commonplace/commonplacelaw05.KeysWithin", spec := "keysWithin", unfollowed := true, recurses := true, named := ["unicode/utf8.first", "unicode/utf8.acceptRanges"], apart := false, laid := [("unicode/utf8.acceptRanges", laid_unicode_utf8_acceptRanges), ("unicode/utf8.first", laid_unicode_utf8_first)] }
def KeysWithinSaid : Prop := keysWithinRow.holds Tryd.pinned (OpenSpec.ofChange keysWithinSpec)

/-- ITS FALSE NEIGHBOUR: 'it returns false'. Refute it at one input. -/
def keysWithinWrong : ChangeSpec := { name := "keysWithin", fn := fun _ => fun
  | [d1, d2, d3, d4] => { results := [.lit (.bool false)], args := [d1, d2, d3, d4] }
  | _ => none }
def KeysWithinWrongFalsely : Prop := keysWithinRow.holds Tryd.pinned (OpenSpec.ofChange keysWithinWrong)

/-- 'commonplacelaw05.KeysPrefix': WHATEVER THE INPUT: true; the input reads as it did. -/
def keysPrefixSpec : ChangeSpec := { name := "keysPrefix", fn := fun _ => fun
  | [d1, d2] => { results := [.lit (.bool true)], args := [d1, d2] }
  | _ => none }
def keysPrefixRow : OpenClaim := { program := "ytmodbnfekpeclaadoor", sum := "06fa1133b19ffe67e52c663734c8bb6759be9a3a992f1547092cb6c487cdd766", func := "commonplace/commonplacelaw05.KeysPrefix", spec := "keysPrefix", unfollowed := true, recurses := true, named := ["unicode/utf8.first", "unicode/utf8.acceptRanges"], apart := false, laid := [("unicode/utf8.acceptRanges", laid_unicode_utf8_acceptRanges), ("unicode/utf8.first", laid_unicode_utf8_first)] }
def KeysPrefixSaid : Prop := keysPrefixRow.holds Tryd.pinned (OpenSpec.ofChange keysPrefixSpec)

/-- ITS FALSE NEIGHBOUR: 'it returns false'. Refute it at one input. -/
def keysPrefixWrong : ChangeSpec := { name := "keysPrefix", fn := fun _ => fun
  | [d1, d2] => { results := [.lit (.bool false)], args := [d1, d2] }
  | _ => none }
def KeysPrefixWrongFalsely : Prop := keysPrefixRow.holds Tryd.pinned (OpenSpec.ofChange keysPrefixWrong)

/- THE SECOND FORM. 'bulk': how many values and letters a reading holds, each counted each time it is reached (what is shared counts as often as it is met; a slice's spare places count too). A statement '..UptoSaid' is the law's where the arguments, and the package variables that the reading takes, are together of bulk at most 1048576: NARROWER than '..Said'. Prove '..Said' where nothing that the law and all that it calls make is longer than what came in: it says more and counts as full. Else prove '..UptoSaid'. A law counts once. -/
mutual
def uptoBulk {H : Type} : DataW H → Nat
  | .lit (.string bytes) => bytes.length + 1
  | .lit _ => 1
  | .nil => 1
  | .ptr d => uptoBulk d + 1
  | .slice elems spare => uptoBulkAll elems + uptoBulkAll spare + 1
  | .agg parts => uptoBulkAll parts + 1
  | .iface _ d => uptoBulk d + 1
  | .map entries => uptoBulkEntries entries + 1
  | .held _ => 1
def uptoBulkAll {H : Type} : List (DataW H) → Nat
  | [] => 0
  | d :: r => uptoBulk d + uptoBulkAll r
def uptoBulkEntries {H : Type} : List (Lit × DataW H) → Nat
  | [] => 0
  | x :: r => uptoBulkEntry x + uptoBulkEntries r
def uptoBulkEntry {H : Type} : Lit × DataW H → Nat
  | (.string bytes, d) => bytes.length + uptoBulk d + 1
  | (_, d) => uptoBulk d + 1
 end
def uptoSmall : (H : Type) → List (DataW H) → Bool := fun _ ds => decide (uptoBulkAll ds ≤ 1048576)
def OpenSpec.upto (s : _root_.Go.ChangeSpec) : _root_.Go.OpenSpec := { _root_.Go.OpenSpec.ofChange s with cond := some uptoSmall }

/-- 'commonplacelaw05.KeysMay', WHERE WHAT IT READS IS OF BULK AT MOST 1048576: true; the input reads as it did. -/
def keysMayUptoRow : OpenClaim := { program := "ytmodbnfekpeclaadoor", sum := "06fa1133b19ffe67e52c663734c8bb6759be9a3a992f1547092cb6c487cdd766", func := "commonplace/commonplacelaw05.KeysMay", spec := "keysMay", unfollowed := true, recurses := true, named := ["unicode/utf8.first", "unicode/utf8.acceptRanges"], apart := false, laid := [("unicode/utf8.acceptRanges", laid_unicode_utf8_acceptRanges), ("unicode/utf8.first", laid_unicode_utf8_first)], narrowed := true }
def KeysMayUptoSaid : Prop := keysMayUptoRow.holds Tryd.pinned (OpenSpec.upto keysMaySpec)

/-- 'commonplacelaw05.KeysEnd', WHERE WHAT IT READS IS OF BULK AT MOST 1048576: true; the input reads as it did. -/
def keysEndUptoRow : OpenClaim := { program := "ytmodbnfekpeclaadoor", sum := "06fa1133b19ffe67e52c663734c8bb6759be9a3a992f1547092cb6c487cdd766", func := "commonplace/commonplacelaw05.KeysEnd", spec := "keysEnd", unfollowed := true, recurses := true, named := ["unicode/utf8.first", "unicode/utf8.acceptRanges"], apart := false, laid := [("unicode/utf8.acceptRanges", laid_unicode_utf8_acceptRanges), ("unicode/utf8.first", laid_unicode_utf8_first)], narrowed := true }
def KeysEndUptoSaid : Prop := keysEndUptoRow.holds Tryd.pinned (OpenSpec.upto keysEndSpec)

/-- 'commonplacelaw05.KeysLeast', WHERE WHAT IT READS IS OF BULK AT MOST 1048576: true; the input reads as it did. -/
def keysLeastUptoRow : OpenClaim := { program := "ytmodbnfekpeclaadoor", sum := "06fa1133b19ffe67e52c663734c8bb6759be9a3a992f1547092cb6c487cdd766", func := "commonplace/commonplacelaw05.KeysLeast", spec := "keysLeast", unfollowed := true, recurses := true, named := ["unicode/utf8.first", "unicode/utf8.acceptRanges"], apart := false, laid := [("unicode/utf8.acceptRanges", laid_unicode_utf8_acceptRanges), ("unicode/utf8.first", laid_unicode_utf8_first)], narrowed := true }
def KeysLeastUptoSaid : Prop := keysLeastUptoRow.holds Tryd.pinned (OpenSpec.upto keysLeastSpec)

/-- 'commonplacelaw05.KeysTurn', WHERE WHAT IT READS IS OF BULK AT MOST 1048576: true; the input reads as it did. -/
def keysTurnUptoRow : OpenClaim := { program := "ytmodbnfekpeclaadoor", sum := "06fa1133b19ffe67e52c663734c8bb6759be9a3a992f1547092cb6c487cdd766", func := "commonplace/commonplacelaw05.KeysTurn", spec := "keysTurn", unfollowed := true, recurses := true, named := ["unicode/utf8.first", "unicode/utf8.acceptRanges"], apart := false, laid := [("unicode/utf8.acceptRanges", laid_unicode_utf8_acceptRanges), ("unicode/utf8.first", laid_unicode_utf8_first)], narrowed := true }
def KeysTurnUptoSaid : Prop := keysTurnUptoRow.holds Tryd.pinned (OpenSpec.upto keysTurnSpec)

/-- 'commonplacelaw05.KeysBack', WHERE WHAT IT READS IS OF BULK AT MOST 1048576: true; the input reads as it did. -/
def keysBackUptoRow : OpenClaim := { program := "ytmodbnfekpeclaadoor", sum := "06fa1133b19ffe67e52c663734c8bb6759be9a3a992f1547092cb6c487cdd766", func := "commonplace/commonplacelaw05.KeysBack", spec := "keysBack", unfollowed := true, recurses := true, named := ["unicode/utf8.first", "unicode/utf8.acceptRanges"], apart := false, laid := [("unicode/utf8.acceptRanges", laid_unicode_utf8_acceptRanges), ("unicode/utf8.first", laid_unicode_utf8_first)], narrowed := true }
def KeysBackUptoSaid : Prop := keysBackUptoRow.holds Tryd.pinned (OpenSpec.upto keysBackSpec)

/-- 'commonplacelaw05.KeysWithin', WHERE WHAT IT READS IS OF BULK AT MOST 1048576: true; the input reads as it did. -/
def keysWithinUptoRow : OpenClaim := { program := "ytmodbnfekpeclaadoor", sum := "06fa1133b19ffe67e52c663734c8bb6759be9a3a992f1547092cb6c487cdd766", func := "commonplace/commonplacelaw05.KeysWithin", spec := "keysWithin", unfollowed := true, recurses := true, named := ["unicode/utf8.first", "unicode/utf8.acceptRanges"], apart := false, laid := [("unicode/utf8.acceptRanges", laid_unicode_utf8_acceptRanges), ("unicode/utf8.first", laid_unicode_utf8_first)], narrowed := true }
def KeysWithinUptoSaid : Prop := keysWithinUptoRow.holds Tryd.pinned (OpenSpec.upto keysWithinSpec)

/-- 'commonplacelaw05.KeysPrefix', WHERE WHAT IT READS IS OF BULK AT MOST 1048576: true; the input reads as it did. -/
def keysPrefixUptoRow : OpenClaim := { program := "ytmodbnfekpeclaadoor", sum := "06fa1133b19ffe67e52c663734c8bb6759be9a3a992f1547092cb6c487cdd766", func := "commonplace/commonplacelaw05.KeysPrefix", spec := "keysPrefix", unfollowed := true, recurses := true, named := ["unicode/utf8.first", "unicode/utf8.acceptRanges"], apart := false, laid := [("unicode/utf8.acceptRanges", laid_unicode_utf8_acceptRanges), ("unicode/utf8.first", laid_unicode_utf8_first)], narrowed := true }
def KeysPrefixUptoSaid : Prop := keysPrefixUptoRow.holds Tryd.pinned (OpenSpec.upto keysPrefixSpec)

end Rows
end Go.Proofs.YtmodbnfekpeclaaDoor
