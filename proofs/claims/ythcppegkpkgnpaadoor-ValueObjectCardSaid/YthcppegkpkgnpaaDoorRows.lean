/-
  NARROWER THAN 'FOR EVERY INPUT', by the rows' own cells (each row's printed sentence says how): ValueObject: loops, laid · ValueMay: loops, laid · ValueMeasures: loops, laid · ValueWithin: loops, laid · ValueOrders: loops, laid · ValueChain: loops, laid · ValueCopies: loops, laid · ValueMember: loops, laid.
  DERIVED. THE GIVEN ROWS OF THIS SEAT. 8 by the template 'for every input the law returns true; each argument reads behind the call as it read before'; 0 by the template 'total and deterministic' (their statements: YthcppegkpkgnpaaDoorTotals.lean).
  GIVEN WITH THE SEED: the statements are not yours to turn. If you find one false, say at which input.
  Laid BY PROGRAM, IN A SANDBOX (cutbox-rows.mjs): the forced cells as the released guide's own fill.sh prints them over the translation d1b774c6e9ba615e… (all of the seat's roots in one cut). By AI agents, Wed Nov 11 2026. No macro, syntax, notation, axiom, sorry.
-/
import Derived.Test.YthcppegkpkgnpaaDoorChecked
import GoSem.PinnedTables
import GoSem.Claim
import GoSem.ClaimJoined
import GoSem.ClaimMapViews
import Derived.JoinedTies
import Derived.KernelRfl
namespace Go.Proofs.YthcppegkpkgnpaaDoor
/- THE CELL 'sum', in the pinned program and in every row, IS THE sha256 OF THE DUMP (.gsa) THAT YthcppegkpkgnpaaDoorProg.lean LOADS. Nothing in Lean hashes anything: it is a label: what it is worth is what the hold of that sum in a sandbox is worth. -/
noncomputable def Tryd.pinned : Pinned := { name := "ythcppegkpkgnpaadoor", sum := "d1b774c6e9ba615ec1f023d47508efe9468fc201bdf05732975967f517f150e0", checked := Tryd.checked }
namespace Rows
def none {H : Type} : Left H := { results := [], args := [] }

/- WHAT THE LISTED PACKAGE-LEVEL VARIABLES READ AS WHEN THE CALL BEGINS. Each datum BY PROGRAM (the guide's laid-datum.mjs) off the statement by which the dump's own 'gosem.cut.vars' lays the variable. In a bare row this is a premise. The card (YthcppegkpkgnpaaDoorCards.lean) ties it to the program's text. -/
def laid_unicode_utf8_acceptRanges {H : Type} : DataW H := .agg [.agg [.lit (.int .u8 128), .lit (.int .u8 191)], .agg [.lit (.int .u8 160), .lit (.int .u8 191)], .agg [.lit (.int .u8 128), .lit (.int .u8 159)], .agg [.lit (.int .u8 144), .lit (.int .u8 191)], .agg [.lit (.int .u8 128), .lit (.int .u8 143)], .agg [.lit (.int .u8 0), .lit (.int .u8 0)], .agg [.lit (.int .u8 0), .lit (.int .u8 0)], .agg [.lit (.int .u8 0), .lit (.int .u8 0)], .agg [.lit (.int .u8 0), .lit (.int .u8 0)], .agg [.lit (.int .u8 0), .lit (.int .u8 0)], .agg [.lit (.int .u8 0), .lit (.int .u8 0)], .agg [.lit (.int .u8 0), .lit (.int .u8 0)], .agg [.lit (.int .u8 0), .lit (.int .u8 0)], .agg [.lit (.int .u8 0), .lit (.int .u8 0)], .agg [.lit (.int .u8 0), .lit (.int .u8 0)], .agg [.lit (.int .u8 0), .lit (.int .u8 0)]]
/-- One of Go's own tables, pinned by name: the form's constant. -/
def laid_unicode_utf8_first : DataW Unit := Go.Pinned.utf8First

/-- 'commonplacelaw02.ValueObject': WHATEVER THE INPUT: true; the input reads as it did. -/
def valueObjectSpec : ChangeSpec := { name := "valueObject", fn := fun _ => fun
  | [d] => { results := [.lit (.bool true)], args := [d] }
  | _ => none }
def valueObjectRow : OpenClaim := { program := "ythcppegkpkgnpaadoor", sum := "d1b774c6e9ba615ec1f023d47508efe9468fc201bdf05732975967f517f150e0", func := "commonplace/commonplacelaw02.ValueObject", spec := "valueObject", inPlace := ["internal/reflectlite.ValueOf", "internal/reflectlite.Swapper", "(internal/reflectlite.Value).Len", "internal/bytealg.abigen_runtime_cmpstring"], unfollowed := true, recurses := true, named := ["unicode/utf8.first", "unicode/utf8.acceptRanges"], loops := true, apart := false, laid := [("unicode/utf8.acceptRanges", laid_unicode_utf8_acceptRanges), ("unicode/utf8.first", laid_unicode_utf8_first)] }
def ValueObjectSaid : Prop := valueObjectRow.holds Tryd.pinned (OpenSpec.ofChange valueObjectSpec)

/-- ITS FALSE NEIGHBOUR: 'it returns false'. Refute it at one input. -/
def valueObjectWrong : ChangeSpec := { name := "valueObject", fn := fun _ => fun
  | [d] => { results := [.lit (.bool false)], args := [d] }
  | _ => none }
def ValueObjectWrongFalsely : Prop := valueObjectRow.holds Tryd.pinned (OpenSpec.ofChange valueObjectWrong)

/-- 'commonplacelaw02.ValueMay': WHATEVER THE INPUT: true; the input reads as it did. -/
def valueMaySpec : ChangeSpec := { name := "valueMay", fn := fun _ => fun
  | [d] => { results := [.lit (.bool true)], args := [d] }
  | _ => none }
def valueMayRow : OpenClaim := { program := "ythcppegkpkgnpaadoor", sum := "d1b774c6e9ba615ec1f023d47508efe9468fc201bdf05732975967f517f150e0", func := "commonplace/commonplacelaw02.ValueMay", spec := "valueMay", inPlace := ["internal/bytealg.abigen_runtime_cmpstring"], unfollowed := true, recurses := true, named := ["unicode/utf8.first", "unicode/utf8.acceptRanges"], loops := true, apart := false, laid := [("unicode/utf8.acceptRanges", laid_unicode_utf8_acceptRanges), ("unicode/utf8.first", laid_unicode_utf8_first)] }
def ValueMaySaid : Prop := valueMayRow.holds Tryd.pinned (OpenSpec.ofChange valueMaySpec)

/-- ITS FALSE NEIGHBOUR: 'it returns false'. Refute it at one input. -/
def valueMayWrong : ChangeSpec := { name := "valueMay", fn := fun _ => fun
  | [d] => { results := [.lit (.bool false)], args := [d] }
  | _ => none }
def ValueMayWrongFalsely : Prop := valueMayRow.holds Tryd.pinned (OpenSpec.ofChange valueMayWrong)

/-- 'commonplacelaw02.ValueMeasures': WHATEVER THE INPUT: true; the input reads as it did. -/
def valueMeasuresSpec : ChangeSpec := { name := "valueMeasures", fn := fun _ => fun
  | [d] => { results := [.lit (.bool true)], args := [d] }
  | _ => none }
def valueMeasuresRow : OpenClaim := { program := "ythcppegkpkgnpaadoor", sum := "d1b774c6e9ba615ec1f023d47508efe9468fc201bdf05732975967f517f150e0", func := "commonplace/commonplacelaw02.ValueMeasures", spec := "valueMeasures", inPlace := ["internal/bytealg.abigen_runtime_cmpstring"], unfollowed := true, recurses := true, named := ["unicode/utf8.first", "unicode/utf8.acceptRanges"], loops := true, apart := false, laid := [("unicode/utf8.acceptRanges", laid_unicode_utf8_acceptRanges), ("unicode/utf8.first", laid_unicode_utf8_first)] }
def ValueMeasuresSaid : Prop := valueMeasuresRow.holds Tryd.pinned (OpenSpec.ofChange valueMeasuresSpec)

/-- ITS FALSE NEIGHBOUR: 'it returns false'. Refute it at one input. -/
def valueMeasuresWrong : ChangeSpec := { name := "valueMeasures", fn := fun _ => fun
  | [d] => { results := [.lit (.bool false)], args := [d] }
  | _ => none }
def ValueMeasuresWrongFalsely : Prop := valueMeasuresRow.holds Tryd.pinned (OpenSpec.ofChange valueMeasuresWrong)

/-- 'commonplacelaw02.ValueWithin': WHATEVER THE INPUT: true; the input reads as it did. -/
def valueWithinSpec : ChangeSpec := { name := "valueWithin", fn := fun _ => fun
  | [d] => { results := [.lit (.bool true)], args := [d] }
  | _ => none }
def valueWithinRow : OpenClaim := { program := "ythcppegkpkgnpaadoor", sum := "d1b774c6e9ba615ec1f023d47508efe9468fc201bdf05732975967f517f150e0", func := "commonplace/commonplacelaw02.ValueWithin", spec := "valueWithin", inPlace := ["internal/bytealg.abigen_runtime_cmpstring"], unfollowed := true, recurses := true, named := ["unicode/utf8.first", "unicode/utf8.acceptRanges"], loops := true, apart := false, laid := [("unicode/utf8.acceptRanges", laid_unicode_utf8_acceptRanges), ("unicode/utf8.first", laid_unicode_utf8_first)] }
def ValueWithinSaid : Prop := valueWithinRow.holds Tryd.pinned (OpenSpec.ofChange valueWithinSpec)

/-- ITS FALSE NEIGHBOUR: 'it returns false'. Refute it at one input. -/
def valueWithinWrong : ChangeSpec := { name := "valueWithin", fn := fun _ => fun
  | [d] => { results := [.lit (.bool false)], args := [d] }
  | _ => none }
def ValueWithinWrongFalsely : Prop := valueWithinRow.holds Tryd.pinned (OpenSpec.ofChange valueWithinWrong)

/-- 'commonplacelaw02.ValueOrders': WHATEVER THE INPUT: true; the input reads as it did. -/
def valueOrdersSpec : ChangeSpec := { name := "valueOrders", fn := fun _ => fun
  | [d1, d2] => { results := [.lit (.bool true)], args := [d1, d2] }
  | _ => none }
def valueOrdersRow : OpenClaim := { program := "ythcppegkpkgnpaadoor", sum := "d1b774c6e9ba615ec1f023d47508efe9468fc201bdf05732975967f517f150e0", func := "commonplace/commonplacelaw02.ValueOrders", spec := "valueOrders", inPlace := ["internal/bytealg.abigen_runtime_cmpstring"], unfollowed := true, recurses := true, named := ["unicode/utf8.first", "unicode/utf8.acceptRanges"], loops := true, apart := false, laid := [("unicode/utf8.acceptRanges", laid_unicode_utf8_acceptRanges), ("unicode/utf8.first", laid_unicode_utf8_first)] }
def ValueOrdersSaid : Prop := valueOrdersRow.holds Tryd.pinned (OpenSpec.ofChange valueOrdersSpec)

/-- ITS FALSE NEIGHBOUR: 'it returns false'. Refute it at one input. -/
def valueOrdersWrong : ChangeSpec := { name := "valueOrders", fn := fun _ => fun
  | [d1, d2] => { results := [.lit (.bool false)], args := [d1, d2] }
  | _ => none }
def ValueOrdersWrongFalsely : Prop := valueOrdersRow.holds Tryd.pinned (OpenSpec.ofChange valueOrdersWrong)

/-- 'commonplacelaw02.ValueChain': WHATEVER THE INPUT: true; the input reads as it did. -/
def valueChainSpec : ChangeSpec := { name := "valueChain", fn := fun _ => fun
  | [d1, d2, d3] => { results := [.lit (.bool true)], args := [d1, d2, d3] }
  | _ => none }
def valueChainRow : OpenClaim := { program := "ythcppegkpkgnpaadoor", sum := "d1b774c6e9ba615ec1f023d47508efe9468fc201bdf05732975967f517f150e0", func := "commonplace/commonplacelaw02.ValueChain", spec := "valueChain", inPlace := ["internal/bytealg.abigen_runtime_cmpstring"], unfollowed := true, recurses := true, named := ["unicode/utf8.first", "unicode/utf8.acceptRanges"], loops := true, apart := false, laid := [("unicode/utf8.acceptRanges", laid_unicode_utf8_acceptRanges), ("unicode/utf8.first", laid_unicode_utf8_first)] }
def ValueChainSaid : Prop := valueChainRow.holds Tryd.pinned (OpenSpec.ofChange valueChainSpec)

/-- ITS FALSE NEIGHBOUR: 'it returns false'. Refute it at one input. -/
def valueChainWrong : ChangeSpec := { name := "valueChain", fn := fun _ => fun
  | [d1, d2, d3] => { results := [.lit (.bool false)], args := [d1, d2, d3] }
  | _ => none }
def ValueChainWrongFalsely : Prop := valueChainRow.holds Tryd.pinned (OpenSpec.ofChange valueChainWrong)

/-- 'commonplacelaw02.ValueCopies': WHATEVER THE INPUT: true; the input reads as it did. -/
def valueCopiesSpec : ChangeSpec := { name := "valueCopies", fn := fun _ => fun
  | [d] => { results := [.lit (.bool true)], args := [d] }
  | _ => none }
def valueCopiesRow : OpenClaim := { program := "ythcppegkpkgnpaadoor", sum := "d1b774c6e9ba615ec1f023d47508efe9468fc201bdf05732975967f517f150e0", func := "commonplace/commonplacelaw02.ValueCopies", spec := "valueCopies", inPlace := ["internal/bytealg.abigen_runtime_cmpstring"], unfollowed := true, recurses := true, named := ["unicode/utf8.first", "unicode/utf8.acceptRanges"], loops := true, apart := false, laid := [("unicode/utf8.acceptRanges", laid_unicode_utf8_acceptRanges), ("unicode/utf8.first", laid_unicode_utf8_first)] }
def ValueCopiesSaid : Prop := valueCopiesRow.holds Tryd.pinned (OpenSpec.ofChange valueCopiesSpec)

/-- ITS FALSE NEIGHBOUR: 'it returns false'. Refute it at one input. -/
def valueCopiesWrong : ChangeSpec := { name := "valueCopies", fn := fun _ => fun
  | [d] => { results := [.lit (.bool false)], args := [d] }
  | _ => none }
def ValueCopiesWrongFalsely : Prop := valueCopiesRow.holds Tryd.pinned (OpenSpec.ofChange valueCopiesWrong)

/-- 'commonplacelaw02.ValueMember': WHATEVER THE INPUT: true; the input reads as it did. -/
def valueMemberSpec : ChangeSpec := { name := "valueMember", fn := fun _ => fun
  | [d1, d2] => { results := [.lit (.bool true)], args := [d1, d2] }
  | _ => none }
def valueMemberRow : OpenClaim := { program := "ythcppegkpkgnpaadoor", sum := "d1b774c6e9ba615ec1f023d47508efe9468fc201bdf05732975967f517f150e0", func := "commonplace/commonplacelaw02.ValueMember", spec := "valueMember", inPlace := ["internal/bytealg.abigen_runtime_cmpstring"], unfollowed := true, recurses := true, named := ["unicode/utf8.first", "unicode/utf8.acceptRanges"], loops := true, apart := false, laid := [("unicode/utf8.acceptRanges", laid_unicode_utf8_acceptRanges), ("unicode/utf8.first", laid_unicode_utf8_first)] }
def ValueMemberSaid : Prop := valueMemberRow.holds Tryd.pinned (OpenSpec.ofChange valueMemberSpec)

/-- ITS FALSE NEIGHBOUR: 'it returns false'. Refute it at one input. -/
def valueMemberWrong : ChangeSpec := { name := "valueMember", fn := fun _ => fun
  | [d1, d2] => { results := [.lit (.bool false)], args := [d1, d2] }
  | _ => none }
def ValueMemberWrongFalsely : Prop := valueMemberRow.holds Tryd.pinned (OpenSpec.ofChange valueMemberWrong)

/- THE SECOND FORM. 'bulk': how many values and letters a reading holds, each counted each time it is reached (what is shared counts as often as it is met; a slice's spare places count too). A statement '..UptoSaid' is the law's where the arguments, and the package variables that the reading takes, are together of bulk at most 1048576: NARROWER than '..Said'. Prove '..Said' where nothing that the law and all that it calls make is longer than what came in: it says more and counts as full. Else prove '..UptoSaid'. A law counts once. -/
mutual
def uptoBulk {H : Type} : DataW H → Nat
  | .lit (.string bytes) => bytes.length + 1
  | .lit _ => 1
  | .nil => 1
  | .ptr d => uptoBulk d + 1
  | .slice elems spare => uptoBulkAll elems + uptoBulkAll spare + 1
  | .agg parts => uptoBulkAll parts + 1
  | .iface _ d => uptoBulk d + 1
  | .map entries => uptoBulkEntries entries + 1
  | .held _ => 1
def uptoBulkAll {H : Type} : List (DataW H) → Nat
  | [] => 0
  | d :: r => uptoBulk d + uptoBulkAll r
def uptoBulkEntries {H : Type} : List (Lit × DataW H) → Nat
  | [] => 0
  | x :: r => uptoBulkEntry x + uptoBulkEntries r
def uptoBulkEntry {H : Type} : Lit × DataW H → Nat
  | (.string bytes, d) => bytes.length + uptoBulk d + 1
  | (_, d) => uptoBulk d + 1
 end
def uptoSmall : (H : Type) → List (DataW H) → Bool := fun _ ds => decide (uptoBulkAll ds ≤ 1048576)
def OpenSpec.upto (s : _root_.Go.ChangeSpec) : _root_.Go.OpenSpec := { _root_.Go.OpenSpec.ofChange s with cond := some uptoSmall }

/-- 'commonplacelaw02.ValueObject', WHERE WHAT IT READS IS OF BULK AT MOST 1048576: true; the input reads as it did. -/
def valueObjectUptoRow : OpenClaim := { program := "ythcppegkpkgnpaadoor", sum := "d1b774c6e9ba615ec1f023d47508efe9468fc201bdf05732975967f517f150e0", func := "commonplace/commonplacelaw02.ValueObject", spec := "valueObject", inPlace := ["internal/reflectlite.ValueOf", "internal/reflectlite.Swapper", "(internal/reflectlite.Value).Len", "internal/bytealg.abigen_runtime_cmpstring"], unfollowed := true, recurses := true, named := ["unicode/utf8.first", "unicode/utf8.acceptRanges"], loops := true, apart := false, laid := [("unicode/utf8.acceptRanges", laid_unicode_utf8_acceptRanges), ("unicode/utf8.first", laid_unicode_utf8_first)], narrowed := true }
def ValueObjectUptoSaid : Prop := valueObjectUptoRow.holds Tryd.pinned (OpenSpec.upto valueObjectSpec)

/-- 'commonplacelaw02.ValueMay', WHERE WHAT IT READS IS OF BULK AT MOST 1048576: true; the input reads as it did. -/
def valueMayUptoRow : OpenClaim := { program := "ythcppegkpkgnpaadoor", sum := "d1b774c6e9ba615ec1f023d47508efe9468fc201bdf05732975967f517f150e0", func := "commonplace/commonplacelaw02.ValueMay", spec := "valueMay", inPlace := ["internal/bytealg.abigen_runtime_cmpstring"], unfollowed := true, recurses := true, named := ["unicode/utf8.first", "unicode/utf8.acceptRanges"], loops := true, apart := false, laid := [("unicode/utf8.acceptRanges", laid_unicode_utf8_acceptRanges), ("unicode/utf8.first", laid_unicode_utf8_first)], narrowed := true }
def ValueMayUptoSaid : Prop := valueMayUptoRow.holds Tryd.pinned (OpenSpec.upto valueMaySpec)

/-- 'commonplacelaw02.ValueMeasures', WHERE WHAT IT READS IS OF BULK AT MOST 1048576: true; the input reads as it did. -/
def valueMeasuresUptoRow : OpenClaim := { program := "ythcppegkpkgnpaadoor", sum := "d1b774c6e9ba615ec1f023d47508efe9468fc201bdf05732975967f517f150e0", func := "commonplace/commonplacelaw02.ValueMeasures", spec := "valueMeasures", inPlace := ["internal/bytealg.abigen_runtime_cmpstring"], unfollowed := true, recurses := true, named := ["unicode/utf8.first", "unicode/utf8.acceptRanges"], loops := true, apart := false, laid := [("unicode/utf8.acceptRanges", laid_unicode_utf8_acceptRanges), ("unicode/utf8.first", laid_unicode_utf8_first)], narrowed := true }
def ValueMeasuresUptoSaid : Prop := valueMeasuresUptoRow.holds Tryd.pinned (OpenSpec.upto valueMeasuresSpec)

/-- 'commonplacelaw02.ValueWithin', WHERE WHAT IT READS IS OF BULK AT MOST 1048576: true; the input reads as it did. -/
def valueWithinUptoRow : OpenClaim := { program := "ythcppegkpkgnpaadoor", sum := "d1b774c6e9ba615ec1f023d47508efe9468fc201bdf05732975967f517f150e0", func := "commonplace/commonplacelaw02.ValueWithin", spec := "valueWithin", inPlace := ["internal/bytealg.abigen_runtime_cmpstring"], unfollowed := true, recurses := true, named := ["unicode/utf8.first", "unicode/utf8.acceptRanges"], loops := true, apart := false, laid := [("unicode/utf8.acceptRanges", laid_unicode_utf8_acceptRanges), ("unicode/utf8.first", laid_unicode_utf8_first)], narrowed := true }
def ValueWithinUptoSaid : Prop := valueWithinUptoRow.holds Tryd.pinned (OpenSpec.upto valueWithinSpec)

/-- 'commonplacelaw02.ValueOrders', WHERE WHAT IT READS IS OF BULK AT MOST 1048576: true; the input reads as it did. -/
def valueOrdersUptoRow : OpenClaim := { program := "ythcppegkpkgnpaadoor", sum := "d1b774c6e9ba615ec1f023d47508efe9468fc201bdf05732975967f517f150e0", func := "commonplace/commonplacelaw02.ValueOrders", spec := "valueOrders", inPlace := ["internal/bytealg.abigen_runtime_cmpstring"], unfollowed := true, recurses := true, named := ["unicode/utf8.first", "unicode/utf8.acceptRanges"], loops := true, apart := false, laid := [("unicode/utf8.acceptRanges", laid_unicode_utf8_acceptRanges), ("unicode/utf8.first", laid_unicode_utf8_first)], narrowed := true }
def ValueOrdersUptoSaid : Prop := valueOrdersUptoRow.holds Tryd.pinned (OpenSpec.upto valueOrdersSpec)

/-- 'commonplacelaw02.ValueChain', WHERE WHAT IT READS IS OF BULK AT MOST 1048576: true; the input reads as it did. -/
def valueChainUptoRow : OpenClaim := { program := "ythcppegkpkgnpaadoor", sum := "d1b774c6e9ba615ec1f023d47508efe9468fc201bdf05732975967f517f150e0", func := "commonplace/commonplacelaw02.ValueChain", spec := "valueChain", inPlace := ["internal/bytealg.abigen_runtime_cmpstring"], unfollowed := true, recurses := true, named := ["unicode/utf8.first", "unicode/utf8.acceptRanges"], loops := true, apart := false, laid := [("unicode/utf8.acceptRanges", laid_unicode_utf8_acceptRanges), ("unicode/utf8.first", laid_unicode_utf8_first)], narrowed := true }
def ValueChainUptoSaid : Prop := valueChainUptoRow.holds Tryd.pinned (OpenSpec.upto valueChainSpec)

/-- 'commonplacelaw02.ValueCopies', WHERE WHAT IT READS IS OF BULK AT MOST 1048576: true; the input reads as it did. -/
def valueCopiesUptoRow : OpenClaim := { program := "ythcppegkpkgnpaadoor", sum := "d1b774c6e9ba615ec1f023d47508efe9468fc201bdf05732975967f517f150e0", func := "commonplace/commonplacelaw02.ValueCopies", spec := "valueCopies", inPlace := ["internal/bytealg.abigen_runtime_cmpstring"], unfollowed := true, recurses := true, named := ["unicode/utf8.first", "unicode/utf8.acceptRanges"], loops := true, apart := false, laid := [("unicode/utf8.acceptRanges", laid_unicode_utf8_acceptRanges), ("unicode/utf8.first", laid_unicode_utf8_first)], narrowed := true }
def ValueCopiesUptoSaid : Prop := valueCopiesUptoRow.holds Tryd.pinned (OpenSpec.upto valueCopiesSpec)

/-- 'commonplacelaw02.ValueMember', WHERE WHAT IT READS IS OF BULK AT MOST 1048576: true; the input reads as it did. -/
def valueMemberUptoRow : OpenClaim := { program := "ythcppegkpkgnpaadoor", sum := "d1b774c6e9ba615ec1f023d47508efe9468fc201bdf05732975967f517f150e0", func := "commonplace/commonplacelaw02.ValueMember", spec := "valueMember", inPlace := ["internal/bytealg.abigen_runtime_cmpstring"], unfollowed := true, recurses := true, named := ["unicode/utf8.first", "unicode/utf8.acceptRanges"], loops := true, apart := false, laid := [("unicode/utf8.acceptRanges", laid_unicode_utf8_acceptRanges), ("unicode/utf8.first", laid_unicode_utf8_first)], narrowed := true }
def ValueMemberUptoSaid : Prop := valueMemberUptoRow.holds Tryd.pinned (OpenSpec.upto valueMemberSpec)

end Rows
end Go.Proofs.YthcppegkpkgnpaaDoor
