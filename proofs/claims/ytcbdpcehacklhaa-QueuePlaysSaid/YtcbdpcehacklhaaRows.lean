/-
  NARROWER THAN 'FOR EVERY INPUT', by the rows' own cells (each row's printed sentence says how): QueueOwn: loops · QueueParts: loops · QueueAgain: loops · QueuePlays: loops.
  DERIVED. THE GIVEN ROWS OF THIS SEAT. 6 by the template 'for every input the law returns true; each argument reads behind the call as it read before'; 0 by the template 'total and deterministic' (their statements: YtcbdpcehacklhaaTotals.lean).
  GIVEN WITH THE SEED: the statements are not yours to turn. If you find one false, say at which input.
  Laid BY PROGRAM, IN A SANDBOX (cutbox-rows.mjs): the forced cells as the released guide's own fill.sh prints them over the translation 70eeaf77fb7a4023… (all of the seat's roots in one cut). By AI agents, Wed Nov 11 2026. No macro, syntax, notation, axiom, sorry.
-/
import Derived.Test.YtcbdpcehacklhaaChecked
import GoSem.Claim
import GoSem.ClaimJoined
import GoSem.ClaimMapViews
import Derived.JoinedTies
import Derived.KernelRfl
namespace Go.Proofs.Ytcbdpcehacklhaa
/- THE CELL 'sum', in the pinned program and in every row, IS THE sha256 OF THE DUMP (.gsa) THAT YtcbdpcehacklhaaProg.lean LOADS. Nothing in Lean hashes anything: it is a label: what it is worth is what the hold of that sum in a sandbox is worth. -/
noncomputable def Try.pinned : Pinned := { name := "ytcbdpcehacklhaa", sum := "70eeaf77fb7a402311bbd6ffc27c2c2a4e7d3a379c89f257c21e87b14730f540", checked := Try.checked }
namespace Rows
def none {H : Type} : Left H := { results := [], args := [] }

/-- 'commonplacelaw23.QueueOwn': WHATEVER THE INPUT: true; the input reads as it did. -/
def queueOwnSpec : ChangeSpec := { name := "queueOwn", fn := fun _ => fun
  | [d] => { results := [.lit (.bool true)], args := [d] }
  | _ => none }
def queueOwnRow : OpenClaim := { program := "ytcbdpcehacklhaa", sum := "70eeaf77fb7a402311bbd6ffc27c2c2a4e7d3a379c89f257c21e87b14730f540", func := "commonplace/commonplacelaw23.QueueOwn", spec := "queueOwn", unfollowed := true, recurses := true, loops := true, apart := false }
def QueueOwnSaid : Prop := queueOwnRow.holds Try.pinned (OpenSpec.ofChange queueOwnSpec)

/-- ITS FALSE NEIGHBOUR: 'it returns false'. Refute it at one input. -/
def queueOwnWrong : ChangeSpec := { name := "queueOwn", fn := fun _ => fun
  | [d] => { results := [.lit (.bool false)], args := [d] }
  | _ => none }
def QueueOwnWrongFalsely : Prop := queueOwnRow.holds Try.pinned (OpenSpec.ofChange queueOwnWrong)

/-- 'commonplacelaw23.QueueParts': WHATEVER THE INPUT: true; the input reads as it did. -/
def queuePartsSpec : ChangeSpec := { name := "queueParts", fn := fun _ => fun
  | [d1, d2] => { results := [.lit (.bool true)], args := [d1, d2] }
  | _ => none }
def queuePartsRow : OpenClaim := { program := "ytcbdpcehacklhaa", sum := "70eeaf77fb7a402311bbd6ffc27c2c2a4e7d3a379c89f257c21e87b14730f540", func := "commonplace/commonplacelaw23.QueueParts", spec := "queueParts", unfollowed := true, recurses := true, loops := true, apart := false }
def QueuePartsSaid : Prop := queuePartsRow.holds Try.pinned (OpenSpec.ofChange queuePartsSpec)

/-- ITS FALSE NEIGHBOUR: 'it returns false'. Refute it at one input. -/
def queuePartsWrong : ChangeSpec := { name := "queueParts", fn := fun _ => fun
  | [d1, d2] => { results := [.lit (.bool false)], args := [d1, d2] }
  | _ => none }
def QueuePartsWrongFalsely : Prop := queuePartsRow.holds Try.pinned (OpenSpec.ofChange queuePartsWrong)

/-- 'commonplacelaw23.QueueLast': WHATEVER THE INPUT: true; the input reads as it did. -/
def queueLastSpec : ChangeSpec := { name := "queueLast", fn := fun _ => fun
  | [d1, d2] => { results := [.lit (.bool true)], args := [d1, d2] }
  | _ => none }
def queueLastRow : OpenClaim := { program := "ytcbdpcehacklhaa", sum := "70eeaf77fb7a402311bbd6ffc27c2c2a4e7d3a379c89f257c21e87b14730f540", func := "commonplace/commonplacelaw23.QueueLast", spec := "queueLast", unfollowed := true, recurses := true, apart := false }
def QueueLastSaid : Prop := queueLastRow.holds Try.pinned (OpenSpec.ofChange queueLastSpec)

/-- ITS FALSE NEIGHBOUR: 'it returns false'. Refute it at one input. -/
def queueLastWrong : ChangeSpec := { name := "queueLast", fn := fun _ => fun
  | [d1, d2] => { results := [.lit (.bool false)], args := [d1, d2] }
  | _ => none }
def QueueLastWrongFalsely : Prop := queueLastRow.holds Try.pinned (OpenSpec.ofChange queueLastWrong)

/-- 'commonplacelaw23.QueueNil': WHATEVER THE INPUT: true; the input reads as it did. -/
def queueNilSpec : ChangeSpec := { name := "queueNil", fn := fun _ => fun
  | [d] => { results := [.lit (.bool true)], args := [d] }
  | _ => none }
def queueNilRow : OpenClaim := { program := "ytcbdpcehacklhaa", sum := "70eeaf77fb7a402311bbd6ffc27c2c2a4e7d3a379c89f257c21e87b14730f540", func := "commonplace/commonplacelaw23.QueueNil", spec := "queueNil", unfollowed := true, recurses := true, apart := false }
def QueueNilSaid : Prop := queueNilRow.holds Try.pinned (OpenSpec.ofChange queueNilSpec)

/-- ITS FALSE NEIGHBOUR: 'it returns false'. Refute it at one input. -/
def queueNilWrong : ChangeSpec := { name := "queueNil", fn := fun _ => fun
  | [d] => { results := [.lit (.bool false)], args := [d] }
  | _ => none }
def QueueNilWrongFalsely : Prop := queueNilRow.holds Try.pinned (OpenSpec.ofChange queueNilWrong)

/-- 'commonplacelaw23.QueueAgain': WHATEVER THE INPUT: true; the input reads as it did. -/
def queueAgainSpec : ChangeSpec := { name := "queueAgain", fn := fun _ => fun
  | [d1, d2] => { results := [.lit (.bool true)], args := [d1, d2] }
  | _ => none }
def queueAgainRow : OpenClaim := { program := "ytcbdpcehacklhaa", sum := "70eeaf77fb7a402311bbd6ffc27c2c2a4e7d3a379c89f257c21e87b14730f540", func := "commonplace/commonplacelaw23.QueueAgain", spec := "queueAgain", unfollowed := true, recurses := true, loops := true, apart := false }
def QueueAgainSaid : Prop := queueAgainRow.holds Try.pinned (OpenSpec.ofChange queueAgainSpec)

/-- ITS FALSE NEIGHBOUR: 'it returns false'. Refute it at one input. -/
def queueAgainWrong : ChangeSpec := { name := "queueAgain", fn := fun _ => fun
  | [d1, d2] => { results := [.lit (.bool false)], args := [d1, d2] }
  | _ => none }
def QueueAgainWrongFalsely : Prop := queueAgainRow.holds Try.pinned (OpenSpec.ofChange queueAgainWrong)

/-- 'commonplacelaw23.QueuePlays': WHATEVER THE INPUT: true; the input reads as it did. -/
def queuePlaysSpec : ChangeSpec := { name := "queuePlays", fn := fun _ => fun
  | [d1, d2, d3] => { results := [.lit (.bool true)], args := [d1, d2, d3] }
  | _ => none }
def queuePlaysRow : OpenClaim := { program := "ytcbdpcehacklhaa", sum := "70eeaf77fb7a402311bbd6ffc27c2c2a4e7d3a379c89f257c21e87b14730f540", func := "commonplace/commonplacelaw23.QueuePlays", spec := "queuePlays", unfollowed := true, recurses := true, loops := true, apart := false }
def QueuePlaysSaid : Prop := queuePlaysRow.holds Try.pinned (OpenSpec.ofChange queuePlaysSpec)

/-- ITS FALSE NEIGHBOUR: 'it returns false'. Refute it at one input. -/
def queuePlaysWrong : ChangeSpec := { name := "queuePlays", fn := fun _ => fun
  | [d1, d2, d3] => { results := [.lit (.bool false)], args := [d1, d2, d3] }
  | _ => none }
def QueuePlaysWrongFalsely : Prop := queuePlaysRow.holds Try.pinned (OpenSpec.ofChange queuePlaysWrong)

/- THE SECOND FORM. 'bulk': how many values and letters a reading holds, each counted each time it is reached (what is shared counts as often as it is met; a slice's spare places count too). A statement '..UptoSaid' is the law's where the arguments, and the package variables that the reading takes, are together of bulk at most 1048576: NARROWER than '..Said'. Prove '..Said' where nothing that the law and all that it calls make is longer than what came in: it says more and counts as full. Else prove '..UptoSaid'. A law counts once. -/
mutual
def uptoBulk {H : Type} : DataW H → Nat
  | .lit (.string bytes) => bytes.length + 1
  | .lit _ => 1
  | .nil => 1
  | .ptr d => uptoBulk d + 1
  | .slice elems spare => uptoBulkAll elems + uptoBulkAll spare + 1
  | .agg parts => uptoBulkAll parts + 1
  | .iface _ d => uptoBulk d + 1
  | .map entries => uptoBulkEntries entries + 1
  | .held _ => 1
def uptoBulkAll {H : Type} : List (DataW H) → Nat
  | [] => 0
  | d :: r => uptoBulk d + uptoBulkAll r
def uptoBulkEntries {H : Type} : List (Lit × DataW H) → Nat
  | [] => 0
  | x :: r => uptoBulkEntry x + uptoBulkEntries r
def uptoBulkEntry {H : Type} : Lit × DataW H → Nat
  | (.string bytes, d) => bytes.length + uptoBulk d + 1
  | (_, d) => uptoBulk d + 1
 end
def uptoSmall : (H : Type) → List (DataW H) → Bool := fun _ ds => decide (uptoBulkAll ds ≤ 1048576)
def OpenSpec.upto (s : _root_.Go.ChangeSpec) : _root_.Go.OpenSpec := { _root_.Go.OpenSpec.ofChange s with cond := some uptoSmall }

/-- 'commonplacelaw23.QueueOwn', WHERE WHAT IT READS IS OF BULK AT MOST 1048576: true; the input reads as it did. -/
def queueOwnUptoRow : OpenClaim := { program := "ytcbdpcehacklhaa", sum := "70eeaf77fb7a402311bbd6ffc27c2c2a4e7d3a379c89f257c21e87b14730f540", func := "commonplace/commonplacelaw23.QueueOwn", spec := "queueOwn", unfollowed := true, recurses := true, loops := true, apart := false, narrowed := true }
def QueueOwnUptoSaid : Prop := queueOwnUptoRow.holds Try.pinned (OpenSpec.upto queueOwnSpec)

/-- 'commonplacelaw23.QueueParts', WHERE WHAT IT READS IS OF BULK AT MOST 1048576: true; the input reads as it did. -/
def queuePartsUptoRow : OpenClaim := { program := "ytcbdpcehacklhaa", sum := "70eeaf77fb7a402311bbd6ffc27c2c2a4e7d3a379c89f257c21e87b14730f540", func := "commonplace/commonplacelaw23.QueueParts", spec := "queueParts", unfollowed := true, recurses := true, loops := true, apart := false, narrowed := true }
def QueuePartsUptoSaid : Prop := queuePartsUptoRow.holds Try.pinned (OpenSpec.upto queuePartsSpec)

/-- 'commonplacelaw23.QueueLast', WHERE WHAT IT READS IS OF BULK AT MOST 1048576: true; the input reads as it did. -/
def queueLastUptoRow : OpenClaim := { program := "ytcbdpcehacklhaa", sum := "70eeaf77fb7a402311bbd6ffc27c2c2a4e7d3a379c89f257c21e87b14730f540", func := "commonplace/commonplacelaw23.QueueLast", spec := "queueLast", unfollowed := true, recurses := true, apart := false, narrowed := true }
def QueueLastUptoSaid : Prop := queueLastUptoRow.holds Try.pinned (OpenSpec.upto queueLastSpec)

/-- 'commonplacelaw23.QueueNil', WHERE WHAT IT READS IS OF BULK AT MOST 1048576: true; the input reads as it did. -/
def queueNilUptoRow : OpenClaim := { program := "ytcbdpcehacklhaa", sum := "70eeaf77fb7a402311bbd6ffc27c2c2a4e7d3a379c89f257c21e87b14730f540", func := "commonplace/commonplacelaw23.QueueNil", spec := "queueNil", unfollowed := true, recurses := true, apart := false, narrowed := true }
def QueueNilUptoSaid : Prop := queueNilUptoRow.holds Try.pinned (OpenSpec.upto queueNilSpec)

/-- 'commonplacelaw23.QueueAgain', WHERE WHAT IT READS IS OF BULK AT MOST 1048576: true; the input reads as it did. -/
def queueAgainUptoRow : OpenClaim := { program := "ytcbdpcehacklhaa", sum := "70eeaf77fb7a402311bbd6ffc27c2c2a4e7d3a379c89f257c21e87b14730f540", func := "commonplace/commonplacelaw23.QueueAgain", spec := "queueAgain", unfollowed := true, recurses := true, loops := true, apart := false, narrowed := true }
def QueueAgainUptoSaid : Prop := queueAgainUptoRow.holds Try.pinned (OpenSpec.upto queueAgainSpec)

/-- 'commonplacelaw23.QueuePlays', WHERE WHAT IT READS IS OF BULK AT MOST 1048576: true; the input reads as it did. -/
def queuePlaysUptoRow : OpenClaim := { program := "ytcbdpcehacklhaa", sum := "70eeaf77fb7a402311bbd6ffc27c2c2a4e7d3a379c89f257c21e87b14730f540", func := "commonplace/commonplacelaw23.QueuePlays", spec := "queuePlays", unfollowed := true, recurses := true, loops := true, apart := false, narrowed := true }
def QueuePlaysUptoSaid : Prop := queuePlaysUptoRow.holds Try.pinned (OpenSpec.upto queuePlaysSpec)

end Rows
end Go.Proofs.Ytcbdpcehacklhaa
