/-
  No cell of these rows narrows 'for every input' (looked for: loops, veiled, ifaces, maps, wideKeys, modest, calm, conditions, laid).
  DERIVED. THE GIVEN ROWS OF THIS SEAT. 6 by the template 'for every input the law returns true; each argument reads behind the call as it read before'; 0 by the template 'total and deterministic' (their statements: YtlhhognabmnlmaaTotals.lean).
  GIVEN WITH THE SEED: the statements are not yours to turn. If you find one false, say at which input.
  Laid BY PROGRAM, IN A SANDBOX (cutbox-rows.mjs): the forced cells as the released guide's own fill.sh prints them over the translation de8d01d3c27b9fe6… (all of the seat's roots in one cut). By AI agents, Wed Nov 11 2026. No macro, syntax, notation, axiom, sorry.
-/
import Derived.Test.YtlhhognabmnlmaaChecked
import GoSem.Claim
import GoSem.ClaimJoined
import GoSem.ClaimMapViews
import Derived.JoinedTies
import Derived.KernelRfl
namespace Go.Proofs.Ytlhhognabmnlmaa
/- THE CELL 'sum', in the pinned program and in every row, IS THE sha256 OF THE DUMP (.gsa) THAT YtlhhognabmnlmaaProg.lean LOADS. Nothing in Lean hashes anything: it is a label: what it is worth is what the hold of that sum in a sandbox is worth. -/
noncomputable def Try.pinned : Pinned := { name := "ytlhhognabmnlmaa", sum := "de8d01d3c27b9fe6722d97bf651cb067b7c84e91e5aaf05e08f543ed478e42ae", checked := Try.checked }
namespace Rows
def none {H : Type} : Left H := { results := [], args := [] }

/-- 'commonplacelaw20.TableNil': WHATEVER THE INPUT: true; the input reads as it did. -/
def tableNilSpec : ChangeSpec := { name := "tableNil", fn := fun _ => fun
  | [d1, d2] => { results := [.lit (.bool true)], args := [d1, d2] }
  | _ => none }
def tableNilRow : OpenClaim := { program := "ytlhhognabmnlmaa", sum := "de8d01d3c27b9fe6722d97bf651cb067b7c84e91e5aaf05e08f543ed478e42ae", func := "commonplace/commonplacelaw20.TableNil", spec := "tableNil", unfollowed := true, recurses := true, apart := false }
def TableNilSaid : Prop := tableNilRow.holds Try.pinned (OpenSpec.ofChange tableNilSpec)

/-- ITS FALSE NEIGHBOUR: 'it returns false'. Refute it at one input. -/
def tableNilWrong : ChangeSpec := { name := "tableNil", fn := fun _ => fun
  | [d1, d2] => { results := [.lit (.bool false)], args := [d1, d2] }
  | _ => none }
def TableNilWrongFalsely : Prop := tableNilRow.holds Try.pinned (OpenSpec.ofChange tableNilWrong)

/-- 'commonplacelaw20.TableNotes': WHATEVER THE INPUT: true; the input reads as it did. -/
def tableNotesSpec : ChangeSpec := { name := "tableNotes", fn := fun _ => fun
  | [d1, d2] => { results := [.lit (.bool true)], args := [d1, d2] }
  | _ => none }
def tableNotesRow : OpenClaim := { program := "ytlhhognabmnlmaa", sum := "de8d01d3c27b9fe6722d97bf651cb067b7c84e91e5aaf05e08f543ed478e42ae", func := "commonplace/commonplacelaw20.TableNotes", spec := "tableNotes", unfollowed := true, recurses := true, apart := false }
def TableNotesSaid : Prop := tableNotesRow.holds Try.pinned (OpenSpec.ofChange tableNotesSpec)

/-- ITS FALSE NEIGHBOUR: 'it returns false'. Refute it at one input. -/
def tableNotesWrong : ChangeSpec := { name := "tableNotes", fn := fun _ => fun
  | [d1, d2] => { results := [.lit (.bool false)], args := [d1, d2] }
  | _ => none }
def TableNotesWrongFalsely : Prop := tableNotesRow.holds Try.pinned (OpenSpec.ofChange tableNotesWrong)

/-- 'commonplacelaw20.TableOrder': WHATEVER THE INPUT: true; the input reads as it did. -/
def tableOrderSpec : ChangeSpec := { name := "tableOrder", fn := fun _ => fun
  | [d1, d2] => { results := [.lit (.bool true)], args := [d1, d2] }
  | _ => none }
def tableOrderRow : OpenClaim := { program := "ytlhhognabmnlmaa", sum := "de8d01d3c27b9fe6722d97bf651cb067b7c84e91e5aaf05e08f543ed478e42ae", func := "commonplace/commonplacelaw20.TableOrder", spec := "tableOrder", unfollowed := true, recurses := true, apart := false }
def TableOrderSaid : Prop := tableOrderRow.holds Try.pinned (OpenSpec.ofChange tableOrderSpec)

/-- ITS FALSE NEIGHBOUR: 'it returns false'. Refute it at one input. -/
def tableOrderWrong : ChangeSpec := { name := "tableOrder", fn := fun _ => fun
  | [d1, d2] => { results := [.lit (.bool false)], args := [d1, d2] }
  | _ => none }
def TableOrderWrongFalsely : Prop := tableOrderRow.holds Try.pinned (OpenSpec.ofChange tableOrderWrong)

/-- 'commonplacelaw20.TableRises': WHATEVER THE INPUT: true; the input reads as it did. -/
def tableRisesSpec : ChangeSpec := { name := "tableRises", fn := fun _ => fun
  | [d1, d2, d3, d4] => { results := [.lit (.bool true)], args := [d1, d2, d3, d4] }
  | _ => none }
def tableRisesRow : OpenClaim := { program := "ytlhhognabmnlmaa", sum := "de8d01d3c27b9fe6722d97bf651cb067b7c84e91e5aaf05e08f543ed478e42ae", func := "commonplace/commonplacelaw20.TableRises", spec := "tableRises", unfollowed := true, recurses := true, apart := false }
def TableRisesSaid : Prop := tableRisesRow.holds Try.pinned (OpenSpec.ofChange tableRisesSpec)

/-- ITS FALSE NEIGHBOUR: 'it returns false'. Refute it at one input. -/
def tableRisesWrong : ChangeSpec := { name := "tableRises", fn := fun _ => fun
  | [d1, d2, d3, d4] => { results := [.lit (.bool false)], args := [d1, d2, d3, d4] }
  | _ => none }
def TableRisesWrongFalsely : Prop := tableRisesRow.holds Try.pinned (OpenSpec.ofChange tableRisesWrong)

/-- 'commonplacelaw20.TablePlays': WHATEVER THE INPUT: true; the input reads as it did. -/
def tablePlaysSpec : ChangeSpec := { name := "tablePlays", fn := fun _ => fun
  | [d] => { results := [.lit (.bool true)], args := [d] }
  | _ => none }
def tablePlaysRow : OpenClaim := { program := "ytlhhognabmnlmaa", sum := "de8d01d3c27b9fe6722d97bf651cb067b7c84e91e5aaf05e08f543ed478e42ae", func := "commonplace/commonplacelaw20.TablePlays", spec := "tablePlays", unfollowed := true, recurses := true, apart := false }
def TablePlaysSaid : Prop := tablePlaysRow.holds Try.pinned (OpenSpec.ofChange tablePlaysSpec)

/-- ITS FALSE NEIGHBOUR: 'it returns false'. Refute it at one input. -/
def tablePlaysWrong : ChangeSpec := { name := "tablePlays", fn := fun _ => fun
  | [d] => { results := [.lit (.bool false)], args := [d] }
  | _ => none }
def TablePlaysWrongFalsely : Prop := tablePlaysRow.holds Try.pinned (OpenSpec.ofChange tablePlaysWrong)

/-- 'commonplacelaw20.TableForgets': WHATEVER THE INPUT: true; the input reads as it did. -/
def tableForgetsSpec : ChangeSpec := { name := "tableForgets", fn := fun _ => fun
  | [d1, d2, d3, d4] => { results := [.lit (.bool true)], args := [d1, d2, d3, d4] }
  | _ => none }
def tableForgetsRow : OpenClaim := { program := "ytlhhognabmnlmaa", sum := "de8d01d3c27b9fe6722d97bf651cb067b7c84e91e5aaf05e08f543ed478e42ae", func := "commonplace/commonplacelaw20.TableForgets", spec := "tableForgets", unfollowed := true, recurses := true, apart := false }
def TableForgetsSaid : Prop := tableForgetsRow.holds Try.pinned (OpenSpec.ofChange tableForgetsSpec)

/-- ITS FALSE NEIGHBOUR: 'it returns false'. Refute it at one input. -/
def tableForgetsWrong : ChangeSpec := { name := "tableForgets", fn := fun _ => fun
  | [d1, d2, d3, d4] => { results := [.lit (.bool false)], args := [d1, d2, d3, d4] }
  | _ => none }
def TableForgetsWrongFalsely : Prop := tableForgetsRow.holds Try.pinned (OpenSpec.ofChange tableForgetsWrong)

/- THE SECOND FORM. 'bulk': how many values and letters a reading holds, each counted each time it is reached (what is shared counts as often as it is met; a slice's spare places count too). A statement '..UptoSaid' is the law's where the arguments, and the package variables that the reading takes, are together of bulk at most 1048576: NARROWER than '..Said'. Prove '..Said' where nothing that the law and all that it calls make is longer than what came in: it says more and counts as full. Else prove '..UptoSaid'. A law counts once. -/
mutual
def uptoBulk {H : Type} : DataW H → Nat
  | .lit (.string bytes) => bytes.length + 1
  | .lit _ => 1
  | .nil => 1
  | .ptr d => uptoBulk d + 1
  | .slice elems spare => uptoBulkAll elems + uptoBulkAll spare + 1
  | .agg parts => uptoBulkAll parts + 1
  | .iface _ d => uptoBulk d + 1
  | .map entries => uptoBulkEntries entries + 1
  | .held _ => 1
def uptoBulkAll {H : Type} : List (DataW H) → Nat
  | [] => 0
  | d :: r => uptoBulk d + uptoBulkAll r
def uptoBulkEntries {H : Type} : List (Lit × DataW H) → Nat
  | [] => 0
  | x :: r => uptoBulkEntry x + uptoBulkEntries r
def uptoBulkEntry {H : Type} : Lit × DataW H → Nat
  | (.string bytes, d) => bytes.length + uptoBulk d + 1
  | (_, d) => uptoBulk d + 1
 end
def uptoSmall : (H : Type) → List (DataW H) → Bool := fun _ ds => decide (uptoBulkAll ds ≤ 1048576)
def OpenSpec.upto (s : _root_.Go.ChangeSpec) : _root_.Go.OpenSpec := { _root_.Go.OpenSpec.ofChange s with cond := some uptoSmall }

/-- 'commonplacelaw20.TableNil', WHERE WHAT IT READS IS OF BULK AT MOST 1048576: true; the input reads as it did. -/
def tableNilUptoRow : OpenClaim := { program := "ytlhhognabmnlmaa", sum := "de8d01d3c27b9fe6722d97bf651cb067b7c84e91e5aaf05e08f543ed478e42ae", func := "commonplace/commonplacelaw20.TableNil", spec := "tableNil", unfollowed := true, recurses := true, apart := false, narrowed := true }
def TableNilUptoSaid : Prop := tableNilUptoRow.holds Try.pinned (OpenSpec.upto tableNilSpec)

/-- 'commonplacelaw20.TableNotes', WHERE WHAT IT READS IS OF BULK AT MOST 1048576: true; the input reads as it did. -/
def tableNotesUptoRow : OpenClaim := { program := "ytlhhognabmnlmaa", sum := "de8d01d3c27b9fe6722d97bf651cb067b7c84e91e5aaf05e08f543ed478e42ae", func := "commonplace/commonplacelaw20.TableNotes", spec := "tableNotes", unfollowed := true, recurses := true, apart := false, narrowed := true }
def TableNotesUptoSaid : Prop := tableNotesUptoRow.holds Try.pinned (OpenSpec.upto tableNotesSpec)

/-- 'commonplacelaw20.TableOrder', WHERE WHAT IT READS IS OF BULK AT MOST 1048576: true; the input reads as it did. -/
def tableOrderUptoRow : OpenClaim := { program := "ytlhhognabmnlmaa", sum := "de8d01d3c27b9fe6722d97bf651cb067b7c84e91e5aaf05e08f543ed478e42ae", func := "commonplace/commonplacelaw20.TableOrder", spec := "tableOrder", unfollowed := true, recurses := true, apart := false, narrowed := true }
def TableOrderUptoSaid : Prop := tableOrderUptoRow.holds Try.pinned (OpenSpec.upto tableOrderSpec)

/-- 'commonplacelaw20.TableRises', WHERE WHAT IT READS IS OF BULK AT MOST 1048576: true; the input reads as it did. -/
def tableRisesUptoRow : OpenClaim := { program := "ytlhhognabmnlmaa", sum := "de8d01d3c27b9fe6722d97bf651cb067b7c84e91e5aaf05e08f543ed478e42ae", func := "commonplace/commonplacelaw20.TableRises", spec := "tableRises", unfollowed := true, recurses := true, apart := false, narrowed := true }
def TableRisesUptoSaid : Prop := tableRisesUptoRow.holds Try.pinned (OpenSpec.upto tableRisesSpec)

/-- 'commonplacelaw20.TablePlays', WHERE WHAT IT READS IS OF BULK AT MOST 1048576: true; the input reads as it did. -/
def tablePlaysUptoRow : OpenClaim := { program := "ytlhhognabmnlmaa", sum := "de8d01d3c27b9fe6722d97bf651cb067b7c84e91e5aaf05e08f543ed478e42ae", func := "commonplace/commonplacelaw20.TablePlays", spec := "tablePlays", unfollowed := true, recurses := true, apart := false, narrowed := true }
def TablePlaysUptoSaid : Prop := tablePlaysUptoRow.holds Try.pinned (OpenSpec.upto tablePlaysSpec)

/-- 'commonplacelaw20.TableForgets', WHERE WHAT IT READS IS OF BULK AT MOST 1048576: true; the input reads as it did. -/
def tableForgetsUptoRow : OpenClaim := { program := "ytlhhognabmnlmaa", sum := "de8d01d3c27b9fe6722d97bf651cb067b7c84e91e5aaf05e08f543ed478e42ae", func := "commonplace/commonplacelaw20.TableForgets", spec := "tableForgets", unfollowed := true, recurses := true, apart := false, narrowed := true }
def TableForgetsUptoSaid : Prop := tableForgetsUptoRow.holds Try.pinned (OpenSpec.upto tableForgetsSpec)

end Rows
end Go.Proofs.Ytlhhognabmnlmaa
