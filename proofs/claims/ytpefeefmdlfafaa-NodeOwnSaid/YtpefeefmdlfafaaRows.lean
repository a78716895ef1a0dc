/-
  NARROWER THAN 'FOR EVERY INPUT', by the rows' own cells (each row's printed sentence says how): NodeBounds: loops · NodeInner: loops · NodeMakes: loops · NodeLooks: loops.
  DERIVED. THE GIVEN ROWS OF THIS SEAT. 6 by the template 'for every input the law returns true; each argument reads behind the call as it read before'; 0 by the template 'total and deterministic' (their statements: YtpefeefmdlfafaaTotals.lean).
  GIVEN WITH THE SEED: the statements are not yours to turn. If you find one false, say at which input.
  Laid BY PROGRAM, IN A SANDBOX (cutbox-rows.mjs): the forced cells as the released guide's own fill.sh prints them over the translation f14bca45e5ee549c… (all of the seat's roots in one cut). By AI agents, Wed Nov 11 2026. No macro, syntax, notation, axiom, sorry.
-/
import Derived.Test.YtpefeefmdlfafaaChecked
import GoSem.Claim
import GoSem.ClaimJoined
import GoSem.ClaimMapViews
import Derived.JoinedTies
import Derived.KernelRfl
namespace Go.Proofs.Ytpefeefmdlfafaa
/- THE CELL 'sum', in the pinned program and in every row, IS THE sha256 OF THE DUMP (.gsa) THAT YtpefeefmdlfafaaProg.lean LOADS. Nothing in Lean hashes anything: it is a label: what it is worth is what the hold of that sum in a sandbox is worth. -/
noncomputable def Try.pinned : Pinned := { name := "ytpefeefmdlfafaa", sum := "f14bca45e5ee549ce8a82d5ddb9408512e282b8028e95a1a507cbc9f9a7e4580", checked := Try.checked }
namespace Rows
def none {H : Type} : Left H := { results := [], args := [] }

/-- 'commonplacelaw06.NodeBounds': WHATEVER THE INPUT: true; the input reads as it did. -/
def nodeBoundsSpec : ChangeSpec := { name := "nodeBounds", fn := fun _ => fun
  | [d] => { results := [.lit (.bool true)], args := [d] }
  | _ => none }
def nodeBoundsRow : OpenClaim := { program := "ytpefeefmdlfafaa", sum := "f14bca45e5ee549ce8a82d5ddb9408512e282b8028e95a1a507cbc9f9a7e4580", func := "commonplace/commonplacelaw06.NodeBounds", spec := "nodeBounds", unfollowed := true, recurses := true, loops := true, apart := false }
def NodeBoundsSaid : Prop := nodeBoundsRow.holds Try.pinned (OpenSpec.ofChange nodeBoundsSpec)

/-- ITS FALSE NEIGHBOUR: 'it returns false'. Refute it at one input. -/
def nodeBoundsWrong : ChangeSpec := { name := "nodeBounds", fn := fun _ => fun
  | [d] => { results := [.lit (.bool false)], args := [d] }
  | _ => none }
def NodeBoundsWrongFalsely : Prop := nodeBoundsRow.holds Try.pinned (OpenSpec.ofChange nodeBoundsWrong)

/-- 'commonplacelaw06.NodeOwn': WHATEVER THE INPUT: true; the input reads as it did. -/
def nodeOwnSpec : ChangeSpec := { name := "nodeOwn", fn := fun _ => fun
  | [d1, d2] => { results := [.lit (.bool true)], args := [d1, d2] }
  | _ => none }
def nodeOwnRow : OpenClaim := { program := "ytpefeefmdlfafaa", sum := "f14bca45e5ee549ce8a82d5ddb9408512e282b8028e95a1a507cbc9f9a7e4580", func := "commonplace/commonplacelaw06.NodeOwn", spec := "nodeOwn", unfollowed := true, recurses := true, apart := false }
def NodeOwnSaid : Prop := nodeOwnRow.holds Try.pinned (OpenSpec.ofChange nodeOwnSpec)

/-- ITS FALSE NEIGHBOUR: 'it returns false'. Refute it at one input. -/
def nodeOwnWrong : ChangeSpec := { name := "nodeOwn", fn := fun _ => fun
  | [d1, d2] => { results := [.lit (.bool false)], args := [d1, d2] }
  | _ => none }
def NodeOwnWrongFalsely : Prop := nodeOwnRow.holds Try.pinned (OpenSpec.ofChange nodeOwnWrong)

/-- 'commonplacelaw06.NodeInner': WHATEVER THE INPUT: true; the input reads as it did. -/
def nodeInnerSpec : ChangeSpec := { name := "nodeInner", fn := fun _ => fun
  | [d] => { results := [.lit (.bool true)], args := [d] }
  | _ => none }
def nodeInnerRow : OpenClaim := { program := "ytpefeefmdlfafaa", sum := "f14bca45e5ee549ce8a82d5ddb9408512e282b8028e95a1a507cbc9f9a7e4580", func := "commonplace/commonplacelaw06.NodeInner", spec := "nodeInner", unfollowed := true, recurses := true, loops := true, apart := false }
def NodeInnerSaid : Prop := nodeInnerRow.holds Try.pinned (OpenSpec.ofChange nodeInnerSpec)

/-- ITS FALSE NEIGHBOUR: 'it returns false'. Refute it at one input. -/
def nodeInnerWrong : ChangeSpec := { name := "nodeInner", fn := fun _ => fun
  | [d] => { results := [.lit (.bool false)], args := [d] }
  | _ => none }
def NodeInnerWrongFalsely : Prop := nodeInnerRow.holds Try.pinned (OpenSpec.ofChange nodeInnerWrong)

/-- 'commonplacelaw06.NodeMakes': WHATEVER THE INPUT: true; the input reads as it did. -/
def nodeMakesSpec : ChangeSpec := { name := "nodeMakes", fn := fun _ => fun
  | [d] => { results := [.lit (.bool true)], args := [d] }
  | _ => none }
def nodeMakesRow : OpenClaim := { program := "ytpefeefmdlfafaa", sum := "f14bca45e5ee549ce8a82d5ddb9408512e282b8028e95a1a507cbc9f9a7e4580", func := "commonplace/commonplacelaw06.NodeMakes", spec := "nodeMakes", unfollowed := true, recurses := true, loops := true, apart := false }
def NodeMakesSaid : Prop := nodeMakesRow.holds Try.pinned (OpenSpec.ofChange nodeMakesSpec)

/-- ITS FALSE NEIGHBOUR: 'it returns false'. Refute it at one input. -/
def nodeMakesWrong : ChangeSpec := { name := "nodeMakes", fn := fun _ => fun
  | [d] => { results := [.lit (.bool false)], args := [d] }
  | _ => none }
def NodeMakesWrongFalsely : Prop := nodeMakesRow.holds Try.pinned (OpenSpec.ofChange nodeMakesWrong)

/-- 'commonplacelaw06.NodeNil': WHATEVER THE INPUT: true; the input reads as it did. -/
def nodeNilSpec : ChangeSpec := { name := "nodeNil", fn := fun _ => fun
  | [] => { results := [.lit (.bool true)], args := [] }
  | _ => none }
def nodeNilRow : OpenClaim := { program := "ytpefeefmdlfafaa", sum := "f14bca45e5ee549ce8a82d5ddb9408512e282b8028e95a1a507cbc9f9a7e4580", func := "commonplace/commonplacelaw06.NodeNil", spec := "nodeNil", unfollowed := true, recurses := true, apart := false }
def NodeNilSaid : Prop := nodeNilRow.holds Try.pinned (OpenSpec.ofChange nodeNilSpec)

/-- ITS FALSE NEIGHBOUR: 'it returns false'. Refute it at one input. -/
def nodeNilWrong : ChangeSpec := { name := "nodeNil", fn := fun _ => fun
  | [] => { results := [.lit (.bool false)], args := [] }
  | _ => none }
def NodeNilWrongFalsely : Prop := nodeNilRow.holds Try.pinned (OpenSpec.ofChange nodeNilWrong)

/-- 'commonplacelaw06.NodeLooks': WHATEVER THE INPUT: true; the input reads as it did. -/
def nodeLooksSpec : ChangeSpec := { name := "nodeLooks", fn := fun _ => fun
  | [d1, d2] => { results := [.lit (.bool true)], args := [d1, d2] }
  | _ => none }
def nodeLooksRow : OpenClaim := { program := "ytpefeefmdlfafaa", sum := "f14bca45e5ee549ce8a82d5ddb9408512e282b8028e95a1a507cbc9f9a7e4580", func := "commonplace/commonplacelaw06.NodeLooks", spec := "nodeLooks", unfollowed := true, recurses := true, loops := true, apart := false }
def NodeLooksSaid : Prop := nodeLooksRow.holds Try.pinned (OpenSpec.ofChange nodeLooksSpec)

/-- ITS FALSE NEIGHBOUR: 'it returns false'. Refute it at one input. -/
def nodeLooksWrong : ChangeSpec := { name := "nodeLooks", fn := fun _ => fun
  | [d1, d2] => { results := [.lit (.bool false)], args := [d1, d2] }
  | _ => none }
def NodeLooksWrongFalsely : Prop := nodeLooksRow.holds Try.pinned (OpenSpec.ofChange nodeLooksWrong)

/- THE SECOND FORM. 'bulk': how many values and letters a reading holds, each counted each time it is reached (what is shared counts as often as it is met; a slice's spare places count too). A statement '..UptoSaid' is the law's where the arguments, and the package variables that the reading takes, are together of bulk at most 1048576: NARROWER than '..Said'. Prove '..Said' where nothing that the law and all that it calls make is longer than what came in: it says more and counts as full. Else prove '..UptoSaid'. A law counts once. -/
mutual
def uptoBulk {H : Type} : DataW H → Nat
  | .lit (.string bytes) => bytes.length + 1
  | .lit _ => 1
  | .nil => 1
  | .ptr d => uptoBulk d + 1
  | .slice elems spare => uptoBulkAll elems + uptoBulkAll spare + 1
  | .agg parts => uptoBulkAll parts + 1
  | .iface _ d => uptoBulk d + 1
  | .map entries => uptoBulkEntries entries + 1
  | .held _ => 1
def uptoBulkAll {H : Type} : List (DataW H) → Nat
  | [] => 0
  | d :: r => uptoBulk d + uptoBulkAll r
def uptoBulkEntries {H : Type} : List (Lit × DataW H) → Nat
  | [] => 0
  | x :: r => uptoBulkEntry x + uptoBulkEntries r
def uptoBulkEntry {H : Type} : Lit × DataW H → Nat
  | (.string bytes, d) => bytes.length + uptoBulk d + 1
  | (_, d) => uptoBulk d + 1
 end
def uptoSmall : (H : Type) → List (DataW H) → Bool := fun _ ds => decide (uptoBulkAll ds ≤ 1048576)
def OpenSpec.upto (s : _root_.Go.ChangeSpec) : _root_.Go.OpenSpec := { _root_.Go.OpenSpec.ofChange s with cond := some uptoSmall }

/-- 'commonplacelaw06.NodeBounds', WHERE WHAT IT READS IS OF BULK AT MOST 1048576: true; the input reads as it did. -/
def nodeBoundsUptoRow : OpenClaim := { program := "ytpefeefmdlfafaa", sum := "f14bca45e5ee549ce8a82d5ddb9408512e282b8028e95a1a507cbc9f9a7e4580", func := "commonplace/commonplacelaw06.NodeBounds", spec := "nodeBounds", unfollowed := true, recurses := true, loops := true, apart := false, narrowed := true }
def NodeBoundsUptoSaid : Prop := nodeBoundsUptoRow.holds Try.pinned (OpenSpec.upto nodeBoundsSpec)

/-- 'commonplacelaw06.NodeOwn', WHERE WHAT IT READS IS OF BULK AT MOST 1048576: true; the input reads as it did. -/
def nodeOwnUptoRow : OpenClaim := { program := "ytpefeefmdlfafaa", sum := "f14bca45e5ee549ce8a82d5ddb9408512e282b8028e95a1a507cbc9f9a7e4580", func := "commonplace/commonplacelaw06.NodeOwn", spec := "nodeOwn", unfollowed := true, recurses := true, apart := false, narrowed := true }
def NodeOwnUptoSaid : Prop := nodeOwnUptoRow.holds Try.pinned (OpenSpec.upto nodeOwnSpec)

/-- 'commonplacelaw06.NodeInner', WHERE WHAT IT READS IS OF BULK AT MOST 1048576: true; the input reads as it did. -/
def nodeInnerUptoRow : OpenClaim := { program := "ytpefeefmdlfafaa", sum := "f14bca45e5ee549ce8a82d5ddb9408512e282b8028e95a1a507cbc9f9a7e4580", func := "commonplace/commonplacelaw06.NodeInner", spec := "nodeInner", unfollowed := true, recurses := true, loops := true, apart := false, narrowed := true }
def NodeInnerUptoSaid : Prop := nodeInnerUptoRow.holds Try.pinned (OpenSpec.upto nodeInnerSpec)

/-- 'commonplacelaw06.NodeMakes', WHERE WHAT IT READS IS OF BULK AT MOST 1048576: true; the input reads as it did. -/
def nodeMakesUptoRow : OpenClaim := { program := "ytpefeefmdlfafaa", sum := "f14bca45e5ee549ce8a82d5ddb9408512e282b8028e95a1a507cbc9f9a7e4580", func := "commonplace/commonplacelaw06.NodeMakes", spec := "nodeMakes", unfollowed := true, recurses := true, loops := true, apart := false, narrowed := true }
def NodeMakesUptoSaid : Prop := nodeMakesUptoRow.holds Try.pinned (OpenSpec.upto nodeMakesSpec)

/-- 'commonplacelaw06.NodeNil', WHERE WHAT IT READS IS OF BULK AT MOST 1048576: true; the input reads as it did. -/
def nodeNilUptoRow : OpenClaim := { program := "ytpefeefmdlfafaa", sum := "f14bca45e5ee549ce8a82d5ddb9408512e282b8028e95a1a507cbc9f9a7e4580", func := "commonplace/commonplacelaw06.NodeNil", spec := "nodeNil", unfollowed := true, recurses := true, apart := false, narrowed := true }
def NodeNilUptoSaid : Prop := nodeNilUptoRow.holds Try.pinned (OpenSpec.upto nodeNilSpec)

/-- 'commonplacelaw06.NodeLooks', WHERE WHAT IT READS IS OF BULK AT MOST 1048576: true; the input reads as it did. -/
def nodeLooksUptoRow : OpenClaim := { program := "ytpefeefmdlfafaa", sum := "f14bca45e5ee549ce8a82d5ddb9408512e282b8028e95a1a507cbc9f9a7e4580", func := "commonplace/commonplacelaw06.NodeLooks", spec := "nodeLooks", unfollowed := true, recurses := true, loops := true, apart := false, narrowed := true }
def NodeLooksUptoSaid : Prop := nodeLooksUptoRow.holds Try.pinned (OpenSpec.upto nodeLooksSpec)

end Rows
end Go.Proofs.Ytpefeefmdlfafaa
