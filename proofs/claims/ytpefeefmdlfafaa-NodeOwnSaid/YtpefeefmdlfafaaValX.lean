/-
  Values, seen in parts.
-/
import Derived.Test.YtpefeefmdlfafaaVal0
import Derived.Test.YtpefeefmdlfafaaFacts
import Derived.Test.YtpefeefmdlfafaaBase10
import Derived.Test.YtpefeefmdlfafaaBase11
import Derived.Test.YtpefeefmdlfafaaBase12
import Derived.Test.YtpefeefmdlfafaaBase13
import Derived.Test.YtpefeefmdlfafaaBase14
namespace Go.Proofs.Ytpefeefmdlfafaa
open Go Go.RowKit Go.Cx
set_option linter.unusedVariables false
/-- a list of values in memory -/
def LAt (w : World) (l : List V) (r : Value) : Prop := ∃ lc : List VC, lc.length = l.length ∧ SlK w 6 r l.length (lc.flatMap VC.c) ∧ ∀ j (h : j < l.length) (h' : j < lc.length), VAt w l[j] lc[j].c
theorem LAt.bel {w w' : World} {l : List V} {r : Value} (h : LAt w l r) (hb : Below w.heap.size w w') : LAt w' l r := by
  obtain ⟨lc, h1, h2, h3⟩ := h
  exact ⟨lc, h1, h2.bel hb, fun j h h' => (h3 j h h').bel hb⟩
/-- members in memory -/
def MAt (w : World) (ks : List (List UInt8)) (vs : List V) (r : Value) : Prop := ∃ oc : List VC, oc.length = vs.length ∧ ks.length = vs.length ∧ SlK w 7 r vs.length (mcells ks oc) ∧ ∀ j (h : j < vs.length) (h' : j < oc.length), VAt w vs[j] oc[j].c
theorem MAt.bel {w w' : World} {ks : List (List UInt8)} {l : List V} {r : Value} (h : MAt w ks l r) (hb : Below w.heap.size w w') : MAt w' ks l r := by
  obtain ⟨lc, h1, h0, h2, h3⟩ := h
  exact ⟨lc, h1, h0, h2.bel hb, fun j h h' => (h3 j h h').bel hb⟩
theorem vat_parts {w : World} {v : V} {c : List Value} (h : VAt w v c) : ∃ lv ov, LAt w v.l lv ∧ MAt w v.ks v.vs ov ∧ VOk v ∧ c = vcell v lv ov := by
  cases h with
  | mk ok h1 h2 hs h3 h4 ho => exact ⟨_, _, ⟨_, h1, hs, h2⟩, ⟨_, h3, ok.ks, ho, h4⟩, ok, rfl⟩
end Go.Proofs.Ytpefeefmdlfafaa
