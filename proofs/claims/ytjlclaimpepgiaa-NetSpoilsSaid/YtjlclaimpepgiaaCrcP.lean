/-
  Sealed rows: plain mathematics.
-/
import Derived.Test.YtjlclaimpepgiaaCrc2
namespace Go.Proofs.Ytjlclaimpepgiaa
open Go Go.RowKit Go.Cx
set_option linter.unusedVariables false
open Crc
theorem seal_isSealed (l : List UInt8) : IsSealed (sealed l) ∧ body (sealed l) = l := by
  have hb : body (sealed l) = l := by
    unfold body
    rw [sealed_len, show l.length + 4 - 4 = l.length by omega]
    unfold sealed
    rw [List.take_left]
  exact ⟨⟨by rw [sealed_len]; omega, by rw [hb]⟩, hb⟩
theorem opened_sealed (l : List UInt8) : opened (sealed l) = l := by
  unfold opened; rw [if_pos (seal_isSealed l).1, (seal_isSealed l).2]
theorem opened_len (l : List UInt8) : (opened l).length ≤ l.length := by
  unfold opened; split
  · unfold body; rw [List.length_take]; omega
  · simp
theorem sealed_opened (l : List UInt8) (h : IsSealed l) : sealed (opened l) = l := by
  unfold opened; rw [if_pos h]; exact h.2
theorem not_eq_xor (x : BitVec 32) : ~~~ x = x ^^^ BitVec.allOnes 32 := by
  apply BitVec.eq_of_getLsbD_eq
  intro i hi
  rw [BitVec.getLsbD_not, BitVec.getLsbD_xor, BitVec.getLsbD_allOnes]
  simp [hi]
end Go.Proofs.Ytjlclaimpepgiaa
