/-
  What the reference's functions of chapter 15 compute: walks.
-/
import Derived.Test.YtjlclaimpepgiaaBase4
import Derived.Test.YtjlclaimpepgiaaFacts
import Derived.Test.YtjlclaimpepgiaaCrc0
namespace Go.Proofs.Ytjlclaimpepgiaa
open Go Go.RowKit Go.Cx
set_option linter.unusedVariables false
open Crc
abbrev Bs (w : World) (v : Value) (l : List UInt8) : Prop := SlK w 1 v l.length (l.map u8v)

/- commonplaceref15.go1 -/
theorem odd_eq (r : BitVec 32) (b : Nat) (hb : b < 2) : (r ^^^ BitVec.ofNat 32 b).getLsbD 0 = decide ((r.toNat : Int) % 2 ≠ (b : Int)) := by
  rw [BitVec.getLsbD_xor]
  have h1 : r.getLsbD 0 = decide (r.toNat % 2 = 1) := by simp [BitVec.getLsbD, Nat.testBit_zero]
  have h2 : (BitVec.ofNat 32 b).getLsbD 0 = decide (b = 1) := by
    have : b = 0 ∨ b = 1 := by omega
    rcases this with rfl | rfl <;> decide
  rw [h1, h2]
  have : r.toNat % 2 = 0 ∨ r.toNat % 2 = 1 := by omega
  have : b = 0 ∨ b = 1 := by omega
  by_cases h3 : r.toNat % 2 = 1 <;> by_cases h4 : b = 1 <;> simp [h3, h4] <;> omega
theorem shr_xor_bit (r : BitVec 32) (b : Nat) (hb : b < 2) : (r ^^^ BitVec.ofNat 32 b) >>> 1 = r >>> 1 := by
  rw [BitVec.ushiftRight_xor_distrib]
  have : (BitVec.ofNat 32 b) >>> 1 = 0 := by
    have : b = 0 ∨ b = 1 := by omega
    rcases this with rfl | rfl <;> decide
  rw [this]; simp
theorem half_val (r : BitVec 32) : Value.int .u32 ((r.toNat : Int) / 2) = u32v (r >>> 1) := by
  unfold u32v
  rw [BitVec.toNat_ushiftRight, Nat.shiftRight_eq_div_pow]; rfl
theorem not_val (s : BitVec 32) : Value.int .u32 (4294967295 - (s.toNat : Int)) = u32v (~~~ s) := by
  unfold u32v
  have := s.isLt
  rw [BitVec.toNat_not]
  apply int_eq; omega
/- commonplaceref15.More -/
/- commonplaceref15.Sum -/
/- commonplacelaw15.own -/
/-- new bytes of the call's own -/
def Own (w : World) (B : Nat) (v : Value) (l : List UInt8) : Prop := w.ownsRow B 5 1 v l.length (l.map u8v)
theorem Own.bs {w : World} {B : Nat} {v : Value} {l : List UInt8} (h : Own w B v l) : Bs w v l := ownsRow_sl h
theorem Own.bel {w w' : World} {B : Nat} {v : Value} {l : List UInt8} (h : Own w B v l) (hb : Below w.heap.size w w') : Own w' B v l := ownsRow_bel h hb
theorem one_u8 (l : List UInt8) : ∀ u ∈ l.map u8v, One u = true := by
  intro u hu
  obtain ⟨c, _, rfl⟩ := List.mem_map.1 hu
  rfl
/- commonplaceref15.Same -/
/- commonplaceref15.Seal -/
theorem leb_val (s : BitVec 32) (k : Nat) : Value.int .u8 ((sq s k : Int) % 256) = u8v (leb s k) := by
  apply int_eq
  rw [leb_toNat]; rfl
theorem le4_take_succ (s : BitVec 32) (k : Nat) (h : k < 4) : (le4 s).take (k + 1) = (le4 s).take k ++ [leb s k] := by
  have : k = 0 ∨ k = 1 ∨ k = 2 ∨ k = 3 := by omega
  rcases this with rfl | rfl | rfl | rfl <;> rfl
theorem le4_len (s : BitVec 32) : (le4 s).length = 4 := rfl
theorem sealed_len (l : List UInt8) : (sealed l).length = l.length + 4 := by simp [sealed, le4]
/- commonplaceref15.Open -/
def OpenRes (Q : World → Value → List UInt8 → Prop) (l : List UInt8) (v : Value) (w' : World) : Prop :=
  ∃ o, v = .tuple #[o, .bool (decide (IsSealed l))] ∧ Q w' o (opened l)
theorem OpenRes.no {Q : World → Value → List UInt8 → Prop} {l : List UInt8} {w' : World} (h : ¬ IsSealed l) (hq : Q w' (.slice none 0 0) []) : OpenRes Q l (.tuple #[.slice none 0 0, .bool false]) w' :=
  ⟨_, by rw [decide_eq_false h], by unfold opened; rw [if_neg h]; exact hq⟩
theorem OpenRes.yes {Q : World → Value → List UInt8 → Prop} {l : List UInt8} {w' : World} {o : Value} (h : IsSealed l) (hq : Q w' o (body l)) : OpenRes Q l (.tuple #[o, .bool true]) w' :=
  ⟨_, by rw [decide_eq_true h], by unfold opened; rw [if_pos h]; exact hq⟩
end Go.Proofs.Ytjlclaimpepgiaa
