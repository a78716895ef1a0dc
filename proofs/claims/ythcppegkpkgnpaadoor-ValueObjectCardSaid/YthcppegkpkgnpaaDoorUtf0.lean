/-
  ref01: At, Valid; the laws of the decoder that they follow.
-/
import Derived.Test.YthcppegkpkgnpaaDoorBase7
import Derived.Test.YthcppegkpkgnpaaDoorBase12
import Derived.Test.YthcppegkpkgnpaaDoorFacts
import Derived.Lib.ValidLaws
namespace Go.Proofs.YthcppegkpkgnpaaDoor
open Go Go.RowKit Go.Cx
set_option linter.unusedVariables false
/-- the rune that a text begins with, and how many bytes it has; (0, 0): none -/
def atL (l : List UInt8) : Nat × Nat := if l = [] ∨ ((Lib.decodeL l).1 = 65533 ∧ (Lib.decodeL l).2 = 1) then (0, 0) else Lib.decodeL l
/-- the byte at a place, as a number -/
def bt (l : List UInt8) (i : Nat) : Nat := (l.getD i 0).toNat
theorem bt_lt (l : List UInt8) (i : Nat) : bt l i < 256 := UInt8.toNat_lt _
def contR (l : List UInt8) (r : Int) : Nat → Int
  | 0 => r
  | i + 1 => 64 * contR l r i + (bt l (i + 1) : Int) - 128
/-- the kinds of first bytes: how many bytes, what the first one gives, the least rune -/
def Kind (c n : Nat) (r least : Int) : Prop :=
  (192 ≤ c ∧ c < 224 ∧ n = 2 ∧ r = (c : Int) - 192 ∧ least = 128) ∨ (224 ≤ c ∧ c < 240 ∧ n = 3 ∧ r = (c : Int) - 224 ∧ least = 2048) ∨ (240 ≤ c ∧ c < 248 ∧ n = 4 ∧ r = (c : Int) - 240 ∧ least = 65536)
theorem atL_N (l : List UInt8) (h : l ≠ []) : atL l = if (Lib.decodeN l.length (bt l 0) (bt l 1) (bt l 2) (bt l 3)).1 = 65533 ∧ (Lib.decodeN l.length (bt l 0) (bt l 1) (bt l 2) (bt l 3)).2 = 1 then (0, 0) else Lib.decodeN l.length (bt l 0) (bt l 1) (bt l 2) (bt l 3) := by
  unfold atL
  rw [Lib.decodeL_N]
  simp only [h, false_or]
  rfl
theorem atL_one (l : List UInt8) (h : l ≠ []) (hc : bt l 0 < 128) : atL l = (bt l 0, 1) := by
  rw [atL_N l h]
  unfold Lib.decodeN
  rw [if_pos hc, if_neg (by simp only; omega)]
theorem atL_bad (l : List UInt8) (h : l ≠ []) (hc : 128 ≤ bt l 0) (hk : ¬ (192 ≤ bt l 0 ∧ bt l 0 < 248)) : atL l = (0, 0) := by
  rw [atL_N l h]
  have e : Lib.decodeN l.length (bt l 0) (bt l 1) (bt l 2) (bt l 3) = (65533, 1) := by
    have := bt_lt l 0
    unfold Lib.decodeN
    rw [if_neg (by omega), if_neg (by omega), if_neg (by omega), if_neg (by omega)]
  rw [e]
  rfl
theorem atL_short (l : List UInt8) (h : l ≠ []) {n : Nat} {r least : Int} (hk : Kind (bt l 0) n r least) (hn : l.length < n) : atL l = (0, 0) := by
  rw [atL_N l h]
  have e : Lib.decodeN l.length (bt l 0) (bt l 1) (bt l 2) (bt l 3) = (65533, 1) := by
    unfold Lib.decodeN
    rcases hk with ⟨h1, h2, rfl, _⟩ | ⟨h1, h2, rfl, _⟩ | ⟨h1, h2, rfl, _⟩ <;> rw [if_neg (by omega), if_neg (by omega), if_neg (by omega), if_neg (by omega)]
  rw [e]
  rfl
theorem atL_cont (l : List UInt8) (h : l ≠ []) {n i : Nat} {r least : Int} (hk : Kind (bt l 0) n r least) (h1 : 1 ≤ i) (hi : i < n) (hb : bt l i < 128 ∨ 192 ≤ bt l i) : atL l = (0, 0) := by
  rw [atL_N l h]
  have e : Lib.decodeN l.length (bt l 0) (bt l 1) (bt l 2) (bt l 3) = (65533, 1) := by
    have := bt_lt l i
    have hi3 : i = 1 ∨ i = 2 ∨ i = 3 := by rcases hk with ⟨_, _, rfl, _⟩ | ⟨_, _, rfl, _⟩ | ⟨_, _, rfl, _⟩ <;> omega
    unfold Lib.decodeN
    rcases hk with ⟨h1, h2, rfl, _⟩ | ⟨h1, h2, rfl, _⟩ | ⟨h1, h2, rfl, _⟩ <;> rcases hi3 with rfl | rfl | rfl <;> first | omega | rw [if_neg (by omega), if_neg (by omega), if_neg (by omega), if_neg (by omega)]
  rw [e]
  rfl
theorem atL_end (l : List UInt8) (h : l ≠ []) {n : Nat} {r least : Int} (hk : Kind (bt l 0) n r least) (hn : n ≤ l.length) (hb : ∀ i, 1 ≤ i → i < n → 128 ≤ bt l i ∧ bt l i < 192) :
    0 ≤ contR l r (n - 1) ∧ atL l = if contR l r (n - 1) < least ∨ contR l r (n - 1) > 1114111 ∨ (contR l r (n - 1) ≥ 55296 ∧ contR l r (n - 1) < 57344) then (0, 0) else ((contR l r (n - 1)).toNat, n) := by
  rw [atL_N l h]
  have b1 := hb 1
  have b2 := hb 2
  have b3 := hb 3
  rcases hk with ⟨h1, h2, rfl, rfl, rfl⟩ | ⟨h1, h2, rfl, rfl, rfl⟩ | ⟨h1, h2, rfl, rfl, rfl⟩
  · have b1 := b1 (by omega) (by omega)
    have d : Lib.decodeN l.length (bt l 0) (bt l 1) (bt l 2) (bt l 3) = (if bt l 0 % 32 * 64 + bt l 1 % 64 ≥ 128 then (bt l 0 % 32 * 64 + bt l 1 % 64, 2) else (65533, 1)) := by unfold Lib.decodeN; rw [if_neg (by omega), if_pos (by omega)]
    rw [d]
    clear d
    simp only [contR, Nat.reduceAdd, Nat.reduceSub]
    have e : 64 * ((bt l 0 : Int) - 192) + (bt l 1 : Int) - 128 = ((bt l 0 % 32 * 64 + bt l 1 % 64 : Nat) : Int) := by omega
    rw [e]
    generalize bt l 0 % 32 * 64 + bt l 1 % 64 = x at *
    refine ⟨by omega, ?_⟩
    by_cases hx : x ≥ 128
    · rw [if_pos hx, if_neg (by simp), if_neg (by omega)]
      rfl
    · rw [if_neg hx, if_pos (by simp), if_pos (by omega)]
  · have b1 := b1 (by omega) (by omega)
    have b2 := b2 (by omega) (by omega)
    have d : Lib.decodeN l.length (bt l 0) (bt l 1) (bt l 2) (bt l 3) = (if bt l 0 % 16 * 4096 + bt l 1 % 64 * 64 + bt l 2 % 64 ≥ 2048 ∧ (bt l 0 % 16 * 4096 + bt l 1 % 64 * 64 + bt l 2 % 64 < 55296 ∨ (57344 ≤ bt l 0 % 16 * 4096 + bt l 1 % 64 * 64 + bt l 2 % 64 ∧ bt l 0 % 16 * 4096 + bt l 1 % 64 * 64 + bt l 2 % 64 ≤ 1114111)) then (bt l 0 % 16 * 4096 + bt l 1 % 64 * 64 + bt l 2 % 64, 3) else (65533, 1)) := by unfold Lib.decodeN; rw [if_neg (by omega), if_neg (by omega), if_pos (by omega)]
    rw [d]
    clear d
    simp only [contR, Nat.reduceAdd, Nat.reduceSub]
    have e : 64 * (64 * ((bt l 0 : Int) - 224) + (bt l 1 : Int) - 128) + (bt l 2 : Int) - 128 = ((bt l 0 % 16 * 4096 + bt l 1 % 64 * 64 + bt l 2 % 64 : Nat) : Int) := by omega
    rw [e]
    generalize bt l 0 % 16 * 4096 + bt l 1 % 64 * 64 + bt l 2 % 64 = x at *
    refine ⟨by omega, ?_⟩
    by_cases hx : x ≥ 2048 ∧ (x < 55296 ∨ (57344 ≤ x ∧ x ≤ 1114111))
    · rw [if_pos hx, if_neg (by simp), if_neg (by omega)]
      rfl
    · rw [if_neg hx, if_pos (by simp), if_pos (by omega)]
  · have b1 := b1 (by omega) (by omega)
    have b2 := b2 (by omega) (by omega)
    have b3 := b3 (by omega) (by omega)
    have d : Lib.decodeN l.length (bt l 0) (bt l 1) (bt l 2) (bt l 3) = (if bt l 0 % 8 * 262144 + bt l 1 % 64 * 4096 + bt l 2 % 64 * 64 + bt l 3 % 64 ≥ 65536 ∧ (bt l 0 % 8 * 262144 + bt l 1 % 64 * 4096 + bt l 2 % 64 * 64 + bt l 3 % 64 < 55296 ∨ (57344 ≤ bt l 0 % 8 * 262144 + bt l 1 % 64 * 4096 + bt l 2 % 64 * 64 + bt l 3 % 64 ∧ bt l 0 % 8 * 262144 + bt l 1 % 64 * 4096 + bt l 2 % 64 * 64 + bt l 3 % 64 ≤ 1114111)) then (bt l 0 % 8 * 262144 + bt l 1 % 64 * 4096 + bt l 2 % 64 * 64 + bt l 3 % 64, 4) else (65533, 1)) := by unfold Lib.decodeN; rw [if_neg (by omega), if_neg (by omega), if_neg (by omega), if_pos (by omega)]
    rw [d]
    clear d
    simp only [contR, Nat.reduceAdd, Nat.reduceSub]
    have e : 64 * (64 * (64 * ((bt l 0 : Int) - 240) + (bt l 1 : Int) - 128) + (bt l 2 : Int) - 128) + (bt l 3 : Int) - 128 = ((bt l 0 % 8 * 262144 + bt l 1 % 64 * 4096 + bt l 2 % 64 * 64 + bt l 3 % 64 : Nat) : Int) := by omega
    rw [e]
    generalize bt l 0 % 8 * 262144 + bt l 1 % 64 * 4096 + bt l 2 % 64 * 64 + bt l 3 % 64 = x at *
    refine ⟨by omega, ?_⟩
    by_cases hx : x ≥ 65536 ∧ (x < 55296 ∨ (57344 ≤ x ∧ x ≤ 1114111))
    · rw [if_pos hx, if_neg (by simp), if_neg (by omega)]
      rfl
    · rw [if_neg hx, if_pos (by simp), if_pos (by omega)]
theorem contR_lt (l : List UInt8) (r : Int) : ∀ i, (∀ j, 1 ≤ j → j ≤ i → 128 ≤ bt l j ∧ bt l j < 192) → -4096 ≤ r → r ≤ 4096 → i ≤ 3 → -4294967296 ≤ contR l r i ∧ contR l r i ≤ 4294967296
  | 0, _, _, _, _ => by simp only [contR]; omega
  | 1, h, _, _, _ => by have := h 1 (by omega) (by omega); simp only [contR, Nat.zero_add]; omega
  | 2, h, _, _, _ => by have := h 1 (by omega) (by omega); have := h 2 (by omega) (by omega); simp only [contR, Nat.reduceAdd]; omega
  | 3, h, _, _, _ => by have := h 1 (by omega) (by omega); have := h 2 (by omega) (by omega); have := h 3 (by omega) (by omega); simp only [contR, Nat.reduceAdd]; omega
  | i + 4, _, _, _, h => by omega
theorem bt_drop (l : List UInt8) (k i : Nat) : bt (l.drop k) i = (l.getD (k + i) 0).toNat := by
  unfold bt
  rw [List.getD_eq_getElem?_getD, List.getD_eq_getElem?_getD, List.getElem?_drop]
theorem atL_nil : atL [] = (0, 0) := rfl
theorem atL_le (l : List UInt8) : (atL l).2 ≤ l.length := by
  unfold atL
  by_cases h : l = []
  · subst h; simp
  · split
    · simp
    · exact Lib.decodeL_le l h
theorem validD_atL (l : List UInt8) (h : l ≠ []) : Lib.validD l = if (atL l).2 = 0 then false else Lib.validD (l.drop (atL l).2) := by
  have hw := Lib.decodeL_width l
  have hv := Lib.validD_step l h
  by_cases hb : (Lib.decodeL l).1 = 65533 ∧ (Lib.decodeL l).2 = 1
  · have e : atL l = (0, 0) := by unfold atL; exact if_pos (.inr hb)
    rw [hv, if_pos hb, e]
    rfl
  · have e : atL l = Lib.decodeL l := by unfold atL; exact if_neg (by simp only [h, false_or]; exact hb)
    rw [hv, if_neg hb, e, if_neg (by omega)]
end Go.Proofs.YthcppegkpkgnpaaDoor
