/-
  A burst of up to four bytes in a sealed row: plain mathematics.
-/
import Derived.Test.YtjlclaimpepgiaaCrcP
namespace Go.Proofs.Ytjlclaimpepgiaa
open Go Go.RowKit Go.Cx
set_option linter.unusedVariables false
open Crc
namespace Crc
theorem xz (x : BitVec 32) : x ^^^ (0 : BitVec 32) = x := BitVec.xor_zero
theorem zx (x : BitVec 32) : (0 : BitVec 32) ^^^ x = x := BitVec.zero_xor
theorem w8_up (c : UInt8) (K : Nat) (hK : K < 4) : stepN (8 * K) (w8 c <<< (8 * K)) = w8 c := by
  rw [stepN_even]
  · apply BitVec.eq_of_getLsbD_eq
    intro n hn
    rw [BitVec.getLsbD_ushiftRight, BitVec.getLsbD_shiftLeft]
    by_cases h : n < 8
    · have h1 : 8 * K + n < 32 := by omega
      simp [h1]
    · rw [w8_bit, w8_bit, BitVec.getLsbD_of_ge _ n (by omega), BitVec.getLsbD_of_ge _ (8 * K + n - 8 * K) (by omega)]
      simp
  · intro i hi
    rw [BitVec.getLsbD_shiftLeft]
    simp [hi]
theorem orUp_xor (l : List UInt8) (K : Nat) : orUp l (K + 1) = orUp l K ^^^ (w8 (l.getD K 0) <<< (8 * K)) := by
  apply BitVec.eq_of_getLsbD_eq
  intro n hn
  rw [orUp, BitVec.getLsbD_or, BitVec.getLsbD_xor, orUp_bit _ _ _ hn, BitVec.getLsbD_shiftLeft]
  by_cases h : n < 8 * K
  · simp [h]
  · have h1 : ¬ n / 8 < K := by omega
    simp [h1]
theorem reg_up (q : BitVec 32) (l : List UInt8) : ∀ K, K ≤ 4 → K ≤ l.length → reg q (l.take K) = stepN (8 * K) (q ^^^ orUp l K)
  | 0, _, _ => by simp [reg, stepN, orUp]
  | K + 1, h4, h => by
    rw [reg_take_succ _ _ _ (by omega), reg_up q l K (by omega) (by omega)]
    unfold byteStep
    rw [← w8_up (l.getD K 0) K (by omega), ← stepN_xor, ← stepN_add, BitVec.xor_assoc, ← orUp_xor]
    congr 1
theorem reg_four (q : BitVec 32) (l : List UInt8) (h : l.length = 4) : reg q l = stepN 32 (q ^^^ orUp l 4) := by
  have := reg_up q l 4 (by omega) (by omega)
  rwa [List.take_of_length_le (by omega)] at this
theorem reg_zeros (n : Nat) (q : BitVec 32) : reg q (List.replicate n 0) = stepN (8 * n) q := by
  induction n generalizing q with
  | zero => rfl
  | succ n ih =>
    rw [List.replicate_succ, reg_cons, ih]
    unfold byteStep
    rw [show w8 0 = 0 from rfl, xz, ← stepN_add, show 8 + 8 * n = 8 * (n + 1) by omega]
theorem orUp_zero (l : List UInt8) (h : orUp l 4 = 0) (k : Nat) (hk : k < 4) : l.getD k 0 = 0 := by
  apply UInt8.toBitVec_inj.mp
  apply BitVec.eq_of_getLsbD_eq
  intro i hi
  have := orUp_bit l 4 (8 * k + i) (by omega)
  rw [h, show (8 * k + i) / 8 = k by omega, show (8 * k + i) % 8 = i by omega] at this
  simp only [hk, decide_true, Bool.true_and] at this
  rw [← this]
  simp
theorem not_iff_xor (x y : BitVec 32) : ~~~ x = y ↔ x ^^^ y = BitVec.allOnes 32 := by
  constructor
  · rintro rfl
    rw [not_eq_xor, ← BitVec.xor_assoc, BitVec.xor_self, BitVec.zero_xor]
  · intro h
    rw [not_eq_xor, ← h, ← BitVec.xor_assoc, BitVec.xor_self, BitVec.zero_xor]
theorem isSealed_reg (l : List UInt8) (h : 4 ≤ l.length) : IsSealed l ↔ reg (~~~ 0) l = stepN 32 (BitVec.allOnes 32) := by
  have hq : (l.drop (l.length - 4)).length = 4 := by rw [List.length_drop]; omega
  have hl : body l ++ l.drop (l.length - 4) = l := List.take_append_drop _ _
  rw [isSealed_iff l h]
  conv => rhs; lhs; rw [← hl, reg_append, reg_four _ _ hq]
  unfold sum more
  rw [not_iff_xor]
  exact ⟨fun h => by rw [h], fun h => stepN_inj _ _ _ h⟩
theorem burst (s e : List UInt8) (hl : s.length = e.length) (h4 : 4 ≤ s.length) (hs : IsSealed s) (r t : Nat) (m : List UInt8) (hm : m.length = 4) (he : e ++ [0, 0, 0, 0] = List.replicate r 0 ++ m ++ List.replicate t 0) (k : Nat) (hk : k < 4) (hne : m.getD k 0 ≠ 0) :
    ¬ IsSealed (List.zipWith (· ^^^ ·) s e) := by
  intro h
  rw [isSealed_reg _ (by simp; omega)] at h
  rw [isSealed_reg _ h4] at hs
  have h1 := reg_xor s e (~~~ 0) 0 hl
  rw [xz, h, hs] at h1
  have h2 : reg 0 e = 0 := by
    have := congrArg (stepN 32 (BitVec.allOnes 32) ^^^ ·) h1
    simp only [← BitVec.xor_assoc, BitVec.xor_self, BitVec.zero_xor] at this
    exact this.symm
  have h3 : reg 0 (e ++ [0, 0, 0, 0]) = 0 := by
    rw [reg_append, h2]
    have := reg_zeros 4 0
    rw [stepN_zero] at this
    exact this
  have hz0 : reg 0 (List.replicate r 0) = 0 := by rw [reg_zeros, stepN_zero]
  rw [he, reg_append, reg_append, hz0, reg_zeros, reg_four _ _ hm, ← stepN_add, zx] at h3
  exact hne (orUp_zero m (stepN_inj0 _ _ h3) k hk)
/-- what the first k bytes of the mask change, from place r on, in n bytes -/
def ek (n r : Nat) (mask : List UInt8) : Nat → List UInt8
  | 0 => List.replicate n 0
  | k + 1 => if r + k < n ∧ mask.getD k 0 ≠ 0 then (ek n r mask k).set (r + k) (mask.getD k 0) else ek n r mask k
def chg (n r : Nat) (mask : List UInt8) : Nat → Bool
  | 0 => false
  | k + 1 => if r + k < n ∧ mask.getD k 0 ≠ 0 then true else chg n r mask k
theorem ek_len (n r : Nat) (mask : List UInt8) : ∀ k, (ek n r mask k).length = n
  | 0 => by simp [ek]
  | k + 1 => by unfold ek; split <;> simp [ek_len n r mask k]
theorem getD_set (l : List UInt8) (i j : Nat) (c : UInt8) (hi : i < l.length) : (l.set i c).getD j 0 = if i = j then c else l.getD j 0 := by
  simp only [List.getD_eq_getElem?_getD, List.getElem?_set]
  by_cases h : i = j
  · subst h; simp [hi]
  · simp [h]
theorem ek_get (n r : Nat) (mask : List UInt8) (j : Nat) (hj : j < n) : ∀ k, (ek n r mask k).getD j 0 = if r ≤ j ∧ j < r + k then mask.getD (j - r) 0 else 0
  | 0 => by
    rw [if_neg (by omega)]
    simp [ek, hj]
  | k + 1 => by
    unfold ek
    have ih := ek_get n r mask j hj k
    by_cases hc : r + k < n ∧ mask.getD k 0 ≠ 0
    · rw [if_pos hc, getD_set _ _ _ _ (by rw [ek_len]; exact hc.1), ih]
      by_cases h1 : r + k = j
      · rw [if_pos h1, if_pos (by omega), show j - r = k by omega]
      · rw [if_neg h1]
        by_cases h2 : r ≤ j ∧ j < r + k
        · rw [if_pos h2, if_pos (by omega)]
        · rw [if_neg h2, if_neg (by omega)]
    · rw [if_neg hc, ih]
      by_cases h2 : r ≤ j ∧ j < r + k
      · rw [if_pos h2, if_pos (by omega)]
      · rw [if_neg h2]
        by_cases h3 : r ≤ j ∧ j < r + (k + 1)
        · rw [if_pos h3]
          have h4 : j = r + k := by omega
          subst h4
          have : ¬ mask.getD k 0 ≠ 0 := fun h => hc ⟨hj, h⟩
          rw [Nat.add_sub_cancel_left]
          exact (Decidable.not_not.mp this).symm
        · rw [if_neg h3]
theorem chg_false (n r : Nat) (mask : List UInt8) : ∀ k, chg n r mask k = false → ek n r mask k = List.replicate n 0
  | 0, _ => rfl
  | k + 1, h => by
    unfold chg at h
    unfold ek
    by_cases hc : r + k < n ∧ mask.getD k 0 ≠ 0
    · rw [if_pos hc] at h; cases h
    · rw [if_neg hc] at h ⊢; exact chg_false n r mask k h
theorem chg_true (n r : Nat) (mask : List UInt8) : ∀ k, chg n r mask k = true → ∃ j, j < k ∧ r + j < n ∧ mask.getD j 0 ≠ 0
  | 0, h => by cases h
  | k + 1, h => by
    unfold chg at h
    by_cases hc : r + k < n ∧ mask.getD k 0 ≠ 0
    · exact ⟨k, by omega, hc⟩
    · rw [if_neg hc] at h
      obtain ⟨j, hj, h2⟩ := chg_true n r mask k h
      exact ⟨j, by omega, h2⟩
/-- the changed part, whole -/
def window (n r : Nat) (mask : List UInt8) : List UInt8 := (List.range 4).map fun k => if r + k < n then mask.getD k 0 else 0
theorem window_get (n r : Nat) (mask : List UInt8) (k : Nat) (hk : k < 4) : (window n r mask).getD k 0 = if r + k < n then mask.getD k 0 else 0 := by
  unfold window
  simp [List.getD_eq_getElem?_getD, hk]
theorem getD_rep (n j : Nat) : (List.replicate n (0 : UInt8)).getD j 0 = 0 := by
  simp only [List.getD_eq_getElem?_getD, List.getElem?_replicate]
  split <;> rfl
theorem getD_app (a b : List UInt8) (j : Nat) : (a ++ b).getD j 0 = if j < a.length then a.getD j 0 else b.getD (j - a.length) 0 := by
  simp only [List.getD_eq_getElem?_getD, List.getElem?_append]
  split <;> rfl
theorem ext_getD {a b : List UInt8} (hl : a.length = b.length) (h : ∀ j, j < a.length → a.getD j 0 = b.getD j 0) : a = b := by
  apply List.ext_getElem hl
  intro i h1 h2
  have := h i h1
  simpa [h1, h2] using this
theorem ek_shape (n r : Nat) (mask : List UInt8) (hr : r ≤ n) : ek n r mask 4 ++ [0, 0, 0, 0] = List.replicate r 0 ++ window n r mask ++ List.replicate (n - r) 0 := by
  have hw : (window n r mask).length = 4 := by simp [window]
  apply ext_getD
  · simp [ek_len, hw]; omega
  · intro j hj
    have e0 : ([0, 0, 0, 0] : List UInt8) = List.replicate 4 0 := rfl
    rw [e0, getD_app, getD_app, getD_app, ek_len, getD_rep, getD_rep, getD_rep, List.length_append, List.length_replicate, hw]
    by_cases h1 : j < n
    · rw [if_pos h1, ek_get _ _ _ _ h1]
      by_cases h2 : j < r
      · rw [if_neg (by omega), if_pos (by omega), if_pos h2]
      · by_cases h3 : j < r + 4
        · rw [if_pos (by omega), if_pos h3, if_neg h2, window_get _ _ _ _ (by omega), if_pos (by omega)]
        · rw [if_neg (by omega), if_neg h3]
    · rw [if_neg h1]
      by_cases h3 : j < r + 4
      · rw [if_pos h3, if_neg (by omega), window_get _ _ _ _ (by omega), if_neg (by omega)]
      · rw [if_neg h3]
/-- the row, changed so far -/
def cur (s : List UInt8) (r : Nat) (mask : List UInt8) (k : Nat) : List UInt8 := List.zipWith (· ^^^ ·) s (ek s.length r mask k)
theorem cur_len (s : List UInt8) (r : Nat) (mask : List UInt8) (k : Nat) : (cur s r mask k).length = s.length := by simp [cur, ek_len]
theorem xor_zero8 (c : UInt8) : c ^^^ 0 = c := by simp
theorem cur_rep (s : List UInt8) : List.zipWith (· ^^^ ·) s (List.replicate s.length 0) = s := by
  apply List.ext_getElem (by simp)
  intro i h1 h2
  simp
theorem cur_zero (s : List UInt8) (r : Nat) (mask : List UInt8) : cur s r mask 0 = s := cur_rep s
theorem cur_on (s : List UInt8) (r : Nat) (mask : List UInt8) (k : Nat) (h : r + k < s.length ∧ mask.getD k 0 ≠ 0) : cur s r mask (k + 1) = (cur s r mask k).set (r + k) ((cur s r mask k).getD (r + k) 0 ^^^ mask.getD k 0) := by
  have hz := ek_get s.length r mask (r + k) h.1 k
  rw [if_neg (by omega)] at hz
  have hel := ek_len s.length r mask k
  unfold cur
  conv => lhs; unfold ek; rw [if_pos h]
  apply List.ext_getElem (by simp)
  intro i h1 h2
  simp only [List.length_zipWith, List.length_set, hel] at h1
  simp only [List.getElem_zipWith, List.getElem_set]
  by_cases e : r + k = i
  · subst e
    have h3 : (ek s.length r mask k)[r + k]'(by omega) = 0 := by
      rw [← hz]
      simp [hel, h.1]
    simp [hel, h.1, h3]
  · simp [e]
theorem cur_off (s : List UInt8) (r : Nat) (mask : List UInt8) (k : Nat) (h : ¬ (r + k < s.length ∧ mask.getD k 0 ≠ 0)) : cur s r mask (k + 1) = cur s r mask k := by
  unfold cur
  conv => lhs; unfold ek; rw [if_neg h]
theorem chg_on (n r : Nat) (mask : List UInt8) (k : Nat) (h : r + k < n ∧ mask.getD k 0 ≠ 0) : chg n r mask (k + 1) = true := by unfold chg; rw [if_pos h]
theorem chg_off (n r : Nat) (mask : List UInt8) (k : Nat) (h : ¬ (r + k < n ∧ mask.getD k 0 ≠ 0)) : chg n r mask (k + 1) = chg n r mask k := by
  conv => lhs; unfold chg; rw [if_neg h]
theorem bursts (s : List UInt8) (h4 : 4 ≤ s.length) (hs : IsSealed s) (r : Nat) (hr : r ≤ s.length) (mask : List UInt8) : decide (IsSealed (cur s r mask 4)) = !chg s.length r mask 4 := by
  cases hc : chg s.length r mask 4 with
  | false =>
    rw [show cur s r mask 4 = s by unfold cur; rw [chg_false _ _ _ _ hc, cur_rep]]
    exact decide_eq_true hs
  | true =>
    obtain ⟨j, hj, h1, h2⟩ := chg_true _ _ _ _ hc
    exact decide_eq_false (burst s _ (ek_len _ _ _ _).symm h4 hs r (s.length - r) (window s.length r mask) (by simp [window]) (ek_shape _ _ _ hr) j hj (by rw [window_get _ _ _ _ hj, if_pos h1]; exact h2))
end Crc
end Go.Proofs.Ytjlclaimpepgiaa
