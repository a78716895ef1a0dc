/-
  frames: what the walks' contracts say, case by case.
-/
import Derived.Test.YtjlclaimpepgiaaFr5
import Derived.Test.YtjlclaimpepgiaaCrc7
import Derived.Test.YtjlclaimpepgiaaOpen0
namespace Go.Proofs.Ytjlclaimpepgiaa
open Go Go.RowKit Go.Cx
set_option linter.unusedVariables false
open Crc
theorem u8_of {n : Int} (h : (Lit.int .u8 n).wf = true) : Value.int .u8 n = u8v (UInt8.ofNat n.toNat) := by
  have hr := int_range h
  have e1 : IntKind.u8.min = 0 := rfl
  have e2 : IntKind.u8.max = 255 := rfl
  apply int_eq
  rw [UInt8.toNat_ofNat']
  omega
theorem open_is {m : UInt8} {xs : List UInt8} {c : Int} (w : World) (bv : Value) (l : List UInt8) (hs : Bs w bv l) (hl : l.length ≤ 140737488355328) (hro : openOf l = (m, xs, c)) :
    Ret Try.prog 28 [bv].toArray w fun v w' => (∃ xv, v = .tuple #[u8v m, xv, .int .i64 c] ∧ One xv = true ∧ OB w' w.heap.size xv xs) ∧ Below w.heap.size w w' := by
  have := frameOpen_ret w bv l hs hl
  rw [hro] at this
  exact this
theorem frameOf_pos {k : UInt8} (h : k ≠ 0) (l : List UInt8) : frameOf k l = sealed (k :: l) := by unfold frameOf; rw [if_neg h]
theorem openOf_frame {k : UInt8} (h : k ≠ 0) (l : List UInt8) : openOf (sealed (k :: l)) = (k, l, 0) := by
  unfold openOf readOf
  rw [opened_sealed]
  simp [h]
theorem frame_is {k : UInt8} (hk : k ≠ 0) (w : World) (bv : Value) (l : List UInt8) (hs : Bs w bv l) (hl : l.length + 5 ≤ 140737488355328) :
    Ret Try.prog 27 [u8v k, bv].toArray w fun v w' => (∃ fv, v = .tuple #[fv, .int .i64 0] ∧ Own w' w.heap.size fv (sealed (k :: l))) ∧ Below w.heap.size w w' := by
  have := frame_ret w k bv l hs hl
  rw [frameCode_pos hk, frameOf_pos hk] at this
  exact this
theorem frame_zero (w : World) (bv : Value) (l : List UInt8) (hs : Bs w bv l) (hl : l.length + 5 ≤ 140737488355328) :
    Ret Try.prog 27 [u8v 0, bv].toArray w fun v w' => (∃ fv, v = .tuple #[fv, .int .i64 2] ∧ Own w' w.heap.size fv []) ∧ Below w.heap.size w w' := frame_ret w 0 bv l hs hl
theorem sealed_inj {a b : List UInt8} (h : sealed a = sealed b) : a = b := by
  have := congrArg opened h
  rwa [opened_sealed, opened_sealed] at this
theorem u8_ne {k : UInt8} (h : k ≠ 0) : k.toNat ≠ 0 := fun e => h (UInt8.toNat_inj.mp e)
theorem spoil_is {m : UInt8} {xs : List UInt8} {c : Int} {at' : Int} (w : World) (bv : Value) (l : List UInt8) (hs : Bs w bv l) (hl : l.length ≤ 140737488355328) (hb : spoilOf l at' m = (xs, c)) :
    Ret Try.prog 36 [bv, .int .i64 at', u8v m].toArray w fun v w' => (∃ xv, v = .tuple #[xv, .int .i64 c] ∧ Own w' w.heap.size xv xs) ∧ Below w.heap.size w w' := by
  have := spoil_ret w bv l hs hl at' m
  rw [hb] at this
  exact this
def spo (l : List UInt8) (j : Nat) (m : UInt8) : List UInt8 := l.set j (l.getD j 0 ^^^ m)
theorem spo_len (l : List UInt8) (j : Nat) (m : UInt8) : (spo l j m).length = l.length := by simp [spo]
theorem spo_get (l : List UInt8) (j : Nat) (m : UInt8) (hj : j < l.length) (i : Nat) : (spo l j m).getD i 0 = if i = j then l.getD i 0 ^^^ m else l.getD i 0 := by
  unfold spo
  rw [getD_set _ _ _ _ hj]
  by_cases h : j = i
  · subst h; simp
  · rw [if_neg h, if_neg (fun e => h e.symm)]
theorem spo_back (l : List UInt8) (j : Nat) (m : UInt8) (hj : j < l.length) : spo (spo l j m) j m = l := by
  apply ext_getD
  · rw [spo_len, spo_len]
  · intro i hi
    rw [spo_get _ _ _ (by rw [spo_len]; exact hj), spo_get _ _ _ hj]
    by_cases h : i = j
    · simp [h, UInt8.xor_assoc]
    · simp [h]
theorem spoilOf_in {l : List UInt8} {j : Nat} (m : UInt8) (hj : j < l.length) (hm : m ≠ 0) : spoilOf l (j : Int) m = (spo l j m, 0) := by
  unfold spoilOf
  rw [if_pos ⟨by omega, by omega⟩, if_neg hm]
  rfl
theorem spoilOf_zero {l : List UInt8} {a : Int} (h : 0 ≤ a ∧ a < l.length) : spoilOf l a 0 = ([], 2) := by
  unfold spoilOf
  rw [if_pos h, if_pos rfl]
theorem spoilOf_out {l : List UInt8} {a : Int} (m : UInt8) (h : ¬ (0 ≤ a ∧ a < l.length)) : spoilOf l a m = ([], 17) := by
  unfold spoilOf
  rw [if_neg h]
theorem spo_cur (s : List UInt8) (r : Nat) (m : UInt8) (hr : r < s.length) (hm : m ≠ 0) : spo s r m = cur s r [m, 0, 0, 0] 4 := by
  rw [cur_off _ _ _ 3 (fun h => h.2 rfl), cur_off _ _ _ 2 (fun h => h.2 rfl), cur_off _ _ _ 1 (fun h => h.2 rfl), cur_on s r [m, 0, 0, 0] 0 ⟨hr, hm⟩, cur_zero]
  rfl
theorem spo_not_sealed (s : List UInt8) (h4 : 4 ≤ s.length) (hs : IsSealed s) (r : Nat) (hr : r < s.length) (m : UInt8) (hm : m ≠ 0) : ¬ IsSealed (spo s r m) := by
  have h := bursts s h4 hs r (by omega) [m, 0, 0, 0]
  rw [← spo_cur s r m hr hm] at h
  have hc : chg s.length r [m, 0, 0, 0] 4 = true := by
    rw [chg_off _ _ _ 3 (fun h => h.2 rfl), chg_off _ _ _ 2 (fun h => h.2 rfl), chg_off _ _ _ 1 (fun h => h.2 rfl), chg_on s.length r [m, 0, 0, 0] 0 ⟨hr, hm⟩]
  rw [hc] at h
  exact of_decide_eq_false h
theorem openOf_spo (k : UInt8) (l : List UInt8) (r : Nat) (hr : r < (sealed (k :: l)).length) (m : UInt8) (hm : m ≠ 0) : openOf (spo (sealed (k :: l)) r m) = (0, [], 11) := by
  have : opened (spo (sealed (k :: l)) r m) = [] := by
    unfold opened
    rw [if_neg (spo_not_sealed _ (by rw [sealed_len]; omega) (seal_isSealed _).1 r hr m hm)]
  unfold openOf readOf
  rw [this]; rfl
end Go.Proofs.Ytjlclaimpepgiaa
