/-
  The laws FrameSpoilt, FrameSpoils.
-/
import Derived.Test.YthamimmjakcejaaFr9
import Derived.Test.YthamimmjakcejaaCrc7
namespace Go.Proofs.Ythamimmjakcejaa
open Go Go.RowKit Go.Cx
set_option linter.unusedVariables false
open Crc
theorem spoil_is {m : UInt8} {xs : List UInt8} {c : Int} {at' : Int} (w : World) (bv : Value) (l : List UInt8) (hs : Bs w bv l) (hl : l.length ≤ 140737488355328) (hb : spoilOf l at' m = (xs, c)) :
    Ret Try.prog 15 [bv, .int .i64 at', u8v m].toArray w fun v w' => (∃ xv, v = .tuple #[xv, .int .i64 c] ∧ Own w' w.heap.size xv xs) ∧ Below w.heap.size w w' := by
  have := spoil_ret w bv l hs hl at' m
  rw [hb] at this
  exact this
def spo (l : List UInt8) (j : Nat) (m : UInt8) : List UInt8 := l.set j (l.getD j 0 ^^^ m)
theorem spo_len (l : List UInt8) (j : Nat) (m : UInt8) : (spo l j m).length = l.length := by simp [spo]
theorem spo_get (l : List UInt8) (j : Nat) (m : UInt8) (hj : j < l.length) (i : Nat) : (spo l j m).getD i 0 = if i = j then l.getD i 0 ^^^ m else l.getD i 0 := by
  unfold spo
  rw [getD_set _ _ _ _ hj]
  by_cases h : j = i
  · subst h; simp
  · rw [if_neg h, if_neg (fun e => h e.symm)]
theorem spo_back (l : List UInt8) (j : Nat) (m : UInt8) (hj : j < l.length) : spo (spo l j m) j m = l := by
  apply ext_getD
  · rw [spo_len, spo_len]
  · intro i hi
    rw [spo_get _ _ _ (by rw [spo_len]; exact hj), spo_get _ _ _ hj]
    by_cases h : i = j
    · simp [h, UInt8.xor_assoc]
    · simp [h]
theorem spoilOf_in {l : List UInt8} {j : Nat} (m : UInt8) (hj : j < l.length) (hm : m ≠ 0) : spoilOf l (j : Int) m = (spo l j m, 0) := by
  unfold spoilOf
  rw [if_pos ⟨by omega, by omega⟩, if_neg hm]
  rfl
theorem spoilOf_zero {l : List UInt8} {a : Int} (h : 0 ≤ a ∧ a < l.length) : spoilOf l a 0 = ([], 2) := by
  unfold spoilOf
  rw [if_pos h, if_pos rfl]
theorem spoilOf_out {l : List UInt8} {a : Int} (m : UInt8) (h : ¬ (0 ≤ a ∧ a < l.length)) : spoilOf l a m = ([], 17) := by
  unfold spoilOf
  rw [if_neg h]
theorem spo_cur (s : List UInt8) (r : Nat) (m : UInt8) (hr : r < s.length) (hm : m ≠ 0) : spo s r m = cur s r [m, 0, 0, 0] 4 := by
  rw [cur_off _ _ _ 3 (fun h => h.2 rfl), cur_off _ _ _ 2 (fun h => h.2 rfl), cur_off _ _ _ 1 (fun h => h.2 rfl), cur_on s r [m, 0, 0, 0] 0 ⟨hr, hm⟩, cur_zero]
  rfl
theorem spo_not_sealed (s : List UInt8) (h4 : 4 ≤ s.length) (hs : IsSealed s) (r : Nat) (hr : r < s.length) (m : UInt8) (hm : m ≠ 0) : ¬ IsSealed (spo s r m) := by
  have h := bursts s h4 hs r (by omega) [m, 0, 0, 0]
  rw [← spo_cur s r m hr hm] at h
  have hc : chg s.length r [m, 0, 0, 0] 4 = true := by
    rw [chg_off _ _ _ 3 (fun h => h.2 rfl), chg_off _ _ _ 2 (fun h => h.2 rfl), chg_off _ _ _ 1 (fun h => h.2 rfl), chg_on s.length r [m, 0, 0, 0] 0 ⟨hr, hm⟩]
  rw [hc] at h
  exact of_decide_eq_false h
theorem openOf_spo (k : UInt8) (l : List UInt8) (r : Nat) (hr : r < (sealed (k :: l)).length) (m : UInt8) (hm : m ≠ 0) : openOf (spo (sealed (k :: l)) r m) = (0, [], 11) := by
  have : opened (spo (sealed (k :: l)) r m) = [] := by
    unfold opened
    rw [if_neg (spo_not_sealed _ (by rw [sealed_len]; omega) (seal_isSealed _).1 r hr m hm)]
  unfold openOf readOf
  rw [this]; rfl
theorem frameSpoilt_ret (w : World) (n : Int) (hn : (Lit.int .u8 n).wf = true) (bv : Value) (l : List UInt8) (hs : Bs w bv l) (hl : l.length ≤ 140737488351232) (at' : Int) (hat : (Lit.int .i64 at').wf = true) (n2 : Int) (hn2 : (Lit.int .u8 n2).wf = true) :
    Ret Try.prog 5 [.int .u8 n, bv, .int .i64 at', .int .u8 n2].toArray w fun v w' => v = .bool true ∧ Below w.heap.size w w' := by
  rw [u8_of hn, u8_of hn2]
  generalize UInt8.ofNat n.toNat = k
  generalize UInt8.ofNat n2.toNat = m
  have hsl : (sealed (k :: l)).length = l.length + 5 := by rw [sealed_len, List.length_cons]
  by_cases hk : k = 0
  · subst hk
    refine Ret.of (n := 126) (rs := #[.tmp 8]) Try.func5 rfl rfl rfl (by simp) ?_
    refine WC.seqR rfl ?_
    refine WL.y rfl (Y.assign) ?_
    refine WL.nil ?_
    refine WC.seqR rfl ?_
    refine WL.y rfl (Y.move) ?_
    refine WL.y rfl (Y.move) ?_
    refine WL.call rfl (C.func go11) (own_ret bv l _ (hs.bel (Below.refl _ _)) (by omega)) ?_
    rintro v24 w24 ⟨ho24, hb24⟩
    have k24 := hb24
    refine WL.call rfl (C.func go10) (frame_zero _ v24 l ho24.bs (by omega)) ?_
    rintro _ w25 ⟨⟨x25, rfl, ho25⟩, hb25⟩
    have k25 := Below.step k24 hb25
    refine WL.y rfl (Y.move) ?_
    refine WL.y rfl (Y.extract rfl rfl) ?_
    refine WL.y rfl (Y.extract rfl rfl) ?_
    refine WL.y rfl (Y.assign) ?_
    refine WL.y rfl (Y.assign) ?_
    refine WL.nil ?_
    refine WC.seq ?_
    refine WC.seqR rfl ?_
    refine WL.y rfl (Y.move) ?_
    refine WL.y rfl (Y.dT (Y.eqi rfl rfl) (by simp)) ?_
    refine WL.y rfl (Y.move) ?_
    refine WL.off rfl ?_
    refine WL.off rfl ?_
    refine WL.y rfl (Y.pickT rfl) ?_
    refine WL.nil ?_
    refine WC.condT (rfl) ?_
    refine WC.seqR rfl ?_
    refine WL.y rfl (Y.move) ?_
    refine WL.y rfl (Y.dT (Y.eqi rfl rfl) (by simp)) ?_
    refine WL.y rfl (Y.move) ?_
    refine WL.y rfl (Y.move) ?_
    refine WL.y rfl (Y.dT (Y.eqi rfl rfl) (by omega)) ?_
    refine WL.y rfl (Y.pickT rfl) ?_
    refine WL.y rfl (Y.move) ?_
    refine WL.call rfl (C.func go14) (known_ret _) ?_
    rintro _ w41 ⟨rfl, hb41⟩
    have k41 := Below.step k25 hb41
    refine WL.y rfl (Y.pickT rfl) ?_
    refine WL.y rfl (Y.assign) ?_
    refine WL.nil ?_
    refine WC.ret (thenQ.ret (endQ.one (.inr rfl) ?_))
    exact ⟨rfl, k41⟩
  · have hk' := u8_ne hk
    by_cases hneg : at' < 0
    · skip
      refine Ret.of (n := 126) (rs := #[.tmp 8]) Try.func5 rfl rfl rfl (by simp) ?_
      refine WC.seqR rfl ?_
      refine WL.y rfl (Y.assign) ?_
      refine WL.nil ?_
      refine WC.seqR rfl ?_
      refine WL.y rfl (Y.move) ?_
      refine WL.y rfl (Y.move) ?_
      refine WL.call rfl (C.func go11) (own_ret bv l _ (hs.bel (Below.refl _ _)) (by omega)) ?_
      rintro v24 w24 ⟨ho24, hb24⟩
      have k24 := hb24
      refine WL.call rfl (C.func go10) (frame_is hk _ v24 l ho24.bs (by omega)) ?_
      rintro _ w25 ⟨⟨x25, rfl, ho25⟩, hb25⟩
      have k25 := Below.step k24 hb25
      refine WL.y rfl (Y.move) ?_
      refine WL.y rfl (Y.extract rfl rfl) ?_
      refine WL.y rfl (Y.extract rfl rfl) ?_
      refine WL.y rfl (Y.assign) ?_
      refine WL.y rfl (Y.assign) ?_
      refine WL.nil ?_
      refine WC.seq ?_
      refine WC.seqR rfl ?_
      refine WL.y rfl (Y.move) ?_
      refine WL.y rfl (Y.dF (Y.eqi rfl rfl) (by omega)) ?_
      refine WL.y rfl (Y.move) ?_
      refine WL.y rfl (Y.move) ?_
      refine WL.y rfl (Y.dF (Y.nei rfl rfl) (by omega)) ?_
      refine WL.y rfl (Y.pickF rfl) ?_
      refine WL.nil ?_
      refine WC.condF (rfl) ?_
      refine WC.skip (thenQ.normal ?_)
      refine WC.seqR rfl ?_
      refine WL.y rfl (Y.move) ?_
      refine WL.y rfl (Y.move) ?_
      refine WL.y rfl (Y.move) ?_
      refine WL.call rfl (C.func go15) (spoil_is _ x25 _ ho25.bs (by omega) (spoilOf_out m (by omega))) ?_
      rintro _ w47 ⟨⟨x47, rfl, ho47⟩, hb47⟩
      have k47 := Below.step k25 hb47
      refine WL.y rfl (Y.move) ?_
      refine WL.y rfl (Y.extract rfl rfl) ?_
      refine WL.y rfl (Y.extract rfl rfl) ?_
      refine WL.y rfl (Y.assign) ?_
      refine WL.y rfl (Y.assign) ?_
      refine WL.nil ?_
      refine WC.seq ?_
      refine WC.seqR rfl ?_
      refine WL.y rfl (Y.move) ?_
      refine WL.y rfl (Y.dT (Y.lss rfl rfl) (by omega)) ?_
      refine WL.y rfl (Y.move) ?_
      refine WL.off rfl ?_
      refine WL.off rfl ?_
      refine WL.off rfl ?_
      refine WL.off rfl ?_
      refine WL.y rfl (Y.pickT rfl) ?_
      refine WL.nil ?_
      refine WC.condT (rfl) ?_
      refine WC.seqR rfl ?_
      refine WL.y rfl (Y.move) ?_
      refine WL.y rfl (Y.dT (Y.eqi rfl rfl) (by omega)) ?_
      refine WL.y rfl (Y.move) ?_
      refine WL.y rfl (Y.move) ?_
      refine WL.y rfl (Y.lenSl Try.underlying22 (ho47.bs) _) ?_
      refine WL.y rfl (Y.dT (Y.eqi rfl rfl) (rfl)) ?_
      refine WL.y rfl (Y.pickT rfl) ?_
      refine WL.y rfl (Y.move) ?_
      refine WL.call rfl (C.func go14) (known_ret _) ?_
      rintro _ w66 ⟨rfl, hb66⟩
      have k66 := Below.step k47 hb66
      refine WL.y rfl (Y.pickT rfl) ?_
      refine WL.y rfl (Y.assign) ?_
      refine WL.nil ?_
      refine WC.ret (thenQ.ret (endQ.one (.inr rfl) ?_))
      exact ⟨rfl, k66⟩
    · by_cases hge : (sealed (k :: l)).length ≤ at'
      · skip
        refine Ret.of (n := 126) (rs := #[.tmp 8]) Try.func5 rfl rfl rfl (by simp) ?_
        refine WC.seqR rfl ?_
        refine WL.y rfl (Y.assign) ?_
        refine WL.nil ?_
        refine WC.seqR rfl ?_
        refine WL.y rfl (Y.move) ?_
        refine WL.y rfl (Y.move) ?_
        refine WL.call rfl (C.func go11) (own_ret bv l _ (hs.bel (Below.refl _ _)) (by omega)) ?_
        rintro v24 w24 ⟨ho24, hb24⟩
        have k24 := hb24
        refine WL.call rfl (C.func go10) (frame_is hk _ v24 l ho24.bs (by omega)) ?_
        rintro _ w25 ⟨⟨x25, rfl, ho25⟩, hb25⟩
        have k25 := Below.step k24 hb25
        refine WL.y rfl (Y.move) ?_
        refine WL.y rfl (Y.extract rfl rfl) ?_
        refine WL.y rfl (Y.extract rfl rfl) ?_
        refine WL.y rfl (Y.assign) ?_
        refine WL.y rfl (Y.assign) ?_
        refine WL.nil ?_
        refine WC.seq ?_
        refine WC.seqR rfl ?_
        refine WL.y rfl (Y.move) ?_
        refine WL.y rfl (Y.dF (Y.eqi rfl rfl) (by omega)) ?_
        refine WL.y rfl (Y.move) ?_
        refine WL.y rfl (Y.move) ?_
        refine WL.y rfl (Y.dF (Y.nei rfl rfl) (by omega)) ?_
        refine WL.y rfl (Y.pickF rfl) ?_
        refine WL.nil ?_
        refine WC.condF (rfl) ?_
        refine WC.skip (thenQ.normal ?_)
        refine WC.seqR rfl ?_
        refine WL.y rfl (Y.move) ?_
        refine WL.y rfl (Y.move) ?_
        refine WL.y rfl (Y.move) ?_
        refine WL.call rfl (C.func go15) (spoil_is _ x25 _ ho25.bs (by omega) (spoilOf_out m (by omega))) ?_
        rintro _ w47 ⟨⟨x47, rfl, ho47⟩, hb47⟩
        have k47 := Below.step k25 hb47
        refine WL.y rfl (Y.move) ?_
        refine WL.y rfl (Y.extract rfl rfl) ?_
        refine WL.y rfl (Y.extract rfl rfl) ?_
        refine WL.y rfl (Y.assign) ?_
        refine WL.y rfl (Y.assign) ?_
        refine WL.nil ?_
        refine WC.seq ?_
        refine WC.seqR rfl ?_
        refine WL.y rfl (Y.move) ?_
        refine WL.y rfl (Y.dF (Y.lss rfl rfl) (by omega)) ?_
        refine WL.y rfl (Y.move) ?_
        refine WL.y rfl (Y.move) ?_
        refine WL.y rfl (Y.move) ?_
        refine WL.y rfl (Y.lenSl Try.underlying22 ((ho25.bel hb47).bs) _) ?_
        refine WL.y rfl (Y.dT (Y.geq rfl rfl) (by omega)) ?_
        refine WL.y rfl (Y.pickF rfl) ?_
        refine WL.nil ?_
        refine WC.condT (rfl) ?_
        refine WC.seqR rfl ?_
        refine WL.y rfl (Y.move) ?_
        refine WL.y rfl (Y.dT (Y.eqi rfl rfl) (by omega)) ?_
        refine WL.y rfl (Y.move) ?_
        refine WL.y rfl (Y.move) ?_
        refine WL.y rfl (Y.lenSl Try.underlying22 (ho47.bs) _) ?_
        refine WL.y rfl (Y.dT (Y.eqi rfl rfl) (rfl)) ?_
        refine WL.y rfl (Y.pickT rfl) ?_
        refine WL.y rfl (Y.move) ?_
        refine WL.call rfl (C.func go14) (known_ret _) ?_
        rintro _ w66 ⟨rfl, hb66⟩
        have k66 := Below.step k47 hb66
        refine WL.y rfl (Y.pickT rfl) ?_
        refine WL.y rfl (Y.assign) ?_
        refine WL.nil ?_
        refine WC.ret (thenQ.ret (endQ.one (.inr rfl) ?_))
        exact ⟨rfl, k66⟩
      · by_cases hm : m = 0
        · subst hm
          refine Ret.of (n := 126) (rs := #[.tmp 8]) Try.func5 rfl rfl rfl (by simp) ?_
          refine WC.seqR rfl ?_
          refine WL.y rfl (Y.assign) ?_
          refine WL.nil ?_
          refine WC.seqR rfl ?_
          refine WL.y rfl (Y.move) ?_
          refine WL.y rfl (Y.move) ?_
          refine WL.call rfl (C.func go11) (own_ret bv l _ (hs.bel (Below.refl _ _)) (by omega)) ?_
          rintro v24 w24 ⟨ho24, hb24⟩
          have k24 := hb24
          refine WL.call rfl (C.func go10) (frame_is hk _ v24 l ho24.bs (by omega)) ?_
          rintro _ w25 ⟨⟨x25, rfl, ho25⟩, hb25⟩
          have k25 := Below.step k24 hb25
          refine WL.y rfl (Y.move) ?_
          refine WL.y rfl (Y.extract rfl rfl) ?_
          refine WL.y rfl (Y.extract rfl rfl) ?_
          refine WL.y rfl (Y.assign) ?_
          refine WL.y rfl (Y.assign) ?_
          refine WL.nil ?_
          refine WC.seq ?_
          refine WC.seqR rfl ?_
          refine WL.y rfl (Y.move) ?_
          refine WL.y rfl (Y.dF (Y.eqi rfl rfl) (by omega)) ?_
          refine WL.y rfl (Y.move) ?_
          refine WL.y rfl (Y.move) ?_
          refine WL.y rfl (Y.dF (Y.nei rfl rfl) (by omega)) ?_
          refine WL.y rfl (Y.pickF rfl) ?_
          refine WL.nil ?_
          refine WC.condF (rfl) ?_
          refine WC.skip (thenQ.normal ?_)
          refine WC.seqR rfl ?_
          refine WL.y rfl (Y.move) ?_
          refine WL.y rfl (Y.move) ?_
          refine WL.y rfl (Y.move) ?_
          refine WL.call rfl (C.func go15) (spoil_is _ x25 _ ho25.bs (by omega) (spoilOf_zero (by omega))) ?_
          rintro _ w47 ⟨⟨x47, rfl, ho47⟩, hb47⟩
          have k47 := Below.step k25 hb47
          refine WL.y rfl (Y.move) ?_
          refine WL.y rfl (Y.extract rfl rfl) ?_
          refine WL.y rfl (Y.extract rfl rfl) ?_
          refine WL.y rfl (Y.assign) ?_
          refine WL.y rfl (Y.assign) ?_
          refine WL.nil ?_
          refine WC.seq ?_
          refine WC.seqR rfl ?_
          refine WL.y rfl (Y.move) ?_
          refine WL.y rfl (Y.dF (Y.lss rfl rfl) (by omega)) ?_
          refine WL.y rfl (Y.move) ?_
          refine WL.y rfl (Y.move) ?_
          refine WL.y rfl (Y.move) ?_
          refine WL.y rfl (Y.lenSl Try.underlying22 ((ho25.bel hb47).bs) _) ?_
          refine WL.y rfl (Y.dF (Y.geq rfl rfl) (by omega)) ?_
          refine WL.y rfl (Y.pickF rfl) ?_
          refine WL.nil ?_
          refine WC.condF (rfl) ?_
          refine WC.skip (thenQ.normal ?_)
          refine WC.seq ?_
          refine WC.seqR rfl ?_
          refine WL.y rfl (Y.move) ?_
          refine WL.y rfl (Y.dT (Y.eqi rfl rfl) (by simp)) ?_
          refine WL.nil ?_
          refine WC.condT (rfl) ?_
          refine WC.seqR rfl ?_
          refine WL.y rfl (Y.move) ?_
          refine WL.y rfl (Y.dT (Y.eqi rfl rfl) (by omega)) ?_
          refine WL.y rfl (Y.move) ?_
          refine WL.y rfl (Y.move) ?_
          refine WL.y rfl (Y.lenSl Try.underlying22 (ho47.bs) _) ?_
          refine WL.y rfl (Y.dT (Y.eqi rfl rfl) (rfl)) ?_
          refine WL.y rfl (Y.pickT rfl) ?_
          refine WL.y rfl (Y.move) ?_
          refine WL.call rfl (C.func go14) (known_ret _) ?_
          rintro _ w78 ⟨rfl, hb78⟩
          have k78 := Below.step k47 hb78
          refine WL.y rfl (Y.pickT rfl) ?_
          refine WL.y rfl (Y.assign) ?_
          refine WL.nil ?_
          refine WC.ret (thenQ.ret (endQ.one (.inr rfl) ?_))
          exact ⟨rfl, k78⟩
        · have hm' := u8_ne hm
          obtain ⟨j, rfl⟩ : ∃ j : Nat, at' = (j : Int) := ⟨at'.toNat, (Int.toNat_of_nonneg (by omega)).symm⟩
          have hj : j < (sealed (k :: l)).length := by omega
          have hlen2 : (spo (sealed (k :: l)) j m).length = (sealed (k :: l)).length := spo_len _ _ _
          have hback : spoilOf (spo (sealed (k :: l)) j m) (j : Int) m = (sealed (k :: l), 0) := by
            rw [spoilOf_in m (by omega) hm, spo_back _ _ _ hj]
          refine Ret.of (n := 126) (rs := #[.tmp 8]) Try.func5 rfl rfl rfl (by simp) ?_
          refine WC.seqR rfl ?_
          refine WL.y rfl (Y.assign) ?_
          refine WL.nil ?_
          refine WC.seqR rfl ?_
          refine WL.y rfl (Y.move) ?_
          refine WL.y rfl (Y.move) ?_
          refine WL.call rfl (C.func go11) (own_ret bv l _ (hs.bel (Below.refl _ _)) (by omega)) ?_
          rintro v24 w24 ⟨ho24, hb24⟩
          have k24 := hb24
          refine WL.call rfl (C.func go10) (frame_is hk _ v24 l ho24.bs (by omega)) ?_
          rintro _ w25 ⟨⟨x25, rfl, ho25⟩, hb25⟩
          have k25 := Below.step k24 hb25
          refine WL.y rfl (Y.move) ?_
          refine WL.y rfl (Y.extract rfl rfl) ?_
          refine WL.y rfl (Y.extract rfl rfl) ?_
          refine WL.y rfl (Y.assign) ?_
          refine WL.y rfl (Y.assign) ?_
          refine WL.nil ?_
          refine WC.seq ?_
          refine WC.seqR rfl ?_
          refine WL.y rfl (Y.move) ?_
          refine WL.y rfl (Y.dF (Y.eqi rfl rfl) (by omega)) ?_
          refine WL.y rfl (Y.move) ?_
          refine WL.y rfl (Y.move) ?_
          refine WL.y rfl (Y.dF (Y.nei rfl rfl) (by omega)) ?_
          refine WL.y rfl (Y.pickF rfl) ?_
          refine WL.nil ?_
          refine WC.condF (rfl) ?_
          refine WC.skip (thenQ.normal ?_)
          refine WC.seqR rfl ?_
          refine WL.y rfl (Y.move) ?_
          refine WL.y rfl (Y.move) ?_
          refine WL.y rfl (Y.move) ?_
          refine WL.call rfl (C.func go15) (spoil_is _ x25 _ ho25.bs (by omega) (spoilOf_in m hj hm)) ?_
          rintro _ w47 ⟨⟨x47, rfl, ho47⟩, hb47⟩
          have k47 := Below.step k25 hb47
          refine WL.y rfl (Y.move) ?_
          refine WL.y rfl (Y.extract rfl rfl) ?_
          refine WL.y rfl (Y.extract rfl rfl) ?_
          refine WL.y rfl (Y.assign) ?_
          refine WL.y rfl (Y.assign) ?_
          refine WL.nil ?_
          refine WC.seq ?_
          refine WC.seqR rfl ?_
          refine WL.y rfl (Y.move) ?_
          refine WL.y rfl (Y.dF (Y.lss rfl rfl) (by omega)) ?_
          refine WL.y rfl (Y.move) ?_
          refine WL.y rfl (Y.move) ?_
          refine WL.y rfl (Y.move) ?_
          refine WL.y rfl (Y.lenSl Try.underlying22 ((ho25.bel hb47).bs) _) ?_
          refine WL.y rfl (Y.dF (Y.geq rfl rfl) (by omega)) ?_
          refine WL.y rfl (Y.pickF rfl) ?_
          refine WL.nil ?_
          refine WC.condF (rfl) ?_
          refine WC.skip (thenQ.normal ?_)
          refine WC.seq ?_
          refine WC.seqR rfl ?_
          refine WL.y rfl (Y.move) ?_
          refine WL.y rfl (Y.dF (Y.eqi rfl rfl) (by omega)) ?_
          refine WL.nil ?_
          refine WC.condF (rfl) ?_
          refine WC.skip (thenQ.normal ?_)
          refine WC.seqR rfl ?_
          refine WL.y rfl (Y.move) ?_
          refine WL.call rfl (C.func go16) (open_is _ x47 _ ho47.bs (by omega) (openOf_spo k l j hj m hm)) ?_
          rintro _ w82 ⟨⟨x82, rfl, -, ho82⟩, hb82⟩
          have k82 := Below.step k47 hb82
          refine WL.y rfl (Y.move) ?_
          refine WL.y rfl (Y.extract rfl rfl) ?_
          refine WL.y rfl (Y.extract rfl rfl) ?_
          refine WL.y rfl (Y.extract rfl rfl) ?_
          refine WL.y rfl (Y.assign) ?_
          refine WL.y rfl (Y.assign) ?_
          refine WL.y rfl (Y.assign) ?_
          refine WL.nil ?_
          refine WC.seqR rfl ?_
          refine WL.y rfl (Y.move) ?_
          refine WL.y rfl (Y.move) ?_
          refine WL.y rfl (Y.move) ?_
          refine WL.call rfl (C.func go15) (spoil_is _ x47 _ (ho47.bel hb82).bs (by omega) hback) ?_
          rintro _ w90 ⟨⟨x90, rfl, ho90⟩, hb90⟩
          have k90 := Below.step k82 hb90
          refine WL.y rfl (Y.move) ?_
          refine WL.y rfl (Y.extract rfl rfl) ?_
          refine WL.y rfl (Y.extract rfl rfl) ?_
          refine WL.y rfl (Y.assign) ?_
          refine WL.y rfl (Y.assign) ?_
          refine WL.nil ?_
          refine WC.seqR rfl ?_
          refine WL.y rfl (Y.move) ?_
          refine WL.call rfl (C.func go16) (open_is _ x90 _ ho90.bs (by omega) (openOf_frame hk l)) ?_
          rintro _ w95 ⟨⟨x95, rfl, -, ho95⟩, hb95⟩
          have k95 := Below.step k90 hb95
          refine WL.y rfl (Y.move) ?_
          refine WL.y rfl (Y.extract rfl rfl) ?_
          refine WL.y rfl (Y.extract rfl rfl) ?_
          refine WL.y rfl (Y.extract rfl rfl) ?_
          refine WL.y rfl (Y.assign) ?_
          refine WL.y rfl (Y.assign) ?_
          refine WL.y rfl (Y.assign) ?_
          refine WL.nil ?_
          refine WC.seqR rfl ?_
          refine WL.y rfl (Y.move) ?_
          refine WL.y rfl (Y.dT (Y.eqi rfl rfl) (by omega)) ?_
          refine WL.y rfl (Y.move) ?_
          refine WL.y rfl (Y.move) ?_
          refine WL.y rfl (Y.dT (Y.eqi rfl rfl) (by omega)) ?_
          refine WL.y rfl (Y.pickT rfl) ?_
          refine WL.y rfl (Y.move) ?_
          refine WL.y rfl (Y.move) ?_
          refine WL.y rfl (Y.dT (Y.eqi rfl rfl) (by omega)) ?_
          refine WL.y rfl (Y.pickT rfl) ?_
          refine WL.y rfl (Y.move) ?_
          refine WL.y rfl (Y.move) ?_
          refine WL.y rfl (Y.dT (Y.eqi rfl rfl) (by omega)) ?_
          refine WL.y rfl (Y.pickT rfl) ?_
          refine WL.y rfl (Y.move) ?_
          refine WL.y rfl (Y.move) ?_
          refine WL.y rfl (Y.move) ?_
          refine WL.y rfl (Y.dT (Y.eqi rfl rfl) (by omega)) ?_
          refine WL.y rfl (Y.pickT rfl) ?_
          refine WL.y rfl (Y.move) ?_
          refine WL.y rfl (Y.move) ?_
          refine WL.y rfl (Y.move) ?_
          refine WL.call rfl (C.func go13) ((same_ret x95 bv l l _ ho95.bs (hs.bel k95)).yes rfl) ?_
          rintro _ w121 ⟨rfl, hb121⟩
          have k121 := Below.step k95 hb121
          refine WL.y rfl (Y.pickT rfl) ?_
          refine WL.y rfl (Y.move) ?_
          refine WL.call rfl (C.func go14) (known_ret _) ?_
          rintro _ w124 ⟨rfl, hb124⟩
          have k124 := Below.step k121 hb124
          refine WL.y rfl (Y.pickT rfl) ?_
          refine WL.y rfl (Y.assign) ?_
          refine WL.nil ?_
          refine WC.ret (endQ.one (.inr rfl) ?_)
          exact ⟨rfl, k124⟩
theorem frameSpoils_ret (w : World) (bv : Value) (l : List UInt8) (hs : Bs w bv l) (hl : l.length ≤ 140737488351232) (at' : Int) (hat : (Lit.int .i64 at').wf = true) (n2 : Int) (hn2 : (Lit.int .u8 n2).wf = true) :
    Ret Try.prog 6 [bv, .int .i64 at', .int .u8 n2].toArray w fun v w' => v = .bool true ∧ Below w.heap.size w w' := by
  rw [u8_of hn2]
  generalize UInt8.ofNat n2.toNat = m
  by_cases hneg : at' < 0
  · skip
    refine Ret.of (n := 102) (rs := #[.tmp 6]) Try.func6 rfl rfl rfl (by simp) ?_
    refine WC.seqR rfl ?_
    refine WL.y rfl (Y.assign) ?_
    refine WL.nil ?_
    refine WC.seqR rfl ?_
    refine WL.y rfl (Y.move) ?_
    refine WL.call rfl (C.func go11) (own_ret bv l _ (hs.bel (Below.refl _ _)) (by omega)) ?_
    rintro v13 w13 ⟨ho13, hb13⟩
    have k13 := hb13
    refine WL.y rfl (Y.assign) ?_
    refine WL.nil ?_
    refine WC.seqR rfl ?_
    refine WL.y rfl (Y.move) ?_
    refine WL.y rfl (Y.move) ?_
    refine WL.y rfl (Y.move) ?_
    refine WL.call rfl (C.func go15) (spoil_is _ v13 l ho13.bs (by omega) (spoilOf_out m (by omega))) ?_
    rintro _ w18 ⟨⟨x18, rfl, ho18⟩, hb18⟩
    have k18 := Below.step k13 hb18
    refine WL.y rfl (Y.move) ?_
    refine WL.y rfl (Y.extract rfl rfl) ?_
    refine WL.y rfl (Y.extract rfl rfl) ?_
    refine WL.y rfl (Y.assign) ?_
    refine WL.y rfl (Y.assign) ?_
    refine WL.nil ?_
    refine WC.seq ?_
    refine WC.seqR rfl ?_
    refine WL.y rfl (Y.move) ?_
    refine WL.y rfl (Y.dT (Y.lss rfl rfl) (by omega)) ?_
    refine WL.y rfl (Y.move) ?_
    refine WL.off rfl ?_
    refine WL.off rfl ?_
    refine WL.off rfl ?_
    refine WL.off rfl ?_
    refine WL.y rfl (Y.pickT rfl) ?_
    refine WL.nil ?_
    refine WC.condT (rfl) ?_
    refine WC.seqR rfl ?_
    refine WL.y rfl (Y.move) ?_
    refine WL.y rfl (Y.dT (Y.eqi rfl rfl) (by omega)) ?_
    refine WL.y rfl (Y.move) ?_
    refine WL.y rfl (Y.move) ?_
    refine WL.y rfl (Y.lenSl Try.underlying22 (ho18.bs) _) ?_
    refine WL.y rfl (Y.dT (Y.eqi rfl rfl) (rfl)) ?_
    refine WL.y rfl (Y.pickT rfl) ?_
    refine WL.y rfl (Y.move) ?_
    refine WL.call rfl (C.func go14) (known_ret _) ?_
    rintro _ w37 ⟨rfl, hb37⟩
    have k37 := Below.step k18 hb37
    refine WL.y rfl (Y.pickT rfl) ?_
    refine WL.y rfl (Y.assign) ?_
    refine WL.nil ?_
    refine WC.ret (thenQ.ret (endQ.one (.inr rfl) ?_))
    exact ⟨rfl, k37⟩
  · by_cases hge : l.length ≤ at'
    · skip
      refine Ret.of (n := 102) (rs := #[.tmp 6]) Try.func6 rfl rfl rfl (by simp) ?_
      refine WC.seqR rfl ?_
      refine WL.y rfl (Y.assign) ?_
      refine WL.nil ?_
      refine WC.seqR rfl ?_
      refine WL.y rfl (Y.move) ?_
      refine WL.call rfl (C.func go11) (own_ret bv l _ (hs.bel (Below.refl _ _)) (by omega)) ?_
      rintro v13 w13 ⟨ho13, hb13⟩
      have k13 := hb13
      refine WL.y rfl (Y.assign) ?_
      refine WL.nil ?_
      refine WC.seqR rfl ?_
      refine WL.y rfl (Y.move) ?_
      refine WL.y rfl (Y.move) ?_
      refine WL.y rfl (Y.move) ?_
      refine WL.call rfl (C.func go15) (spoil_is _ v13 l ho13.bs (by omega) (spoilOf_out m (by omega))) ?_
      rintro _ w18 ⟨⟨x18, rfl, ho18⟩, hb18⟩
      have k18 := Below.step k13 hb18
      refine WL.y rfl (Y.move) ?_
      refine WL.y rfl (Y.extract rfl rfl) ?_
      refine WL.y rfl (Y.extract rfl rfl) ?_
      refine WL.y rfl (Y.assign) ?_
      refine WL.y rfl (Y.assign) ?_
      refine WL.nil ?_
      refine WC.seq ?_
      refine WC.seqR rfl ?_
      refine WL.y rfl (Y.move) ?_
      refine WL.y rfl (Y.dF (Y.lss rfl rfl) (by omega)) ?_
      refine WL.y rfl (Y.move) ?_
      refine WL.y rfl (Y.move) ?_
      refine WL.y rfl (Y.move) ?_
      refine WL.y rfl (Y.lenSl Try.underlying22 (hs.bel k18) _) ?_
      refine WL.y rfl (Y.dT (Y.geq rfl rfl) (by omega)) ?_
      refine WL.y rfl (Y.pickF rfl) ?_
      refine WL.nil ?_
      refine WC.condT (rfl) ?_
      refine WC.seqR rfl ?_
      refine WL.y rfl (Y.move) ?_
      refine WL.y rfl (Y.dT (Y.eqi rfl rfl) (by omega)) ?_
      refine WL.y rfl (Y.move) ?_
      refine WL.y rfl (Y.move) ?_
      refine WL.y rfl (Y.lenSl Try.underlying22 (ho18.bs) _) ?_
      refine WL.y rfl (Y.dT (Y.eqi rfl rfl) (rfl)) ?_
      refine WL.y rfl (Y.pickT rfl) ?_
      refine WL.y rfl (Y.move) ?_
      refine WL.call rfl (C.func go14) (known_ret _) ?_
      rintro _ w37 ⟨rfl, hb37⟩
      have k37 := Below.step k18 hb37
      refine WL.y rfl (Y.pickT rfl) ?_
      refine WL.y rfl (Y.assign) ?_
      refine WL.nil ?_
      refine WC.ret (thenQ.ret (endQ.one (.inr rfl) ?_))
      exact ⟨rfl, k37⟩
    · by_cases hm : m = 0
      · subst hm
        refine Ret.of (n := 102) (rs := #[.tmp 6]) Try.func6 rfl rfl rfl (by simp) ?_
        refine WC.seqR rfl ?_
        refine WL.y rfl (Y.assign) ?_
        refine WL.nil ?_
        refine WC.seqR rfl ?_
        refine WL.y rfl (Y.move) ?_
        refine WL.call rfl (C.func go11) (own_ret bv l _ (hs.bel (Below.refl _ _)) (by omega)) ?_
        rintro v13 w13 ⟨ho13, hb13⟩
        have k13 := hb13
        refine WL.y rfl (Y.assign) ?_
        refine WL.nil ?_
        refine WC.seqR rfl ?_
        refine WL.y rfl (Y.move) ?_
        refine WL.y rfl (Y.move) ?_
        refine WL.y rfl (Y.move) ?_
        refine WL.call rfl (C.func go15) (spoil_is _ v13 l ho13.bs (by omega) (spoilOf_zero (by omega))) ?_
        rintro _ w18 ⟨⟨x18, rfl, ho18⟩, hb18⟩
        have k18 := Below.step k13 hb18
        refine WL.y rfl (Y.move) ?_
        refine WL.y rfl (Y.extract rfl rfl) ?_
        refine WL.y rfl (Y.extract rfl rfl) ?_
        refine WL.y rfl (Y.assign) ?_
        refine WL.y rfl (Y.assign) ?_
        refine WL.nil ?_
        refine WC.seq ?_
        refine WC.seqR rfl ?_
        refine WL.y rfl (Y.move) ?_
        refine WL.y rfl (Y.dF (Y.lss rfl rfl) (by omega)) ?_
        refine WL.y rfl (Y.move) ?_
        refine WL.y rfl (Y.move) ?_
        refine WL.y rfl (Y.move) ?_
        refine WL.y rfl (Y.lenSl Try.underlying22 (hs.bel k18) _) ?_
        refine WL.y rfl (Y.dF (Y.geq rfl rfl) (by omega)) ?_
        refine WL.y rfl (Y.pickF rfl) ?_
        refine WL.nil ?_
        refine WC.condF (rfl) ?_
        refine WC.skip (thenQ.normal ?_)
        refine WC.seq ?_
        refine WC.seqR rfl ?_
        refine WL.y rfl (Y.move) ?_
        refine WL.y rfl (Y.dT (Y.eqi rfl rfl) (by simp)) ?_
        refine WL.nil ?_
        refine WC.condT (rfl) ?_
        refine WC.seqR rfl ?_
        refine WL.y rfl (Y.move) ?_
        refine WL.y rfl (Y.dT (Y.eqi rfl rfl) (by omega)) ?_
        refine WL.y rfl (Y.move) ?_
        refine WL.y rfl (Y.move) ?_
        refine WL.y rfl (Y.lenSl Try.underlying22 (ho18.bs) _) ?_
        refine WL.y rfl (Y.dT (Y.eqi rfl rfl) (rfl)) ?_
        refine WL.y rfl (Y.pickT rfl) ?_
        refine WL.y rfl (Y.move) ?_
        refine WL.call rfl (C.func go14) (known_ret _) ?_
        rintro _ w49 ⟨rfl, hb49⟩
        have k49 := Below.step k18 hb49
        refine WL.y rfl (Y.pickT rfl) ?_
        refine WL.y rfl (Y.assign) ?_
        refine WL.nil ?_
        refine WC.ret (thenQ.ret (endQ.one (.inr rfl) ?_))
        exact ⟨rfl, k49⟩
      · have hm' := u8_ne hm
        obtain ⟨j, rfl⟩ : ∃ j : Nat, at' = (j : Int) := ⟨at'.toNat, (Int.toNat_of_nonneg (by omega)).symm⟩
        have hj : j < l.length := by omega
        have hlen2 : (spo l j m).length = l.length := spo_len _ _ _
        have hpos : 0 < (spo l j m).length := by rw [hlen2]; omega
        refine Ret.of (n := 102) (rs := #[.tmp 6]) Try.func6 rfl rfl rfl (by simp) ?_
        refine WC.seqR rfl ?_
        refine WL.y rfl (Y.assign) ?_
        refine WL.nil ?_
        refine WC.seqR rfl ?_
        refine WL.y rfl (Y.move) ?_
        refine WL.call rfl (C.func go11) (own_ret bv l _ (hs.bel (Below.refl _ _)) (by omega)) ?_
        rintro v13 w13 ⟨ho13, hb13⟩
        have k13 := hb13
        refine WL.y rfl (Y.assign) ?_
        refine WL.nil ?_
        refine WC.seqR rfl ?_
        refine WL.y rfl (Y.move) ?_
        refine WL.y rfl (Y.move) ?_
        refine WL.y rfl (Y.move) ?_
        refine WL.call rfl (C.func go15) (spoil_is _ v13 l ho13.bs (by omega) (spoilOf_in m hj hm)) ?_
        rintro _ w18 ⟨⟨x18, rfl, ho18⟩, hb18⟩
        have k18 := Below.step k13 hb18
        obtain ⟨b18, cap18, rfl, hb18l, hb18h⟩ := own_form ho18 hpos
        refine WL.y rfl (Y.move) ?_
        refine WL.y rfl (Y.extract rfl rfl) ?_
        refine WL.y rfl (Y.extract rfl rfl) ?_
        refine WL.y rfl (Y.assign) ?_
        refine WL.y rfl (Y.assign) ?_
        refine WL.nil ?_
        refine WC.seq ?_
        refine WC.seqR rfl ?_
        refine WL.y rfl (Y.move) ?_
        refine WL.y rfl (Y.dF (Y.lss rfl rfl) (by omega)) ?_
        refine WL.y rfl (Y.move) ?_
        refine WL.y rfl (Y.move) ?_
        refine WL.y rfl (Y.move) ?_
        refine WL.y rfl (Y.lenSl Try.underlying22 (hs.bel k18) _) ?_
        refine WL.y rfl (Y.dF (Y.geq rfl rfl) (by omega)) ?_
        refine WL.y rfl (Y.pickF rfl) ?_
        refine WL.nil ?_
        refine WC.condF (rfl) ?_
        refine WC.skip (thenQ.normal ?_)
        refine WC.seq ?_
        refine WC.seqR rfl ?_
        refine WL.y rfl (Y.move) ?_
        refine WL.y rfl (Y.dF (Y.eqi rfl rfl) (by omega)) ?_
        refine WL.nil ?_
        refine WC.condF (rfl) ?_
        refine WC.skip (thenQ.normal ?_)
        refine WC.seq ?_
        refine WC.seqR rfl ?_
        refine WL.y rfl (Y.move) ?_
        refine WL.y rfl (Y.dF (Y.nei rfl rfl) (by omega)) ?_
        refine WL.y rfl (Y.move) ?_
        refine WL.y rfl (Y.move) ?_
        refine WL.y rfl (Y.lenSl Try.underlying22 (ho18.bs) _) ?_
        refine WL.y rfl (Y.move) ?_
        refine WL.y rfl (Y.lenSl Try.underlying22 (hs.bel k18) _) ?_
        refine WL.y rfl (Y.dF (Y.nei rfl rfl) (by omega)) ?_
        refine WL.y rfl (Y.pickF rfl) ?_
        refine WL.y rfl (Y.move) ?_
        refine WL.y rfl (Y.move) ?_
        refine WL.y rfl (Y.move) ?_
        refine WL.call rfl (C.func go13) ((same_ret v13 bv l l _ (ho13.bel hb18).bs (hs.bel k18)).yes rfl) ?_
        rintro _ w63 ⟨rfl, hb63⟩
        have k63 := Below.step k18 hb63
        refine WL.y rfl (Y.not rfl) ?_
        refine WL.y rfl (Y.pickF rfl) ?_
        refine WL.nil ?_
        refine WC.condF (rfl) ?_
        refine WC.skip (thenQ.normal ?_)
        refine WC.seq ?_
        refine WC.seqR rfl ?_
        refine WL.y rfl (Y.assign) ?_
        refine WL.nil ?_
        refine WC.block ?_
        have hs63 : Bs w63 bv l := hs.bel k63
        have ho63 : Own w63 w13.heap.size (.slice (some ⟨b18, 0, none⟩) (spo l j m).length cap18) (spo l j m) := ho18.bel hb63
        have hx63 : Own w63 w.heap.size v13 l := (ho13.bel hb18).bel hb63
        have kk := k63
        refine WC.loop (fun i => l.length - i) (fun i f ds w' => i ≤ l.length ∧ ds = [] ∧ w63 = w' ∧ ∃ J, f = ov J [(0, bv), (1, .int .i64 (j : Int)), (2, u8v m), (7, v13), (8, .slice (some ⟨b18, 0, none⟩) (spo l j m).length cap18), (10, .int .i64 (i : Int))]) 0 ?_ ?_
        · exact ⟨by omega, rfl, rfl, _, ov_mk ⟨rfl, rfl, rfl, rfl, rfl, rfl, trivial⟩⟩
        · rintro i _ _ _ ⟨hi, rfl, rfl, J, rfl⟩
          have hcell : ∀ i, i < l.length → w63.cell? ⟨b18, i, none⟩ = some (u8v ((spo l j m).getD i 0)) := fun i hi => (own_cell ho63 i (by omega)).trans (by simp [show i < (spo l j m).length by omega])
          refine WC.seq ?_
          refine WC.seqR rfl ?_
          refine WL.y rfl (Y.move) ?_
          refine WL.y rfl (Y.move) ?_
          refine WL.y rfl (Y.lenSl Try.underlying22 (hs63) _) ?_
          refine WL.y rfl (Y.lss rfl rfl) ?_
          refine WL.nil ?_
          refine WC.condD rfl (fun hlt => ?_) (fun hlt => ?_)
          · have hil : i < l.length := by omega
            have hci := hcell i hil
            rw [spo_get _ _ _ hj] at hci
            by_cases hij : i = j
            · rw [if_pos hij] at hci
              refine WC.skip (thenQ.normal ?_)
              refine WC.seq ?_
              refine WC.block ?_
              refine WC.seqR rfl ?_
              refine WL.y rfl (Y.move) ?_
              refine WL.y rfl (Y.move) ?_
              refine WL.yex rfl (Y.idxE 0 Try.underlying22 ti5 (hs63) rfl (by omega) (by omega)) ?_
              rintro _ ⟨b74, o74, rfl, hp74⟩
              refine WL.y rfl (Y.load1 Try.underlying5 rfl rfl (hp74)) ?_
              refine WL.y rfl (Y.assign) ?_
              refine WL.nil ?_
              refine WC.seq ?_
              refine WC.seqR rfl ?_
              refine WL.y rfl (Y.move) ?_
              refine WL.y rfl (Y.move) ?_
              refine WL.y rfl (Y.dT (Y.eqi rfl rfl) (by omega)) ?_
              refine WL.nil ?_
              refine WC.condT (rfl) ?_
              refine WC.region rfl ?_
              refine WL.y rfl (Y.move) ?_
              refine WL.y rfl (Y.move) ?_
              refine WL.y rfl (Y.xorU8 rfl rfl) ?_
              refine WL.y rfl (Y.assign) ?_
              refine WL.nil (thenQ.normal ?_)
              refine WC.seqR rfl ?_
              refine WL.y rfl (Y.move) ?_
              refine WL.y rfl (Y.move) ?_
              refine WL.y rfl (Y.idxV1 (j := i) Try.underlying22 ti5 rfl rfl rfl (by omega) _) ?_
              refine WL.y rfl (Y.load1 Try.underlying5 rfl rfl (hci)) ?_
              refine WL.y rfl (Y.move) ?_
              refine WL.y rfl (Y.dF (Y.nei rfl rfl) (by simp)) ?_
              refine WL.nil ?_
              refine WC.condF (rfl) ?_
              refine WC.skip (inBlockQ.normal (thenQ.normal ?_))
              refine WC.region rfl ?_
              refine WL.y rfl (Y.move) ?_
              refine WL.y rfl (Y.add64 rfl rfl (by omega)) ?_
              refine WL.y rfl (Y.assign) ?_
              refine WL.nil (thenQ.normal ?_)
              exact ⟨i + 1, by omega, by omega, rfl, rfl, _, ov_mk ⟨rfl, rfl, rfl, rfl, rfl, rfl, trivial⟩⟩
            · rw [if_neg hij] at hci
              refine WC.skip (thenQ.normal ?_)
              refine WC.seq ?_
              refine WC.block ?_
              refine WC.seqR rfl ?_
              refine WL.y rfl (Y.move) ?_
              refine WL.y rfl (Y.move) ?_
              refine WL.yex rfl (Y.idxE 0 Try.underlying22 ti5 (hs63) rfl (by omega) (by omega)) ?_
              rintro _ ⟨b74, o74, rfl, hp74⟩
              refine WL.y rfl (Y.load1 Try.underlying5 rfl rfl (hp74)) ?_
              refine WL.y rfl (Y.assign) ?_
              refine WL.nil ?_
              refine WC.seq ?_
              refine WC.seqR rfl ?_
              refine WL.y rfl (Y.move) ?_
              refine WL.y rfl (Y.move) ?_
              refine WL.y rfl (Y.dF (Y.eqi rfl rfl) (by omega)) ?_
              refine WL.nil ?_
              refine WC.condF (rfl) ?_
              refine WC.skip (thenQ.normal ?_)
              refine WC.seqR rfl ?_
              refine WL.y rfl (Y.move) ?_
              refine WL.y rfl (Y.move) ?_
              refine WL.y rfl (Y.idxV1 (j := i) Try.underlying22 ti5 rfl rfl rfl (by omega) _) ?_
              refine WL.y rfl (Y.load1 Try.underlying5 rfl rfl (hci)) ?_
              refine WL.y rfl (Y.move) ?_
              refine WL.y rfl (Y.dF (Y.nei rfl rfl) (by simp)) ?_
              refine WL.nil ?_
              refine WC.condF (rfl) ?_
              refine WC.skip (inBlockQ.normal (thenQ.normal ?_))
              refine WC.region rfl ?_
              refine WL.y rfl (Y.move) ?_
              refine WL.y rfl (Y.add64 rfl rfl (by omega)) ?_
              refine WL.y rfl (Y.assign) ?_
              refine WL.nil (thenQ.normal ?_)
              exact ⟨i + 1, by omega, by omega, rfl, rfl, _, ov_mk ⟨rfl, rfl, rfl, rfl, rfl, rfl, trivial⟩⟩
          · have hcj := hcell j hj
            refine WC.exit (thenQ.exit (thenQ.exit (inBlockQ.hit (thenQ.normal ?_))))
            refine WC.seqR rfl ?_
            refine WL.y rfl (Y.move) ?_
            refine WL.y rfl (Y.move) ?_
            refine WL.y rfl (Y.move) ?_
            refine WL.y rfl (Y.move) ?_
            refine WL.y rfl (Y.idxV1 (j := j) Try.underlying22 ti5 rfl rfl rfl (by omega) _) ?_
            refine WL.y rfl (Y.load1 Try.underlying5 rfl rfl (hcj)) ?_
            refine WL.y rfl (Y.addU8 (b := 1) rfl rfl) ?_
            refine WL.y rfl (Y.idxV1 (j := j) Try.underlying22 ti5 rfl rfl rfl (by omega) _) ?_
            refine WL.eex rfl (E.storeOwn (u := u8v ((spo l j m).getD j 0 + 1)) ti5 rfl rfl rfl ho63 (by omega)) ?_
            rintro _ w95 ⟨ho95, hg95⟩
            have k95 : Below w.heap.size w w95 := kk.trans (below_of_grown hg95 kk.size (fun k e => by cases e; have := hb13.size; omega))
            have hx95 : Own w95 w.heap.size v13 l := hx63.kept hg95 (.inr fun e => by have := (ho13.lt b18 e); omega)
            refine WL.nil ?_
            refine WC.seqR rfl ?_
            refine WL.y rfl (Y.move) ?_
            refine WL.y rfl (Y.move) ?_
            refine WL.call rfl (C.func go13) ((same_ret v13 bv l l _ hx95.bs (hs.bel k95)).yes rfl) ?_
            rintro _ w98 ⟨rfl, hb98⟩
            have k98 := Below.step k95 hb98
            refine WL.y rfl (Y.move) ?_
            refine WL.call rfl (C.func go14) (known_ret _) ?_
            rintro _ w100 ⟨rfl, hb100⟩
            have k100 := Below.step k98 hb100
            refine WL.y rfl (Y.pickT rfl) ?_
            refine WL.y rfl (Y.assign) ?_
            refine WL.nil ?_
            refine WC.ret (endQ.one (.inr rfl) ?_)
            exact ⟨rfl, k100⟩
end Go.Proofs.Ythamimmjakcejaa
