/-
  The laws FrameBack, FrameUnlike.
-/
import Derived.Test.YthamimmjakcejaaFr8
namespace Go.Proofs.Ythamimmjakcejaa
open Go Go.RowKit Go.Cx
set_option linter.unusedVariables false
open Crc
theorem frameOf_pos {k : UInt8} (h : k ≠ 0) (l : List UInt8) : frameOf k l = sealed (k :: l) := by unfold frameOf; rw [if_neg h]
theorem openOf_frame {k : UInt8} (h : k ≠ 0) (l : List UInt8) : openOf (sealed (k :: l)) = (k, l, 0) := by
  unfold openOf readOf
  rw [opened_sealed]
  simp [h]
theorem bodyOf_same {k : UInt8} (h : k ≠ 0) (l : List UInt8) : bodyOf k (sealed (k :: l)) = (l, 0) := by
  unfold bodyOf
  rw [openOf_frame h]
  simp
theorem bodyOf_other {k o : UInt8} (h : k ≠ 0) (ho : k ≠ o) (l : List UInt8) : bodyOf o (sealed (k :: l)) = ([], 13) := by
  unfold bodyOf
  rw [openOf_frame h]
  simp [ho]
theorem body_is {k : UInt8} {xs : List UInt8} {c : Int} (w : World) (bv : Value) (l : List UInt8) (hs : Bs w bv l) (hl : l.length ≤ 140737488355328) (hb : bodyOf k l = (xs, c)) :
    Ret Try.prog 18 [u8v k, bv].toArray w fun v w' => (∃ xv, v = .tuple #[xv, .int .i64 c] ∧ OB w' w.heap.size xv xs) ∧ Below w.heap.size w w' := by
  have := frameBody_ret w k bv l hs hl
  rw [hb] at this
  exact this
theorem frame_is {k : UInt8} (hk : k ≠ 0) (w : World) (bv : Value) (l : List UInt8) (hs : Bs w bv l) (hl : l.length + 5 ≤ 140737488355328) :
    Ret Try.prog 10 [u8v k, bv].toArray w fun v w' => (∃ fv, v = .tuple #[fv, .int .i64 0] ∧ Own w' w.heap.size fv (sealed (k :: l))) ∧ Below w.heap.size w w' := by
  have := frame_ret w k bv l hs hl
  rw [frameCode_pos hk, frameOf_pos hk] at this
  exact this
theorem frame_zero (w : World) (bv : Value) (l : List UInt8) (hs : Bs w bv l) (hl : l.length + 5 ≤ 140737488355328) :
    Ret Try.prog 10 [u8v 0, bv].toArray w fun v w' => (∃ fv, v = .tuple #[fv, .int .i64 2] ∧ Own w' w.heap.size fv []) ∧ Below w.heap.size w w' := frame_ret w 0 bv l hs hl
theorem sealed_inj {a b : List UInt8} (h : sealed a = sealed b) : a = b := by
  have := congrArg opened h
  rwa [opened_sealed, opened_sealed] at this
theorem u8_ne {k : UInt8} (h : k ≠ 0) : k.toNat ≠ 0 := fun e => h (UInt8.toNat_inj.mp e)
theorem frameBack_ret (w : World) (n : Int) (hn : (Lit.int .u8 n).wf = true) (bv : Value) (l : List UInt8) (hs : Bs w bv l) (hl : l.length ≤ 140737488351232) (n2 : Int) (hn2 : (Lit.int .u8 n2).wf = true) :
    Ret Try.prog 8 [.int .u8 n, bv, .int .u8 n2].toArray w fun v w' => v = .bool true ∧ Below w.heap.size w w' := by
  rw [u8_of hn, u8_of hn2]
  generalize UInt8.ofNat n.toNat = k
  generalize UInt8.ofNat n2.toNat = o
  have hsl : (sealed (k :: l)).length = l.length + 5 := by rw [sealed_len, List.length_cons]
  by_cases hk : k = 0
  · subst hk
    refine Ret.of (n := 85) (rs := #[.tmp 6]) Try.func8 rfl rfl rfl (by simp) ?_
    refine WC.seqR rfl ?_
    refine WL.y rfl (Y.assign) ?_
    refine WL.nil ?_
    refine WC.seqR rfl ?_
    refine WL.y rfl (Y.move) ?_
    refine WL.y rfl (Y.move) ?_
    refine WL.call rfl (C.func go11) (own_ret bv l _ (hs.bel (Below.refl _ _)) (by omega)) ?_
    rintro v17 w17 ⟨ho17, hb17⟩
    have k17 := hb17
    refine WL.call rfl (C.func go10) (frame_zero _ v17 l ho17.bs (by omega)) ?_
    rintro _ w18 ⟨⟨x18, rfl, ho18⟩, hb18⟩
    have k18 := Below.step k17 hb18
    refine WL.y rfl (Y.move) ?_
    refine WL.y rfl (Y.extract rfl rfl) ?_
    refine WL.y rfl (Y.extract rfl rfl) ?_
    refine WL.y rfl (Y.assign) ?_
    refine WL.y rfl (Y.assign) ?_
    refine WL.nil ?_
    refine WC.seq ?_
    refine WC.seqR rfl ?_
    refine WL.y rfl (Y.move) ?_
    refine WL.y rfl (Y.dT (Y.eqi rfl rfl) (by simp)) ?_
    refine WL.nil ?_
    refine WC.condT (rfl) ?_
    refine WC.seqR rfl ?_
    refine WL.y rfl (Y.move) ?_
    refine WL.y rfl (Y.dT (Y.eqi rfl rfl) (by omega)) ?_
    refine WL.y rfl (Y.move) ?_
    refine WL.y rfl (Y.move) ?_
    refine WL.y rfl (Y.lenSl Try.underlying22 (ho18.bs) _) ?_
    refine WL.y rfl (Y.dT (Y.eqi rfl rfl) (rfl)) ?_
    refine WL.y rfl (Y.pickT rfl) ?_
    refine WL.y rfl (Y.move) ?_
    refine WL.call rfl (C.func go14) (known_ret _) ?_
    rintro _ w31 ⟨rfl, hb31⟩
    have k31 := Below.step k18 hb31
    refine WL.y rfl (Y.pickT rfl) ?_
    refine WL.y rfl (Y.assign) ?_
    refine WL.nil ?_
    refine WC.ret (thenQ.ret (endQ.one (.inr rfl) ?_))
    exact ⟨rfl, k31⟩
  · have hk' := u8_ne hk
    by_cases ho : k = o
    · subst ho
      refine Ret.of (n := 85) (rs := #[.tmp 6]) Try.func8 rfl rfl rfl (by simp) ?_
      refine WC.seqR rfl ?_
      refine WL.y rfl (Y.assign) ?_
      refine WL.nil ?_
      refine WC.seqR rfl ?_
      refine WL.y rfl (Y.move) ?_
      refine WL.y rfl (Y.move) ?_
      refine WL.call rfl (C.func go11) (own_ret bv l _ (hs.bel (Below.refl _ _)) (by omega)) ?_
      rintro v17 w17 ⟨ho17, hb17⟩
      have k17 := hb17
      refine WL.call rfl (C.func go10) (frame_is hk _ v17 l ho17.bs (by omega)) ?_
      rintro _ w18 ⟨⟨x18, rfl, ho18⟩, hb18⟩
      have k18 := Below.step k17 hb18
      refine WL.y rfl (Y.move) ?_
      refine WL.y rfl (Y.extract rfl rfl) ?_
      refine WL.y rfl (Y.extract rfl rfl) ?_
      refine WL.y rfl (Y.assign) ?_
      refine WL.y rfl (Y.assign) ?_
      refine WL.nil ?_
      refine WC.seq ?_
      refine WC.seqR rfl ?_
      refine WL.y rfl (Y.move) ?_
      refine WL.y rfl (Y.dF (Y.eqi rfl rfl) (by omega)) ?_
      refine WL.nil ?_
      refine WC.condF (rfl) ?_
      refine WC.skip (thenQ.normal ?_)
      refine WC.seqR rfl ?_
      refine WL.y rfl (Y.move) ?_
      refine WL.call rfl (C.func go16) (open_is _ x18 _ ho18.bs (by omega) (openOf_frame hk l)) ?_
      rintro _ w35 ⟨⟨x35, rfl, -, ho35⟩, hb35⟩
      have k35 := Below.step k18 hb35
      refine WL.y rfl (Y.move) ?_
      refine WL.y rfl (Y.extract rfl rfl) ?_
      refine WL.y rfl (Y.extract rfl rfl) ?_
      refine WL.y rfl (Y.extract rfl rfl) ?_
      refine WL.y rfl (Y.assign) ?_
      refine WL.y rfl (Y.assign) ?_
      refine WL.y rfl (Y.assign) ?_
      refine WL.nil ?_
      refine WC.seqR rfl ?_
      refine WL.y rfl (Y.move) ?_
      refine WL.y rfl (Y.move) ?_
      refine WL.call rfl (C.func go18) (body_is _ x18 _ (ho18.bel hb35).bs (by omega) (bodyOf_same hk l)) ?_
      rintro _ w42 ⟨⟨x42, rfl, ho42⟩, hb42⟩
      have k42 := Below.step k35 hb42
      refine WL.y rfl (Y.move) ?_
      refine WL.y rfl (Y.extract rfl rfl) ?_
      refine WL.y rfl (Y.extract rfl rfl) ?_
      refine WL.y rfl (Y.assign) ?_
      refine WL.y rfl (Y.assign) ?_
      refine WL.nil ?_
      refine WC.seq ?_
      refine WC.seqR rfl ?_
      refine WL.y rfl (Y.move) ?_
      refine WL.y rfl (Y.dF (Y.nei rfl rfl) (by omega)) ?_
      refine WL.y rfl (Y.move) ?_
      refine WL.y rfl (Y.move) ?_
      refine WL.y rfl (Y.dF (Y.nei rfl rfl) (by omega)) ?_
      refine WL.y rfl (Y.pickF rfl) ?_
      refine WL.y rfl (Y.move) ?_
      refine WL.y rfl (Y.move) ?_
      refine WL.y rfl (Y.move) ?_
      refine WL.y rfl (Y.dF (Y.nei rfl rfl) (by simp)) ?_
      refine WL.y rfl (Y.pickF rfl) ?_
      refine WL.y rfl (Y.move) ?_
      refine WL.y rfl (Y.move) ?_
      refine WL.y rfl (Y.move) ?_
      refine WL.call rfl (C.func go13) ((same_ret x35 bv l l _ (ho35.bel hb42).bs (hs.bel k42)).yes rfl) ?_
      rintro _ w59 ⟨rfl, hb59⟩
      have k59 := Below.step k42 hb59
      refine WL.y rfl (Y.not rfl) ?_
      refine WL.y rfl (Y.pickF rfl) ?_
      refine WL.nil ?_
      refine WC.condF (rfl) ?_
      refine WC.skip (thenQ.normal ?_)
      refine WC.seq ?_
      refine WC.seqR rfl ?_
      refine WL.y rfl (Y.move) ?_
      refine WL.y rfl (Y.move) ?_
      refine WL.y rfl (Y.dT (Y.eqi rfl rfl) (rfl)) ?_
      refine WL.nil ?_
      refine WC.condT (rfl) ?_
      refine WC.seqR rfl ?_
      refine WL.y rfl (Y.move) ?_
      refine WL.y rfl (Y.dT (Y.eqi rfl rfl) (by omega)) ?_
      refine WL.y rfl (Y.move) ?_
      refine WL.y rfl (Y.move) ?_
      refine WL.y rfl (Y.move) ?_
      refine WL.call rfl (C.func go13) ((same_ret x42 bv l l _ (ho42.bel hb59).bs (hs.bel k59)).yes rfl) ?_
      rintro _ w70 ⟨rfl, hb70⟩
      have k70 := Below.step k59 hb70
      refine WL.y rfl (Y.pickT rfl) ?_
      refine WL.y rfl (Y.move) ?_
      refine WL.call rfl (C.func go14) (known_ret _) ?_
      rintro _ w73 ⟨rfl, hb73⟩
      have k73 := Below.step k70 hb73
      refine WL.y rfl (Y.pickT rfl) ?_
      refine WL.y rfl (Y.assign) ?_
      refine WL.nil ?_
      refine WC.ret (thenQ.ret (endQ.one (.inr rfl) ?_))
      exact ⟨rfl, k73⟩
    · have ho' : o.toNat ≠ k.toNat := fun e => ho (UInt8.toNat_inj.mp e).symm
      refine Ret.of (n := 85) (rs := #[.tmp 6]) Try.func8 rfl rfl rfl (by simp) ?_
      refine WC.seqR rfl ?_
      refine WL.y rfl (Y.assign) ?_
      refine WL.nil ?_
      refine WC.seqR rfl ?_
      refine WL.y rfl (Y.move) ?_
      refine WL.y rfl (Y.move) ?_
      refine WL.call rfl (C.func go11) (own_ret bv l _ (hs.bel (Below.refl _ _)) (by omega)) ?_
      rintro v17 w17 ⟨ho17, hb17⟩
      have k17 := hb17
      refine WL.call rfl (C.func go10) (frame_is hk _ v17 l ho17.bs (by omega)) ?_
      rintro _ w18 ⟨⟨x18, rfl, ho18⟩, hb18⟩
      have k18 := Below.step k17 hb18
      refine WL.y rfl (Y.move) ?_
      refine WL.y rfl (Y.extract rfl rfl) ?_
      refine WL.y rfl (Y.extract rfl rfl) ?_
      refine WL.y rfl (Y.assign) ?_
      refine WL.y rfl (Y.assign) ?_
      refine WL.nil ?_
      refine WC.seq ?_
      refine WC.seqR rfl ?_
      refine WL.y rfl (Y.move) ?_
      refine WL.y rfl (Y.dF (Y.eqi rfl rfl) (by omega)) ?_
      refine WL.nil ?_
      refine WC.condF (rfl) ?_
      refine WC.skip (thenQ.normal ?_)
      refine WC.seqR rfl ?_
      refine WL.y rfl (Y.move) ?_
      refine WL.call rfl (C.func go16) (open_is _ x18 _ ho18.bs (by omega) (openOf_frame hk l)) ?_
      rintro _ w35 ⟨⟨x35, rfl, -, ho35⟩, hb35⟩
      have k35 := Below.step k18 hb35
      refine WL.y rfl (Y.move) ?_
      refine WL.y rfl (Y.extract rfl rfl) ?_
      refine WL.y rfl (Y.extract rfl rfl) ?_
      refine WL.y rfl (Y.extract rfl rfl) ?_
      refine WL.y rfl (Y.assign) ?_
      refine WL.y rfl (Y.assign) ?_
      refine WL.y rfl (Y.assign) ?_
      refine WL.nil ?_
      refine WC.seqR rfl ?_
      refine WL.y rfl (Y.move) ?_
      refine WL.y rfl (Y.move) ?_
      refine WL.call rfl (C.func go18) (body_is _ x18 _ (ho18.bel hb35).bs (by omega) (bodyOf_other hk ho l)) ?_
      rintro _ w42 ⟨⟨x42, rfl, ho42⟩, hb42⟩
      have k42 := Below.step k35 hb42
      refine WL.y rfl (Y.move) ?_
      refine WL.y rfl (Y.extract rfl rfl) ?_
      refine WL.y rfl (Y.extract rfl rfl) ?_
      refine WL.y rfl (Y.assign) ?_
      refine WL.y rfl (Y.assign) ?_
      refine WL.nil ?_
      refine WC.seq ?_
      refine WC.seqR rfl ?_
      refine WL.y rfl (Y.move) ?_
      refine WL.y rfl (Y.dF (Y.nei rfl rfl) (by omega)) ?_
      refine WL.y rfl (Y.move) ?_
      refine WL.y rfl (Y.move) ?_
      refine WL.y rfl (Y.dF (Y.nei rfl rfl) (by omega)) ?_
      refine WL.y rfl (Y.pickF rfl) ?_
      refine WL.y rfl (Y.move) ?_
      refine WL.y rfl (Y.move) ?_
      refine WL.y rfl (Y.move) ?_
      refine WL.y rfl (Y.dF (Y.nei rfl rfl) (by simp)) ?_
      refine WL.y rfl (Y.pickF rfl) ?_
      refine WL.y rfl (Y.move) ?_
      refine WL.y rfl (Y.move) ?_
      refine WL.y rfl (Y.move) ?_
      refine WL.call rfl (C.func go13) ((same_ret x35 bv l l _ (ho35.bel hb42).bs (hs.bel k42)).yes rfl) ?_
      rintro _ w59 ⟨rfl, hb59⟩
      have k59 := Below.step k42 hb59
      refine WL.y rfl (Y.not rfl) ?_
      refine WL.y rfl (Y.pickF rfl) ?_
      refine WL.nil ?_
      refine WC.condF (rfl) ?_
      refine WC.skip (thenQ.normal ?_)
      refine WC.seq ?_
      refine WC.seqR rfl ?_
      refine WL.y rfl (Y.move) ?_
      refine WL.y rfl (Y.move) ?_
      refine WL.y rfl (Y.dF (Y.eqi rfl rfl) (by omega)) ?_
      refine WL.nil ?_
      refine WC.condF (rfl) ?_
      refine WC.skip (thenQ.normal ?_)
      refine WC.seqR rfl ?_
      refine WL.y rfl (Y.move) ?_
      refine WL.y rfl (Y.dT (Y.eqi rfl rfl) (by omega)) ?_
      refine WL.y rfl (Y.move) ?_
      refine WL.y rfl (Y.move) ?_
      refine WL.y rfl (Y.lenSl Try.underlying22 ((ho42.bel hb59).bs) _) ?_
      refine WL.y rfl (Y.dT (Y.eqi rfl rfl) (rfl)) ?_
      refine WL.y rfl (Y.pickT rfl) ?_
      refine WL.y rfl (Y.move) ?_
      refine WL.call rfl (C.func go14) (known_ret _) ?_
      rintro _ w83 ⟨rfl, hb83⟩
      have k83 := Below.step k59 hb83
      refine WL.y rfl (Y.pickT rfl) ?_
      refine WL.y rfl (Y.assign) ?_
      refine WL.nil ?_
      refine WC.ret (endQ.one (.inr rfl) ?_)
      exact ⟨rfl, k83⟩
theorem frameUnlike_ret (w : World) (av : Value) (a : List UInt8) (ha : Bs w av a) (hla : a.length ≤ 140737488351232) (bv : Value) (b : List UInt8) (hb : Bs w bv b) (hlb : b.length ≤ 140737488351232) (n : Int) (hn : (Lit.int .u8 n).wf = true) (n2 : Int) (hn2 : (Lit.int .u8 n2).wf = true) :
    Ret Try.prog 4 [av, bv, .int .u8 n, .int .u8 n2].toArray w fun v w' => v = .bool true ∧ Below w.heap.size w w' := by
  rw [u8_of hn, u8_of hn2]
  generalize UInt8.ofNat n.toNat = k
  generalize UInt8.ofNat n2.toNat = o
  by_cases hk : k = 0
  · subst hk
    by_cases ho : o = 0
    · subst ho
      refine Ret.of (n := 71) (rs := #[.tmp 8]) Try.func4 rfl rfl rfl (by simp) ?_
      refine WC.seqR rfl ?_
      refine WL.y rfl (Y.assign) ?_
      refine WL.nil ?_
      refine WC.seqR rfl ?_
      refine WL.y rfl (Y.move) ?_
      refine WL.y rfl (Y.move) ?_
      refine WL.call rfl (C.func go11) (own_ret av a _ (ha.bel (Below.refl _ _)) (by omega)) ?_
      rintro v16 w16 ⟨ho16, hb16⟩
      have k16 := hb16
      refine WL.call rfl (C.func go10) (frame_zero _ v16 a ho16.bs (by omega)) ?_
      rintro _ w17 ⟨⟨x17, rfl, ho17⟩, hb17⟩
      have k17 := Below.step k16 hb17
      refine WL.y rfl (Y.move) ?_
      refine WL.y rfl (Y.extract rfl rfl) ?_
      refine WL.y rfl (Y.extract rfl rfl) ?_
      refine WL.y rfl (Y.assign) ?_
      refine WL.y rfl (Y.assign) ?_
      refine WL.nil ?_
      refine WC.seqR rfl ?_
      refine WL.y rfl (Y.move) ?_
      refine WL.y rfl (Y.move) ?_
      refine WL.call rfl (C.func go11) (own_ret bv b _ (hb.bel k17) (by omega)) ?_
      rintro v23 w23 ⟨ho23, hb23⟩
      have k23 := Below.step k17 hb23
      refine WL.call rfl (C.func go10) (frame_zero _ v23 b ho23.bs (by omega)) ?_
      rintro _ w24 ⟨⟨x24, rfl, ho24⟩, hb24⟩
      have k24 := Below.step k23 hb24
      refine WL.y rfl (Y.move) ?_
      refine WL.y rfl (Y.extract rfl rfl) ?_
      refine WL.y rfl (Y.extract rfl rfl) ?_
      refine WL.y rfl (Y.assign) ?_
      refine WL.y rfl (Y.assign) ?_
      refine WL.nil ?_
      refine WC.seq ?_
      refine WC.seqR rfl ?_
      refine WL.y rfl (Y.move) ?_
      refine WL.y rfl (Y.dT (Y.eqi rfl rfl) (by simp)) ?_
      refine WL.y rfl (Y.move) ?_
      refine WL.off rfl ?_
      refine WL.off rfl ?_
      refine WL.y rfl (Y.pickT rfl) ?_
      refine WL.nil ?_
      refine WC.condT (rfl) ?_
      refine WC.seqR rfl ?_
      refine WL.y rfl (Y.move) ?_
      refine WL.y rfl (Y.dT (Y.nei rfl rfl) (by omega)) ?_
      refine WL.y rfl (Y.move) ?_
      refine WL.y rfl (Y.dT (Y.eqi rfl rfl) (by simp)) ?_
      refine WL.y rfl (Y.bT (Y.eqb Try.underlying4 rfl rfl) (rfl)) ?_
      refine WL.y rfl (Y.move) ?_
      refine WL.y rfl (Y.move) ?_
      refine WL.y rfl (Y.dT (Y.nei rfl rfl) (by omega)) ?_
      refine WL.y rfl (Y.move) ?_
      refine WL.y rfl (Y.dT (Y.eqi rfl rfl) (by simp)) ?_
      refine WL.y rfl (Y.bT (Y.eqb Try.underlying4 rfl rfl) (rfl)) ?_
      refine WL.y rfl (Y.pickT rfl) ?_
      refine WL.y rfl (Y.move) ?_
      refine WL.call rfl (C.func go14) (known_ret _) ?_
      rintro _ w46 ⟨rfl, hb46⟩
      have k46 := Below.step k24 hb46
      refine WL.y rfl (Y.pickT rfl) ?_
      refine WL.y rfl (Y.assign) ?_
      refine WL.nil ?_
      refine WC.ret (thenQ.ret (endQ.one (.inr rfl) ?_))
      exact ⟨rfl, k46⟩
    · have ho' := u8_ne ho
      refine Ret.of (n := 71) (rs := #[.tmp 8]) Try.func4 rfl rfl rfl (by simp) ?_
      refine WC.seqR rfl ?_
      refine WL.y rfl (Y.assign) ?_
      refine WL.nil ?_
      refine WC.seqR rfl ?_
      refine WL.y rfl (Y.move) ?_
      refine WL.y rfl (Y.move) ?_
      refine WL.call rfl (C.func go11) (own_ret av a _ (ha.bel (Below.refl _ _)) (by omega)) ?_
      rintro v16 w16 ⟨ho16, hb16⟩
      have k16 := hb16
      refine WL.call rfl (C.func go10) (frame_zero _ v16 a ho16.bs (by omega)) ?_
      rintro _ w17 ⟨⟨x17, rfl, ho17⟩, hb17⟩
      have k17 := Below.step k16 hb17
      refine WL.y rfl (Y.move) ?_
      refine WL.y rfl (Y.extract rfl rfl) ?_
      refine WL.y rfl (Y.extract rfl rfl) ?_
      refine WL.y rfl (Y.assign) ?_
      refine WL.y rfl (Y.assign) ?_
      refine WL.nil ?_
      refine WC.seqR rfl ?_
      refine WL.y rfl (Y.move) ?_
      refine WL.y rfl (Y.move) ?_
      refine WL.call rfl (C.func go11) (own_ret bv b _ (hb.bel k17) (by omega)) ?_
      rintro v23 w23 ⟨ho23, hb23⟩
      have k23 := Below.step k17 hb23
      refine WL.call rfl (C.func go10) (frame_is ho _ v23 b ho23.bs (by omega)) ?_
      rintro _ w24 ⟨⟨x24, rfl, ho24⟩, hb24⟩
      have k24 := Below.step k23 hb24
      refine WL.y rfl (Y.move) ?_
      refine WL.y rfl (Y.extract rfl rfl) ?_
      refine WL.y rfl (Y.extract rfl rfl) ?_
      refine WL.y rfl (Y.assign) ?_
      refine WL.y rfl (Y.assign) ?_
      refine WL.nil ?_
      refine WC.seq ?_
      refine WC.seqR rfl ?_
      refine WL.y rfl (Y.move) ?_
      refine WL.y rfl (Y.dT (Y.eqi rfl rfl) (by simp)) ?_
      refine WL.y rfl (Y.move) ?_
      refine WL.off rfl ?_
      refine WL.off rfl ?_
      refine WL.y rfl (Y.pickT rfl) ?_
      refine WL.nil ?_
      refine WC.condT (rfl) ?_
      refine WC.seqR rfl ?_
      refine WL.y rfl (Y.move) ?_
      refine WL.y rfl (Y.dT (Y.nei rfl rfl) (by omega)) ?_
      refine WL.y rfl (Y.move) ?_
      refine WL.y rfl (Y.dT (Y.eqi rfl rfl) (by simp)) ?_
      refine WL.y rfl (Y.bT (Y.eqb Try.underlying4 rfl rfl) (rfl)) ?_
      refine WL.y rfl (Y.move) ?_
      refine WL.y rfl (Y.move) ?_
      refine WL.y rfl (Y.dF (Y.nei rfl rfl) (by omega)) ?_
      refine WL.y rfl (Y.move) ?_
      refine WL.y rfl (Y.dF (Y.eqi rfl rfl) (by omega)) ?_
      refine WL.y rfl (Y.bT (Y.eqb Try.underlying4 rfl rfl) (rfl)) ?_
      refine WL.y rfl (Y.pickT rfl) ?_
      refine WL.y rfl (Y.move) ?_
      refine WL.call rfl (C.func go14) (known_ret _) ?_
      rintro _ w46 ⟨rfl, hb46⟩
      have k46 := Below.step k24 hb46
      refine WL.y rfl (Y.pickT rfl) ?_
      refine WL.y rfl (Y.assign) ?_
      refine WL.nil ?_
      refine WC.ret (thenQ.ret (endQ.one (.inr rfl) ?_))
      exact ⟨rfl, k46⟩
  · have hk' := u8_ne hk
    by_cases ho : o = 0
    · subst ho
      refine Ret.of (n := 71) (rs := #[.tmp 8]) Try.func4 rfl rfl rfl (by simp) ?_
      refine WC.seqR rfl ?_
      refine WL.y rfl (Y.assign) ?_
      refine WL.nil ?_
      refine WC.seqR rfl ?_
      refine WL.y rfl (Y.move) ?_
      refine WL.y rfl (Y.move) ?_
      refine WL.call rfl (C.func go11) (own_ret av a _ (ha.bel (Below.refl _ _)) (by omega)) ?_
      rintro v16 w16 ⟨ho16, hb16⟩
      have k16 := hb16
      refine WL.call rfl (C.func go10) (frame_is hk _ v16 a ho16.bs (by omega)) ?_
      rintro _ w17 ⟨⟨x17, rfl, ho17⟩, hb17⟩
      have k17 := Below.step k16 hb17
      refine WL.y rfl (Y.move) ?_
      refine WL.y rfl (Y.extract rfl rfl) ?_
      refine WL.y rfl (Y.extract rfl rfl) ?_
      refine WL.y rfl (Y.assign) ?_
      refine WL.y rfl (Y.assign) ?_
      refine WL.nil ?_
      refine WC.seqR rfl ?_
      refine WL.y rfl (Y.move) ?_
      refine WL.y rfl (Y.move) ?_
      refine WL.call rfl (C.func go11) (own_ret bv b _ (hb.bel k17) (by omega)) ?_
      rintro v23 w23 ⟨ho23, hb23⟩
      have k23 := Below.step k17 hb23
      refine WL.call rfl (C.func go10) (frame_zero _ v23 b ho23.bs (by omega)) ?_
      rintro _ w24 ⟨⟨x24, rfl, ho24⟩, hb24⟩
      have k24 := Below.step k23 hb24
      refine WL.y rfl (Y.move) ?_
      refine WL.y rfl (Y.extract rfl rfl) ?_
      refine WL.y rfl (Y.extract rfl rfl) ?_
      refine WL.y rfl (Y.assign) ?_
      refine WL.y rfl (Y.assign) ?_
      refine WL.nil ?_
      refine WC.seq ?_
      refine WC.seqR rfl ?_
      refine WL.y rfl (Y.move) ?_
      refine WL.y rfl (Y.dF (Y.eqi rfl rfl) (by omega)) ?_
      refine WL.y rfl (Y.move) ?_
      refine WL.y rfl (Y.move) ?_
      refine WL.y rfl (Y.dT (Y.eqi rfl rfl) (by simp)) ?_
      refine WL.y rfl (Y.pickF rfl) ?_
      refine WL.nil ?_
      refine WC.condT (rfl) ?_
      refine WC.seqR rfl ?_
      refine WL.y rfl (Y.move) ?_
      refine WL.y rfl (Y.dF (Y.nei rfl rfl) (by omega)) ?_
      refine WL.y rfl (Y.move) ?_
      refine WL.y rfl (Y.dF (Y.eqi rfl rfl) (by omega)) ?_
      refine WL.y rfl (Y.bT (Y.eqb Try.underlying4 rfl rfl) (rfl)) ?_
      refine WL.y rfl (Y.move) ?_
      refine WL.y rfl (Y.move) ?_
      refine WL.y rfl (Y.dT (Y.nei rfl rfl) (by omega)) ?_
      refine WL.y rfl (Y.move) ?_
      refine WL.y rfl (Y.dT (Y.eqi rfl rfl) (by simp)) ?_
      refine WL.y rfl (Y.bT (Y.eqb Try.underlying4 rfl rfl) (rfl)) ?_
      refine WL.y rfl (Y.pickT rfl) ?_
      refine WL.y rfl (Y.move) ?_
      refine WL.call rfl (C.func go14) (known_ret _) ?_
      rintro _ w46 ⟨rfl, hb46⟩
      have k46 := Below.step k24 hb46
      refine WL.y rfl (Y.pickT rfl) ?_
      refine WL.y rfl (Y.assign) ?_
      refine WL.nil ?_
      refine WC.ret (thenQ.ret (endQ.one (.inr rfl) ?_))
      exact ⟨rfl, k46⟩
    · have ho' := u8_ne ho
      by_cases hko : k = o
      · subst hko
        have hiff : (sealed (k :: a) = sealed (k :: b)) ↔ a = b := ⟨fun h => (List.cons.inj (sealed_inj h)).2, fun h => by rw [h]⟩
        refine Ret.of (n := 71) (rs := #[.tmp 8]) Try.func4 rfl rfl rfl (by simp) ?_
        refine WC.seqR rfl ?_
        refine WL.y rfl (Y.assign) ?_
        refine WL.nil ?_
        refine WC.seqR rfl ?_
        refine WL.y rfl (Y.move) ?_
        refine WL.y rfl (Y.move) ?_
        refine WL.call rfl (C.func go11) (own_ret av a _ (ha.bel (Below.refl _ _)) (by omega)) ?_
        rintro v16 w16 ⟨ho16, hb16⟩
        have k16 := hb16
        refine WL.call rfl (C.func go10) (frame_is hk _ v16 a ho16.bs (by omega)) ?_
        rintro _ w17 ⟨⟨x17, rfl, ho17⟩, hb17⟩
        have k17 := Below.step k16 hb17
        refine WL.y rfl (Y.move) ?_
        refine WL.y rfl (Y.extract rfl rfl) ?_
        refine WL.y rfl (Y.extract rfl rfl) ?_
        refine WL.y rfl (Y.assign) ?_
        refine WL.y rfl (Y.assign) ?_
        refine WL.nil ?_
        refine WC.seqR rfl ?_
        refine WL.y rfl (Y.move) ?_
        refine WL.y rfl (Y.move) ?_
        refine WL.call rfl (C.func go11) (own_ret bv b _ (hb.bel k17) (by omega)) ?_
        rintro v23 w23 ⟨ho23, hb23⟩
        have k23 := Below.step k17 hb23
        refine WL.call rfl (C.func go10) (frame_is ho _ v23 b ho23.bs (by omega)) ?_
        rintro _ w24 ⟨⟨x24, rfl, ho24⟩, hb24⟩
        have k24 := Below.step k23 hb24
        refine WL.y rfl (Y.move) ?_
        refine WL.y rfl (Y.extract rfl rfl) ?_
        refine WL.y rfl (Y.extract rfl rfl) ?_
        refine WL.y rfl (Y.assign) ?_
        refine WL.y rfl (Y.assign) ?_
        refine WL.nil ?_
        refine WC.seq ?_
        refine WC.seqR rfl ?_
        refine WL.y rfl (Y.move) ?_
        refine WL.y rfl (Y.dF (Y.eqi rfl rfl) (by omega)) ?_
        refine WL.y rfl (Y.move) ?_
        refine WL.y rfl (Y.move) ?_
        refine WL.y rfl (Y.dF (Y.eqi rfl rfl) (by omega)) ?_
        refine WL.y rfl (Y.pickF rfl) ?_
        refine WL.nil ?_
        refine WC.condF (rfl) ?_
        refine WC.skip (thenQ.normal ?_)
        refine WC.seqR rfl ?_
        refine WL.y rfl (Y.move) ?_
        refine WL.y rfl (Y.dT (Y.eqi rfl rfl) (by omega)) ?_
        refine WL.y rfl (Y.move) ?_
        refine WL.y rfl (Y.move) ?_
        refine WL.y rfl (Y.dT (Y.eqi rfl rfl) (by omega)) ?_
        refine WL.y rfl (Y.pickT rfl) ?_
        refine WL.y rfl (Y.move) ?_
        refine WL.y rfl (Y.move) ?_
        refine WL.y rfl (Y.move) ?_
        refine WL.call rfl (C.func go13) (same_ret x17 x24 (sealed (k :: a)) (sealed (k :: b)) _ ((ho17.bel hb23).bel hb24).bs ho24.bs) ?_
        rintro _ w57 ⟨rfl, hb57⟩
        have k57 := Below.step k24 hb57
        refine WL.y rfl (Y.move) ?_
        refine WL.y rfl (Y.move) ?_
        refine WL.y rfl (Y.dT (Y.eqi rfl rfl) (rfl)) ?_
        refine WL.y rfl (Y.move) ?_
        refine WL.y rfl (Y.move) ?_
        refine WL.y rfl (Y.move) ?_
        refine WL.call rfl (C.func go13) (same_ret av bv a b _ (ha.bel k57) (hb.bel k57)) ?_
        rintro _ w64 ⟨rfl, hb64⟩
        have k64 := Below.step k57 hb64
        refine WL.y rfl (Y.pickT rfl) ?_
        refine WL.y rfl (Y.bT (Y.eqb Try.underlying4 rfl rfl) (by rw [decide_eq_decide.mpr hiff]; exact beq_self_eq_true _)) ?_
        refine WL.y rfl (Y.pickT rfl) ?_
        refine WL.y rfl (Y.move) ?_
        refine WL.call rfl (C.func go14) (known_ret _) ?_
        rintro _ w69 ⟨rfl, hb69⟩
        have k69 := Below.step k64 hb69
        refine WL.y rfl (Y.pickT rfl) ?_
        refine WL.y rfl (Y.assign) ?_
        refine WL.nil ?_
        refine WC.ret (endQ.one (.inr rfl) ?_)
        exact ⟨rfl, k69⟩
      · have hko' : k.toNat ≠ o.toNat := fun e => hko (UInt8.toNat_inj.mp e)
        have hne : ¬ (sealed (k :: a) = sealed (o :: b)) := fun h => hko (List.cons.inj (sealed_inj h)).1
        refine Ret.of (n := 71) (rs := #[.tmp 8]) Try.func4 rfl rfl rfl (by simp) ?_
        refine WC.seqR rfl ?_
        refine WL.y rfl (Y.assign) ?_
        refine WL.nil ?_
        refine WC.seqR rfl ?_
        refine WL.y rfl (Y.move) ?_
        refine WL.y rfl (Y.move) ?_
        refine WL.call rfl (C.func go11) (own_ret av a _ (ha.bel (Below.refl _ _)) (by omega)) ?_
        rintro v16 w16 ⟨ho16, hb16⟩
        have k16 := hb16
        refine WL.call rfl (C.func go10) (frame_is hk _ v16 a ho16.bs (by omega)) ?_
        rintro _ w17 ⟨⟨x17, rfl, ho17⟩, hb17⟩
        have k17 := Below.step k16 hb17
        refine WL.y rfl (Y.move) ?_
        refine WL.y rfl (Y.extract rfl rfl) ?_
        refine WL.y rfl (Y.extract rfl rfl) ?_
        refine WL.y rfl (Y.assign) ?_
        refine WL.y rfl (Y.assign) ?_
        refine WL.nil ?_
        refine WC.seqR rfl ?_
        refine WL.y rfl (Y.move) ?_
        refine WL.y rfl (Y.move) ?_
        refine WL.call rfl (C.func go11) (own_ret bv b _ (hb.bel k17) (by omega)) ?_
        rintro v23 w23 ⟨ho23, hb23⟩
        have k23 := Below.step k17 hb23
        refine WL.call rfl (C.func go10) (frame_is ho _ v23 b ho23.bs (by omega)) ?_
        rintro _ w24 ⟨⟨x24, rfl, ho24⟩, hb24⟩
        have k24 := Below.step k23 hb24
        refine WL.y rfl (Y.move) ?_
        refine WL.y rfl (Y.extract rfl rfl) ?_
        refine WL.y rfl (Y.extract rfl rfl) ?_
        refine WL.y rfl (Y.assign) ?_
        refine WL.y rfl (Y.assign) ?_
        refine WL.nil ?_
        refine WC.seq ?_
        refine WC.seqR rfl ?_
        refine WL.y rfl (Y.move) ?_
        refine WL.y rfl (Y.dF (Y.eqi rfl rfl) (by omega)) ?_
        refine WL.y rfl (Y.move) ?_
        refine WL.y rfl (Y.move) ?_
        refine WL.y rfl (Y.dF (Y.eqi rfl rfl) (by omega)) ?_
        refine WL.y rfl (Y.pickF rfl) ?_
        refine WL.nil ?_
        refine WC.condF (rfl) ?_
        refine WC.skip (thenQ.normal ?_)
        refine WC.seqR rfl ?_
        refine WL.y rfl (Y.move) ?_
        refine WL.y rfl (Y.dT (Y.eqi rfl rfl) (by omega)) ?_
        refine WL.y rfl (Y.move) ?_
        refine WL.y rfl (Y.move) ?_
        refine WL.y rfl (Y.dT (Y.eqi rfl rfl) (by omega)) ?_
        refine WL.y rfl (Y.pickT rfl) ?_
        refine WL.y rfl (Y.move) ?_
        refine WL.y rfl (Y.move) ?_
        refine WL.y rfl (Y.move) ?_
        refine WL.call rfl (C.func go13) ((same_ret x17 x24 (sealed (k :: a)) (sealed (o :: b)) _ ((ho17.bel hb23).bel hb24).bs ho24.bs).no hne) ?_
        rintro _ w57 ⟨rfl, hb57⟩
        have k57 := Below.step k24 hb57
        refine WL.y rfl (Y.move) ?_
        refine WL.y rfl (Y.move) ?_
        refine WL.y rfl (Y.dF (Y.eqi rfl rfl) (by omega)) ?_
        refine WL.y rfl (Y.move) ?_
        refine WL.off rfl ?_
        refine WL.off rfl ?_
        refine WL.off rfl ?_
        refine WL.y rfl (Y.pickF rfl) ?_
        refine WL.y rfl (Y.bT (Y.eqb Try.underlying4 rfl rfl) (rfl)) ?_
        refine WL.y rfl (Y.pickT rfl) ?_
        refine WL.y rfl (Y.move) ?_
        refine WL.call rfl (C.func go14) (known_ret _) ?_
        rintro _ w69 ⟨rfl, hb69⟩
        have k69 := Below.step k57 hb69
        refine WL.y rfl (Y.pickT rfl) ?_
        refine WL.y rfl (Y.assign) ?_
        refine WL.nil ?_
        refine WC.ret (endQ.one (.inr rfl) ?_)
        exact ⟨rfl, k69⟩
end Go.Proofs.Ythamimmjakcejaa
