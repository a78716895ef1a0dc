/-
  The document's body; the closed sentence of chapter 16.
-/
import Derived.Test.YthamimmjakcejaaFr6
namespace Go.Proofs.Ythamimmjakcejaa
open Go Go.RowKit Go.Cx
set_option linter.unusedVariables false
open Crc
theorem refOpen_is {m : UInt8} {xs : List UInt8} {c : Int} (w : World) (bv : Value) (l : List UInt8) (hs : Bs w bv l) (hl : l.length ≤ 140737488355328) (hro : openOf l = (m, xs, c)) :
    Ret Try.prog 17 [bv].toArray w fun v w' => (∃ xv, v = .tuple #[u8v m, xv, .int .i64 c] ∧ Bs w' xv xs) ∧ Below w.heap.size w w' := by
  have := refFrameOpen_ret w bv l hs hl
  rw [hro] at this
  exact this
theorem open_is {m : UInt8} {xs : List UInt8} {c : Int} (w : World) (bv : Value) (l : List UInt8) (hs : Bs w bv l) (hl : l.length ≤ 140737488355328) (hro : openOf l = (m, xs, c)) :
    Ret Try.prog 16 [bv].toArray w fun v w' => (∃ xv, v = .tuple #[u8v m, xv, .int .i64 c] ∧ One xv = true ∧ OB w' w.heap.size xv xs) ∧ Below w.heap.size w w' := by
  have := frameOpen_ret w bv l hs hl
  rw [hro] at this
  exact this
theorem refBody_ret (w : World) (k : UInt8) (bv : Value) (l : List UInt8) (hs : Bs w bv l) (hl : l.length ≤ 140737488355328) :
    Ret Try.prog 19 [u8v k, bv].toArray w fun v w' => (∃ xv, v = .tuple #[xv, .int .i64 (bodyOf k l).2] ∧ Bs w' xv (bodyOf k l).1) ∧ Below w.heap.size w w' := by
  rcases hop : openOf l with ⟨m, xs, c⟩
  by_cases hc : c = 0
  · by_cases hk : m = k
    · have hbo : bodyOf k l = (xs, 0) := by unfold bodyOf; rw [hop]; simp [hc, hk]
      rw [hbo]
      refine Ret.of (n := 22) (rs := #[.tmp 4, .tmp 5]) Try.func19 rfl rfl rfl (by simp) ?_
      refine WC.seqR rfl ?_
      refine WL.y rfl (Y.assign) ?_
      refine WL.y rfl (Y.assign) ?_
      refine WL.nil ?_
      refine WC.seqR rfl ?_
      refine WL.y rfl (Y.move) ?_
      refine WL.call rfl (C.func go17) (refOpen_is _ bv l (hs.bel (Below.refl _ _)) hl hop) ?_
      rintro _ w11 ⟨⟨x11, rfl, ho11⟩, hb11⟩
      have k11 := hb11
      refine WL.y rfl (Y.move) ?_
      refine WL.y rfl (Y.extract rfl rfl) ?_
      refine WL.y rfl (Y.extract rfl rfl) ?_
      refine WL.y rfl (Y.extract rfl rfl) ?_
      refine WL.y rfl (Y.assign) ?_
      refine WL.y rfl (Y.assign) ?_
      refine WL.y rfl (Y.assign) ?_
      refine WL.nil ?_
      refine WC.seq ?_
      refine WC.seqR rfl ?_
      refine WL.y rfl (Y.move) ?_
      refine WL.y rfl (Y.dF (Y.nei rfl rfl) (by omega)) ?_
      refine WL.nil ?_
      refine WC.condF (rfl) ?_
      refine WC.skip (thenQ.normal ?_)
      refine WC.seq ?_
      refine WC.seqR rfl ?_
      refine WL.y rfl (Y.move) ?_
      refine WL.y rfl (Y.move) ?_
      refine WL.y rfl (Y.dF (Y.nei rfl rfl) (by rw [hk]; omega)) ?_
      refine WL.nil ?_
      refine WC.condF (rfl) ?_
      refine WC.skip (thenQ.normal ?_)
      refine WC.seqR rfl ?_
      refine WL.y rfl (Y.move) ?_
      refine WL.y rfl (Y.assign) ?_
      refine WL.y rfl (Y.assign) ?_
      refine WL.nil ?_
      refine WC.ret (endQ.two (.inr rfl) ?_)
      exact ⟨⟨x11, rfl, ho11⟩, k11⟩
    · have hbo : bodyOf k l = ([], 13) := by unfold bodyOf; rw [hop]; simp [hc, hk]
      have hk' : m.toNat ≠ k.toNat := fun h => hk (UInt8.toNat_inj.mp h)
      rw [hbo]
      refine Ret.of (n := 22) (rs := #[.tmp 4, .tmp 5]) Try.func19 rfl rfl rfl (by simp) ?_
      refine WC.seqR rfl ?_
      refine WL.y rfl (Y.assign) ?_
      refine WL.y rfl (Y.assign) ?_
      refine WL.nil ?_
      refine WC.seqR rfl ?_
      refine WL.y rfl (Y.move) ?_
      refine WL.call rfl (C.func go17) (refOpen_is _ bv l (hs.bel (Below.refl _ _)) hl hop) ?_
      rintro _ w11 ⟨⟨x11, rfl, ho11⟩, hb11⟩
      have k11 := hb11
      refine WL.y rfl (Y.move) ?_
      refine WL.y rfl (Y.extract rfl rfl) ?_
      refine WL.y rfl (Y.extract rfl rfl) ?_
      refine WL.y rfl (Y.extract rfl rfl) ?_
      refine WL.y rfl (Y.assign) ?_
      refine WL.y rfl (Y.assign) ?_
      refine WL.y rfl (Y.assign) ?_
      refine WL.nil ?_
      refine WC.seq ?_
      refine WC.seqR rfl ?_
      refine WL.y rfl (Y.move) ?_
      refine WL.y rfl (Y.dF (Y.nei rfl rfl) (by omega)) ?_
      refine WL.nil ?_
      refine WC.condF (rfl) ?_
      refine WC.skip (thenQ.normal ?_)
      refine WC.seq ?_
      refine WC.seqR rfl ?_
      refine WL.y rfl (Y.move) ?_
      refine WL.y rfl (Y.move) ?_
      refine WL.y rfl (Y.dT (Y.nei rfl rfl) (by omega)) ?_
      refine WL.nil ?_
      refine WC.condT (rfl) ?_
      refine WC.seqR rfl ?_
      refine WL.y rfl (Y.assign) ?_
      refine WL.y rfl (Y.assign) ?_
      refine WL.nil ?_
      refine WC.ret (thenQ.ret (endQ.two (.inr rfl) ?_))
      exact ⟨⟨.slice none 0 0, rfl, bs_nil _⟩, k11⟩
  · have hbo : bodyOf k l = ([], c) := by unfold bodyOf; rw [hop]; simp [hc]
    rw [hbo]
    refine Ret.of (n := 22) (rs := #[.tmp 4, .tmp 5]) Try.func19 rfl rfl rfl (by simp) ?_
    refine WC.seqR rfl ?_
    refine WL.y rfl (Y.assign) ?_
    refine WL.y rfl (Y.assign) ?_
    refine WL.nil ?_
    refine WC.seqR rfl ?_
    refine WL.y rfl (Y.move) ?_
    refine WL.call rfl (C.func go17) (refOpen_is _ bv l (hs.bel (Below.refl _ _)) hl hop) ?_
    rintro _ w11 ⟨⟨x11, rfl, ho11⟩, hb11⟩
    have k11 := hb11
    refine WL.y rfl (Y.move) ?_
    refine WL.y rfl (Y.extract rfl rfl) ?_
    refine WL.y rfl (Y.extract rfl rfl) ?_
    refine WL.y rfl (Y.extract rfl rfl) ?_
    refine WL.y rfl (Y.assign) ?_
    refine WL.y rfl (Y.assign) ?_
    refine WL.y rfl (Y.assign) ?_
    refine WL.nil ?_
    refine WC.seq ?_
    refine WC.seqR rfl ?_
    refine WL.y rfl (Y.move) ?_
    refine WL.y rfl (Y.dT (Y.nei rfl rfl) (by omega)) ?_
    refine WL.nil ?_
    refine WC.condT (rfl) ?_
    refine WC.seqR rfl ?_
    refine WL.y rfl (Y.move) ?_
    refine WL.y rfl (Y.assign) ?_
    refine WL.y rfl (Y.assign) ?_
    refine WL.nil ?_
    refine WC.ret (thenQ.ret (endQ.two (.inr rfl) ?_))
    exact ⟨⟨.slice none 0 0, rfl, bs_nil _⟩, k11⟩
theorem open_nil : openOf [] = (0, [], 11) := rfl
theorem zero4_sealed : IsSealed [0, 0, 0, 0] := ⟨by decide, known_seal⟩
theorem open_zero4 : openOf [0, 0, 0, 0] = (0, [], 11) := by
  have : opened [0, 0, 0, 0] = [] := by unfold opened; rw [if_pos zero4_sealed]; rfl
  unfold openOf readOf
  rw [this]; rfl
theorem open_seal0 : openOf (sealed [0]) = (0, [], 2) := by
  unfold openOf readOf
  rw [opened_sealed]; rfl
theorem frame_one : frameOf 1 [] = sealed [1] := rfl
theorem known_ret (w : World) : Ret Try.prog 14 [].toArray w fun v w' => v = .bool true ∧ Below w.heap.size w w' := by
  have hmx : maxLen = 9223372036854775807 := rfl
  have hs0 : (sealed [0]).length = 5 := sealed_len [0]
  refine Ret.of (n := 54) (rs := #[.tmp 0]) Try.func14 rfl rfl rfl (by simp) ?_
  refine WC.seqR rfl ?_
  refine WL.y rfl (Y.assign) ?_
  refine WL.nil ?_
  refine WC.seqR rfl ?_
  refine WL.call rfl (C.func go10) (frame_ret _ 1 _ [] (bs_nil _) (by decide)) ?_
  rintro _ w13 ⟨⟨x13, rfl, ho13⟩, hb13⟩
  have k13 := hb13
  refine WL.y rfl (Y.move) ?_
  refine WL.y rfl (Y.extract rfl rfl) ?_
  refine WL.y rfl (Y.extract rfl rfl) ?_
  refine WL.y rfl (Y.assign) ?_
  refine WL.y rfl (Y.assign) ?_
  refine WL.nil ?_
  refine WC.seqR rfl ?_
  refine WL.call rfl (C.func go16) (open_is _ _ [] (bs_nil _) (by decide) open_nil) ?_
  rintro _ w17 ⟨⟨x17, rfl, -, -⟩, hb17⟩
  have k17 := Below.step k13 hb17
  refine WL.y rfl (Y.move) ?_
  refine WL.y rfl (Y.extract rfl rfl) ?_
  refine WL.y rfl (Y.extract rfl rfl) ?_
  refine WL.y rfl (Y.extract rfl rfl) ?_
  refine WL.y rfl (Y.assign) ?_
  refine WL.y rfl (Y.assign) ?_
  refine WL.y rfl (Y.assign) ?_
  refine WL.nil ?_
  refine WC.seqR rfl ?_
  refine WL.eex rfl (E.makeBlk (n := 4) (c := 4) Try.underlying22 ti5 rfl rfl rfl rfl rfl (by omega) (by omega) (by omega)) ?_
  rintro _ w22 ⟨rfl, hB22, hb22⟩
  have k22 := Below.step k17 hb22
  have h22 : Bs w22 (.slice (some ⟨w17.heap.size, 0, none⟩) 4 4) [0, 0, 0, 0] := hB22.sl (n := 4) (cap := 4) (by omega) (by omega) (by simp)
  refine WL.call rfl (C.func go16) (open_is _ _ [0, 0, 0, 0] h22 (by decide) open_zero4) ?_
  rintro _ w23 ⟨⟨x23, rfl, -, -⟩, hb23⟩
  have k23 := Below.step k22 hb23
  refine WL.y rfl (Y.move) ?_
  refine WL.y rfl (Y.extract rfl rfl) ?_
  refine WL.y rfl (Y.extract rfl rfl) ?_
  refine WL.y rfl (Y.extract rfl rfl) ?_
  refine WL.y rfl (Y.assign) ?_
  refine WL.y rfl (Y.assign) ?_
  refine WL.y rfl (Y.assign) ?_
  refine WL.nil ?_
  refine WC.seqR rfl ?_
  refine WL.eex rfl (E.buildSliceX (len := 1) (cs := ([0] : List UInt8).map u8v) Try.underlying22 ti5 (by omega) (by omega) (by kernel_rfl) rfl) ?_
  rintro v28 w28 ⟨-, ho28, hb28, -⟩
  have k28 := Below.step k23 hb28
  refine WL.call rfl (C.func go24) (refSeal_ret v28 [0] _ (ownsRow_sl ho28) (by decide)) ?_
  rintro v29 w29 ⟨ho29, hb29⟩
  have k29 := Below.step k28 hb29
  refine WL.call rfl (C.func go16) (open_is _ _ (sealed [0]) ho29.bs (by omega) open_seal0) ?_
  rintro _ w30 ⟨⟨x30, rfl, -, -⟩, hb30⟩
  have k30 := Below.step k29 hb30
  refine WL.y rfl (Y.move) ?_
  refine WL.y rfl (Y.extract rfl rfl) ?_
  refine WL.y rfl (Y.extract rfl rfl) ?_
  refine WL.y rfl (Y.extract rfl rfl) ?_
  refine WL.y rfl (Y.assign) ?_
  refine WL.y rfl (Y.assign) ?_
  refine WL.y rfl (Y.assign) ?_
  refine WL.nil ?_
  refine WC.seqR rfl ?_
  refine WL.y rfl (Y.move) ?_
  refine WL.y rfl (Y.dT (Y.eqi rfl rfl) (by decide)) ?_
  refine WL.y rfl (Y.move) ?_
  refine WL.y rfl (Y.move) ?_
  refine WL.eex rfl (E.buildSliceX (len := 1) (cs := ([1] : List UInt8).map u8v) Try.underlying22 ti5 (by omega) (by omega) (by kernel_rfl) rfl) ?_
  rintro v38 w38 ⟨-, ho38, hb38, -⟩
  have k38 := Below.step k30 hb38
  refine WL.call rfl (C.func go24) (refSeal_ret v38 [1] _ (ownsRow_sl ho38) (by decide)) ?_
  rintro v39 w39 ⟨ho39, hb39⟩
  have k39 := Below.step k38 hb39
  refine WL.call rfl (C.func go13) ((same_ret x13 v39 (sealed [1]) (sealed [1]) _ ((((((((ho13.bel hb17).bel hb22).bel hb23).bel hb28).bel hb29).bel hb30).bel hb38).bel hb39).bs ho39.bs).yes rfl) ?_
  rintro _ w40 ⟨rfl, hb40⟩
  have k40 := Below.step k39 hb40
  refine WL.y rfl (Y.pickT rfl) ?_
  refine WL.y rfl (Y.move) ?_
  refine WL.y rfl (Y.move) ?_
  refine WL.y rfl (Y.dT (Y.eqi rfl rfl) (by omega)) ?_
  refine WL.y rfl (Y.pickT rfl) ?_
  refine WL.y rfl (Y.move) ?_
  refine WL.y rfl (Y.move) ?_
  refine WL.y rfl (Y.dT (Y.eqi rfl rfl) (by omega)) ?_
  refine WL.y rfl (Y.pickT rfl) ?_
  refine WL.y rfl (Y.move) ?_
  refine WL.y rfl (Y.move) ?_
  refine WL.y rfl (Y.dT (Y.eqi rfl rfl) (by omega)) ?_
  refine WL.y rfl (Y.pickT rfl) ?_
  refine WL.y rfl (Y.assign) ?_
  refine WL.nil ?_
  refine WC.ret (endQ.one (.inr rfl) ?_)
  exact ⟨rfl, k40⟩
end Go.Proofs.Ythamimmjakcejaa
