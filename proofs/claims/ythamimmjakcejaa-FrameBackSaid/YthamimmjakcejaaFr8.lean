/-
  The laws FrameForms, FrameOpens.
-/
import Derived.Test.YthamimmjakcejaaFr7
namespace Go.Proofs.Ythamimmjakcejaa
open Go Go.RowKit Go.Cx
set_option linter.unusedVariables false
open Crc
theorem u8_of {n : Int} (h : (Lit.int .u8 n).wf = true) : Value.int .u8 n = u8v (UInt8.ofNat n.toNat) := by
  have hr := int_range h
  have e1 : IntKind.u8.min = 0 := rfl
  have e2 : IntKind.u8.max = 255 := rfl
  apply int_eq
  rw [UInt8.toNat_ofNat']
  omega
theorem frameForms_ret (w : World) (n : Int) (hn : (Lit.int .u8 n).wf = true) (bv : Value) (l : List UInt8) (hs : Bs w bv l) (hl : l.length ≤ 140737488351232) :
    Ret Try.prog 3 [.int .u8 n, bv].toArray w fun v w' => v = .bool true ∧ Below w.heap.size w w' := by
  rw [u8_of hn]
  generalize UInt8.ofNat n.toNat = k
  refine Ret.of (n := 33) (rs := #[.tmp 4]) Try.func3 rfl rfl rfl (by simp) ?_
  refine WC.seqR rfl ?_
  refine WL.y rfl (Y.assign) ?_
  refine WL.nil ?_
  refine WC.seqR rfl ?_
  refine WL.y rfl (Y.move) ?_
  refine WL.y rfl (Y.move) ?_
  refine WL.call rfl (C.func go11) (own_ret bv l _ (hs.bel (Below.refl _ _)) (by omega)) ?_
  rintro v12 w12 ⟨ho12, hb12⟩
  have k12 := hb12
  refine WL.call rfl (C.func go10) (frame_ret _ k v12 l ho12.bs (by omega)) ?_
  rintro _ w13 ⟨⟨x13, rfl, ho13⟩, hb13⟩
  have k13 := Below.step k12 hb13
  refine WL.y rfl (Y.move) ?_
  refine WL.y rfl (Y.extract rfl rfl) ?_
  refine WL.y rfl (Y.extract rfl rfl) ?_
  refine WL.y rfl (Y.assign) ?_
  refine WL.y rfl (Y.assign) ?_
  refine WL.nil ?_
  refine WC.seqR rfl ?_
  refine WL.y rfl (Y.move) ?_
  refine WL.y rfl (Y.move) ?_
  refine WL.call rfl (C.func go12) (refFrame_ret _ k bv l (hs.bel k13) (by omega)) ?_
  rintro _ w19 ⟨⟨x19, rfl, ho19⟩, hb19⟩
  have k19 := Below.step k13 hb19
  refine WL.y rfl (Y.move) ?_
  refine WL.y rfl (Y.extract rfl rfl) ?_
  refine WL.y rfl (Y.extract rfl rfl) ?_
  refine WL.y rfl (Y.assign) ?_
  refine WL.y rfl (Y.assign) ?_
  refine WL.nil ?_
  refine WC.seqR rfl ?_
  refine WL.y rfl (Y.move) ?_
  refine WL.y rfl (Y.move) ?_
  refine WL.y rfl (Y.dT (Y.eqi rfl rfl) (rfl)) ?_
  refine WL.y rfl (Y.move) ?_
  refine WL.y rfl (Y.move) ?_
  refine WL.y rfl (Y.move) ?_
  refine WL.call rfl (C.func go13) ((same_ret x13 x19 (frameOf k l) (frameOf k l) _ (ho13.bel hb19).bs ho19.bs).yes rfl) ?_
  rintro _ w28 ⟨rfl, hb28⟩
  have k28 := Below.step k19 hb28
  refine WL.y rfl (Y.pickT rfl) ?_
  refine WL.y rfl (Y.move) ?_
  refine WL.call rfl (C.func go14) (known_ret _) ?_
  rintro _ w31 ⟨rfl, hb31⟩
  have k31 := Below.step k28 hb31
  refine WL.y rfl (Y.pickT rfl) ?_
  refine WL.y rfl (Y.assign) ?_
  refine WL.nil ?_
  refine WC.ret (endQ.one (.inr rfl) ?_)
  exact ⟨rfl, k31⟩
theorem frameOpens_ret (w : World) (bv : Value) (l : List UInt8) (hs : Bs w bv l) (hl : l.length ≤ 140737488351232) (n : Int) (hn : (Lit.int .u8 n).wf = true) :
    Ret Try.prog 7 [bv, .int .u8 n].toArray w fun v w' => v = .bool true ∧ Below w.heap.size w w' := by
  rw [u8_of hn]
  generalize UInt8.ofNat n.toNat = k
  refine Ret.of (n := 66) (rs := #[.tmp 4]) Try.func7 rfl rfl rfl (by simp) ?_
  refine WC.seqR rfl ?_
  refine WL.y rfl (Y.assign) ?_
  refine WL.nil ?_
  refine WC.seqR rfl ?_
  refine WL.y rfl (Y.move) ?_
  refine WL.call rfl (C.func go11) (own_ret bv l _ (hs.bel (Below.refl _ _)) (by omega)) ?_
  rintro v17 w17 ⟨ho17, hb17⟩
  have k17 := hb17
  refine WL.call rfl (C.func go16) (frameOpen_ret _ v17 l ho17.bs (by omega)) ?_
  rintro _ w18 ⟨⟨x18, rfl, -, ho18⟩, hb18⟩
  have k18 := Below.step k17 hb18
  refine WL.y rfl (Y.move) ?_
  refine WL.y rfl (Y.extract rfl rfl) ?_
  refine WL.y rfl (Y.extract rfl rfl) ?_
  refine WL.y rfl (Y.extract rfl rfl) ?_
  refine WL.y rfl (Y.assign) ?_
  refine WL.y rfl (Y.assign) ?_
  refine WL.y rfl (Y.assign) ?_
  refine WL.nil ?_
  refine WC.seqR rfl ?_
  refine WL.y rfl (Y.move) ?_
  refine WL.call rfl (C.func go17) (refFrameOpen_ret _ bv l (hs.bel k18) (by omega)) ?_
  rintro _ w24 ⟨⟨x24, rfl, ho24⟩, hb24⟩
  have k24 := Below.step k18 hb24
  refine WL.y rfl (Y.move) ?_
  refine WL.y rfl (Y.extract rfl rfl) ?_
  refine WL.y rfl (Y.extract rfl rfl) ?_
  refine WL.y rfl (Y.extract rfl rfl) ?_
  refine WL.y rfl (Y.assign) ?_
  refine WL.y rfl (Y.assign) ?_
  refine WL.y rfl (Y.assign) ?_
  refine WL.nil ?_
  refine WC.seq ?_
  refine WC.seqR rfl ?_
  refine WL.y rfl (Y.move) ?_
  refine WL.y rfl (Y.move) ?_
  refine WL.y rfl (Y.dF (Y.nei rfl rfl) (by simp)) ?_
  refine WL.y rfl (Y.move) ?_
  refine WL.y rfl (Y.move) ?_
  refine WL.y rfl (Y.move) ?_
  refine WL.y rfl (Y.dF (Y.nei rfl rfl) (by simp)) ?_
  refine WL.y rfl (Y.pickF rfl) ?_
  refine WL.y rfl (Y.move) ?_
  refine WL.y rfl (Y.move) ?_
  refine WL.y rfl (Y.move) ?_
  refine WL.call rfl (C.func go13) ((same_ret x18 x24 (openOf l).2.1 (openOf l).2.1 _ (ho18.bel hb24).bs ho24).yes rfl) ?_
  rintro _ w39 ⟨rfl, hb39⟩
  have k39 := Below.step k24 hb39
  refine WL.y rfl (Y.not rfl) ?_
  refine WL.y rfl (Y.pickF rfl) ?_
  refine WL.nil ?_
  refine WC.condF (rfl) ?_
  refine WC.skip (thenQ.normal ?_)
  refine WC.seqR rfl ?_
  refine WL.y rfl (Y.move) ?_
  refine WL.y rfl (Y.move) ?_
  refine WL.call rfl (C.func go11) (own_ret bv l _ (hs.bel k39) (by omega)) ?_
  rintro v45 w45 ⟨ho45, hb45⟩
  have k45 := Below.step k39 hb45
  refine WL.call rfl (C.func go18) (frameBody_ret _ k v45 l ho45.bs (by omega)) ?_
  rintro _ w46 ⟨⟨x46, rfl, ho46⟩, hb46⟩
  have k46 := Below.step k45 hb46
  refine WL.y rfl (Y.move) ?_
  refine WL.y rfl (Y.extract rfl rfl) ?_
  refine WL.y rfl (Y.extract rfl rfl) ?_
  refine WL.y rfl (Y.assign) ?_
  refine WL.y rfl (Y.assign) ?_
  refine WL.nil ?_
  refine WC.seqR rfl ?_
  refine WL.y rfl (Y.move) ?_
  refine WL.y rfl (Y.move) ?_
  refine WL.call rfl (C.func go19) (refBody_ret _ k bv l (hs.bel k46) (by omega)) ?_
  rintro _ w52 ⟨⟨x52, rfl, ho52⟩, hb52⟩
  have k52 := Below.step k46 hb52
  refine WL.y rfl (Y.move) ?_
  refine WL.y rfl (Y.extract rfl rfl) ?_
  refine WL.y rfl (Y.extract rfl rfl) ?_
  refine WL.y rfl (Y.assign) ?_
  refine WL.y rfl (Y.assign) ?_
  refine WL.nil ?_
  refine WC.seqR rfl ?_
  refine WL.y rfl (Y.move) ?_
  refine WL.y rfl (Y.move) ?_
  refine WL.y rfl (Y.dT (Y.eqi rfl rfl) (rfl)) ?_
  refine WL.y rfl (Y.move) ?_
  refine WL.y rfl (Y.move) ?_
  refine WL.y rfl (Y.move) ?_
  refine WL.call rfl (C.func go13) ((same_ret x46 x52 (bodyOf k l).1 (bodyOf k l).1 _ (ho46.bel hb52).bs ho52).yes rfl) ?_
  rintro _ w61 ⟨rfl, hb61⟩
  have k61 := Below.step k52 hb61
  refine WL.y rfl (Y.pickT rfl) ?_
  refine WL.y rfl (Y.move) ?_
  refine WL.call rfl (C.func go14) (known_ret _) ?_
  rintro _ w64 ⟨rfl, hb64⟩
  have k64 := Below.step k61 hb64
  refine WL.y rfl (Y.pickT rfl) ?_
  refine WL.y rfl (Y.assign) ?_
  refine WL.nil ?_
  refine WC.ret (endQ.one (.inr rfl) ?_)
  exact ⟨rfl, k64⟩
end Go.Proofs.Ythamimmjakcejaa
