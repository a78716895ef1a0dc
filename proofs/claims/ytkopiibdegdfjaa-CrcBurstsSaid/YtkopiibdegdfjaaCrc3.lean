/-
  The closed sentence of chapter 15, and its laws: walks.
-/
import Derived.Test.YtkopiibdegdfjaaCrc2
import Derived.Test.YtkopiibdegdfjaaOpen0
namespace Go.Proofs.Ytkopiibdegdfjaa
open Go Go.RowKit Go.Cx
set_option linter.unusedVariables false
open Crc
theorem known_ret (w : World) : Ret Try.prog 15 [].toArray w fun v w' => v = .bool true ∧ Below w.heap.size w w' := by
  have hsum : (sum [49, 50, 51, 52, 53, 54, 55, 56, 57]).toNat = 3421780262 := by rw [known_sum]; rfl
  refine Ret.of (n := 10) (rs := #[.tmp 0]) Try.func15 rfl rfl rfl (by simp) ?_
  refine WC.seqR rfl ?_
  refine WL.y rfl (Y.assign) ?_
  refine WL.nil ?_
  refine WC.seqR rfl ?_
  refine WL.eex rfl (E.buildSliceX (len := 9) (cs := ([49, 50, 51, 52, 53, 54, 55, 56, 57] : List UInt8).map u8v) Try.underlying22 ti5 (by omega) (by omega) (by kernel_rfl) rfl) ?_
  rintro _ w1 ⟨rfl, ho1, hb1, -⟩
  refine WL.eex rfl (E.convB (cs := ([49, 50, 51, 52, 53, 54, 55, 56, 57] : List UInt8).map u8v) Try.underlying22 Try.underlying5 rfl (ownsRow_sl ho1) (Nat.le_refl _) hb1.size) ?_
  rintro v2 w2 ⟨hs2, hb2⟩
  refine WL.call rfl (C.func go10) (sum_ret v2 [49, 50, 51, 52, 53, 54, 55, 56, 57] _ hs2) ?_
  rintro _ w3 ⟨rfl, hb3⟩
  refine WL.y rfl (Y.dT (Y.eqi rfl rfl) (by rw [hsum]; rfl)) ?_
  refine WL.y rfl (Y.move) ?_
  refine WL.call rfl (C.func go16) (seal_ret (.slice none 0 0) [] _ SlK.nil (by simp)) ?_
  rintro v6 w6 ⟨ho6, hb6⟩
  refine WL.eex rfl (E.buildSliceX (len := 4) (cs := ([0, 0, 0, 0] : List UInt8).map u8v) Try.underlying22 ti5 (by omega) (by omega) (by kernel_rfl) rfl) ?_
  rintro v7 w7 ⟨-, ho7, hb7, -⟩
  refine WL.call rfl (C.func go19) ((same_ret v6 v7 (sealed []) [0, 0, 0, 0] _ (ho6.bel hb7).bs (ownsRow_sl ho7)).yes known_seal) ?_
  rintro _ w8 ⟨rfl, hb8⟩
  refine WL.y rfl (Y.pickT rfl) ?_
  refine WL.y rfl (Y.assign) ?_
  refine WL.nil ?_
  refine WC.ret (endQ.one (.inr rfl) ?_)
  exact ⟨rfl, Below.step (Below.step (Below.step (Below.step (hb1.trans hb2) hb3) hb6) hb7) hb8⟩
theorem crcSums_ret (w : World) (bv : Value) (l : List UInt8) (hs : Bs w bv l) (hl : l.length ≤ 140737488351232) (n : Int) (hn : (Lit.int .u32 n).wf = true) :
    Ret Try.prog 3 [bv, .int .u32 n].toArray w fun v w' => v = .bool true ∧ Below w.heap.size w w' := by
  rw [u32_of hn]
  generalize BitVec.ofInt 32 n = s
  refine Ret.of (n := 24) (rs := #[.tmp 4]) Try.func3 rfl rfl rfl (by simp) ?_
  refine WC.seqR rfl ?_
  refine WL.y rfl (Y.assign) ?_
  refine WL.nil ?_
  refine WC.seqR rfl ?_
  refine WL.y rfl (Y.move) ?_
  refine WL.call rfl (C.func go11) (own_ret bv l _ hs (by omega)) ?_
  rintro v6 w6 ⟨ho6, hb6⟩
  refine WL.call rfl (C.func go10) (sum_ret v6 l _ ho6.bs) ?_
  rintro _ w7 ⟨rfl, hb7⟩
  refine WL.y rfl (Y.move) ?_
  refine WL.call rfl (C.func go12) (refSum_ret bv l _ (hs.bel (Below.step hb6 hb7))) ?_
  rintro _ w9 ⟨rfl, hb9⟩
  refine WL.y rfl (Y.dT (Y.eqi rfl rfl) (rfl)) ?_
  refine WL.y rfl (Y.move) ?_
  refine WL.y rfl (Y.move) ?_
  refine WL.y rfl (Y.move) ?_
  refine WL.call rfl (C.func go11) (own_ret bv l _ (hs.bel (Below.step (Below.step hb6 hb7) hb9)) (by omega)) ?_
  rintro v14 w14 ⟨ho14, hb14⟩
  refine WL.call rfl (C.func go13) (more_ret s v14 l _ ho14.bs) ?_
  rintro _ w15 ⟨rfl, hb15⟩
  refine WL.y rfl (Y.move) ?_
  refine WL.y rfl (Y.move) ?_
  refine WL.call rfl (C.func go14) (refMore_ret s bv l _ (hs.bel (Below.step (Below.step (Below.step (Below.step hb6 hb7) hb9) hb14) hb15))) ?_
  rintro _ w18 ⟨rfl, hb18⟩
  refine WL.y rfl (Y.dT (Y.eqi rfl rfl) (rfl)) ?_
  refine WL.y rfl (Y.pickT rfl) ?_
  refine WL.y rfl (Y.move) ?_
  refine WL.call rfl (C.func go15) (known_ret _) ?_
  rintro _ w22 ⟨rfl, hb22⟩
  refine WL.y rfl (Y.pickT rfl) ?_
  refine WL.y rfl (Y.assign) ?_
  refine WL.nil ?_
  refine WC.ret (endQ.one (.inr rfl) ?_)
  exact ⟨rfl, Below.step (Below.step (Below.step (Below.step (Below.step (Below.step hb6 hb7) hb9) hb14) hb15) hb18) hb22⟩
end Go.Proofs.Ytkopiibdegdfjaa
