/-
  The law ValueMember: walk.
-/
import Derived.Test.YthcppegkpkgnpaaDoorVal24
import Derived.Test.YthcppegkpkgnpaaDoorVal25
namespace Go.Proofs.YthcppegkpkgnpaaDoor
open Go Go.RowKit Go.Cx
set_option linter.unusedVariables false
set_option maxHeartbeats 8000000
theorem valueMember_ret (w : World) (a : Value) (v : V) (hx : VArg w v a) (key : List UInt8) (hkey : key.length ≤ 140737488351232) (hT : Tabs w) : Ret Tryd.prog 10 [a, strv key].toArray w fun r w' => r = .bool true ∧ Below w.heap.size w w' := by
  obtain ⟨c, rfl, hv⟩ := hx
  have hl := hv.len
  refine Ret.of (n := 40) (rs := #[.tmp 4]) Tryd.func10 rfl rfl rfl (by simp) ?_
  refine WC.seqR rfl ?_
  refine WL.eex rfl (E.boxX) ?_
  rintro _ w2 ⟨rfl, hB2, hb2⟩
  refine WL.y rfl (Y.assign) ?_
  refine WL.nil ?_
  refine WC.seqR rfl ?_
  refine WL.y rfl (Y.loadK Tryd.underlying26 rfl ti26 (hl) rfl ((show Blk _ _ _ c from hB2).cells)) ?_
  refine WL.call rfl (C.func go11) (rcopy_ret v _ _ (hv.bel hb2)) ?_
  rintro _ w11 ⟨c8, rfl, h8, hb11⟩
  refine WL.eex rfl (E.allocX ti26) ?_
  rintro _ w5 ⟨rfl, hB5, hb5⟩
  refine WL.eex rfl (E.storeAllK (us := c8) ti26 h8.len rfl rfl h8.one hB5 rfl) ?_
  rintro _ w3s ⟨hB3', hg3⟩
  refine WL.nil ?_
  have l1 := (show Blk w2 _ _ _ from hB2).lt
  have l3 := (show Blk w5 _ _ _ from hB5).lt
  have s8 := hb11.size
  have s3 := hb5.size
  have t3 := hg3.size
  have k3 : Below w.heap.size w w3s := Below.stepG (Below.step (Below.step hb2 hb11) hb5) hg3 (by omega)
  have B1 : Blk w3s w.heap.size 26 c := (((show Blk _ _ _ c from hB2).bel hb11).bel hb5).grown hg3 (by omega)
  have A8 : VW w3s (fun b => w2.heap.size ≤ b ∧ b < w11.heap.size) v c8 := VW.kept (Kept.of_grown (M := fun b => b = w11.heap.size) hg3 rfl) (fun b h1 h2 => by omega) ((h8.mono (fun b h1 h2 => ⟨h2, h1⟩)).bel hb5)
  clear hB2 hB5 h8
  refine WC.seqR rfl ?_
  refine WL.y rfl (Y.loadK Tryd.underlying26 rfl ti26 (A8.len) rfl (hB3'.cells)) ?_
  refine WL.y rfl (Y.move) ?_
  refine WL.call rfl (C.func go16) (member_ret v key _ _ A8.at) ?_
  rintro _ w10 ⟨c10, rfl, h10, hb10⟩
  refine WL.y rfl (Y.move) ?_
  refine WL.y rfl (Y.extract rfl rfl) ?_
  refine WL.y rfl (Y.extract rfl rfl) ?_
  refine WL.eex rfl (E.allocX ti26) ?_
  rintro _ w6 ⟨rfl, hB6, hb6⟩
  refine WL.eex rfl (E.storeAllK (us := c10) ti26 h10.len rfl rfl h10.one hB6 rfl) ?_
  rintro _ w4s ⟨hB4', hg4⟩
  refine WL.y rfl (Y.assign) ?_
  refine WL.nil ?_
  have l4 := (show Blk w6 _ _ _ from hB6).lt
  have s10 := hb10.size
  have s4 := hb6.size
  have t4 := hg4.size
  have k4 : Below w.heap.size w w4s := Below.stepG (Below.step (Below.step k3 hb10) hb6) hg4 (by omega)
  have B1' : Blk w4s w.heap.size 26 c := ((B1.bel hb10).bel hb6).grown hg4 (by omega)
  have B3' : Blk w4s w11.heap.size 26 c8 := ((hB3'.bel hb10).bel hb6).grown hg4 (by omega)
  have A8' : VW w4s (fun b => w2.heap.size ≤ b ∧ b < w11.heap.size) v c8 := VW.kept (Kept.of_grown (M := fun b => b = w10.heap.size) hg4 rfl) (fun b h1 h2 => by omega) ((A8.bel hb10).bel hb6)
  have A10 : VW w4s (fun b => w3s.heap.size ≤ b ∧ b < w10.heap.size) (memV v key).1 c10 := VW.kept (Kept.of_grown (M := fun b => b = w10.heap.size) hg4 rfl) (fun b h1 h2 => by omega) ((h10.mono (fun b h1 h2 => ⟨h2, h1⟩)).bel hb6)
  clear hB6 h10 B1 hB3' A8
  refine WC.seqR rfl ?_
  refine WL.y rfl (Y.loadK Tryd.underlying26 rfl ti26 (hl) rfl (B1'.cells)) ?_
  refine WL.y rfl (Y.move) ?_
  refine WL.call rfl (C.func go30) (rmember_ret v key _ _ (hv.bel k4)) ?_
  rintro _ w21 ⟨c21, rfl, h21, hb21⟩
  refine WL.y rfl (Y.move) ?_
  refine WL.y rfl (Y.extract rfl rfl) ?_
  refine WL.y rfl (Y.extract rfl rfl) ?_
  refine WL.eex rfl (E.allocX ti26) ?_
  rintro _ w8 ⟨rfl, hB8, hb8⟩
  refine WL.eex rfl (E.storeAllK (us := c21) ti26 h21.len rfl rfl h21.one hB8 rfl) ?_
  rintro _ w5s ⟨hB5', hg5⟩
  refine WL.y rfl (Y.assign) ?_
  refine WL.nil ?_
  refine WC.seq ?_
  have l8 := (show Blk w8 _ _ _ from hB8).lt
  have s21 := hb21.size
  have s8 := hb8.size
  have t5 := hg5.size
  have b5 : Below w21.heap.size w21 w5s := Below.stepG hb8 hg5 (Nat.le_refl _)
  have k5 : Below w.heap.size w w5s := Below.step (Below.step k4 hb21) b5
  have B5 : Blk w5s w.heap.size 26 c := (B1'.bel hb21).bel b5
  have B6 : Blk w5s w11.heap.size 26 c8 := (B3'.bel hb21).bel b5
  have B7 : Blk w5s w10.heap.size 26 c10 := (hB4'.bel hb21).bel b5
  have A5 := (A8'.bel hb21).bel b5
  have A6 := (A10.bel hb21).bel b5
  have A7 := h21.bel b5
  clear hB8 B1' B3' hB4' A8' A10 h21 hg5 hb8
  refine WC.seqR rfl ?_
  refine WL.y rfl (Y.move) ?_
  refine WL.y rfl (Y.move) ?_
  refine WL.y rfl (Y.dF (Y.nei rfl rfl) (fun h => h rfl)) ?_
  refine WL.y rfl (Y.move) ?_
  refine WL.y rfl (Y.loadK Tryd.underlying26 rfl ti26 (A6.len) rfl (B7.cells)) ?_
  refine WL.y rfl (Y.loadK Tryd.underlying26 rfl ti26 (A7.len) rfl (hB5'.cells)) ?_
  refine WL.call rfl (C.func go15) (requalT_ret _ _ _ _ A6.at A7) ?_
  rintro _ w30 ⟨rfl, hb30⟩
  refine WL.y rfl (Y.bF (Y.not rfl) (rfl)) ?_
  refine WL.y rfl (Y.pickF rfl) ?_
  refine WL.nil ?_
  refine WC.condF (rfl) ?_
  refine WC.skip (thenQ.normal ?_)
  refine WC.seqR rfl ?_
  refine WL.call rfl (C.func go14) (spoilt_ret (B7.bel hb30) (A6.bel hb30)) ?_
  rintro _ w33 k33
  refine WL.nil ?_
  have s30 := hb30.size
  have k6 : Below w.heap.size w w33 := Below.kept (Below.step k5 hb30) k33.kept (fun b h => by omega) (Nat.le_refl _)
  have B8 : Blk w33 w.heap.size 26 c := (B5.bel hb30).kept k33.kept (by omega)
  have B9 : Blk w33 w11.heap.size 26 c8 := (B6.bel hb30).kept k33.kept (by omega)
  have A9 := VW.kept k33.kept (fun b h1 h2 => by omega) (A5.bel hb30)
  refine WC.seqR rfl ?_
  refine WL.y rfl (Y.loadK Tryd.underlying26 rfl ti26 (A9.len) rfl (B9.cells)) ?_
  refine WL.y rfl (Y.loadK Tryd.underlying26 rfl ti26 (hl) rfl (B8.cells)) ?_
  refine WL.call rfl (C.func go15) (requalT_ret v _ _ _ A9.at (hv.bel k6)) ?_
  rintro _ w36 ⟨rfl, hb36⟩
  refine WL.y rfl (Y.move) ?_
  refine WL.call rfl (C.func go17) (known_ret _ ((hT.bel k6).bel hb36)) ?_
  rintro _ w38 ⟨rfl, hb38⟩
  refine WL.y rfl (Y.pickT rfl) ?_
  refine WL.y rfl (Y.assign) ?_
  refine WL.nil ?_
  refine WC.ret (endQ.one (.inr rfl) ?_)
  exact ⟨rfl, Below.step (Below.step k6 hb36) hb38⟩
end Go.Proofs.YthcppegkpkgnpaaDoor
