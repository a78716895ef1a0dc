/-
  The laws ValueCopies, ValueMember: walks.
-/
import Derived.Test.YthcppegkpkgnpaaDoorVal17
import Derived.Test.YthcppegkpkgnpaaDoorVal21
import Derived.Test.YthcppegkpkgnpaaDoorVal22
namespace Go.Proofs.YthcppegkpkgnpaaDoor
open Go Go.RowKit Go.Cx
set_option linter.unusedVariables false
set_option maxHeartbeats 8000000
theorem cells_sl {b o : Nat} {w : World} {v : V} {lv ov : Value} (h : Cells w b o (vcell v lv ov)) : w.cell? ⟨b, o + 4, none⟩ = some lv ∧ w.cell? ⟨b, o + 5, none⟩ = some ov := ⟨h 4 _ rfl, h 5 _ rfl⟩
/-- a copy, spoilt -/
theorem spoilt_ret {w : World} {M : Nat → Prop} {b : Nat} {t : TypeId} {v : V} {c : List Value} (hB : Blk w b t c) (h : VW w M v c) : Ret Tryd.prog 14 [.pointer (some ⟨b, 0, none⟩)].toArray w fun r w' => SpK M w w' := by
  have hqq := h.parts
  obtain ⟨lv, ov, -, -, -, rfl⟩ := hqq
  have hqq := cells_sl hB.cells
  obtain ⟨c4, c5⟩ := hqq
  exact spoil_ret v w M b 0 lv ov c4 c5 h.hat
theorem VAt.spk {w w' : World} {M : Nat → Prop} {v : V} {c : List Value} (h : VW w (fun b => ¬ M b) v c) (k : SpK M w w') : VAt w' v c := (VW.kept k.kept (fun _ h => h) h).at
/-- equal to a value -/
theorem requalT_ret (v : V) (w : World) (c d : List Value) (hc : VAt w v c) (hd : VAt w v d) : Ret Tryd.prog 15 [.agg c.toArray, .agg d.toArray].toArray w fun r w' => r = .bool true ∧ Below w.heap.size w w' :=
  (requal_ret v v w c d hc hd).mono fun r w' ⟨⟨e, h1, h2⟩, h3⟩ => ⟨by rw [h1, h2.2 rfl], h3⟩
theorem valueCopies_ret (w : World) (a : Value) (v : V) (hx : VArg w v a) (hT : Tabs w) : Ret Tryd.prog 9 [a].toArray w fun r w' => r = .bool true ∧ Below w.heap.size w w' := by
  obtain ⟨c, rfl, hv⟩ := hx
  have hl := hv.len
  refine Ret.of (n := 37) (rs := #[.tmp 2]) Tryd.func9 rfl rfl rfl (by simp) ?_
  refine WC.seqR rfl ?_
  refine WL.eex rfl (E.boxX) ?_
  rintro _ w1 ⟨rfl, hB1, hb1⟩
  refine WL.y rfl (Y.assign) ?_
  refine WL.nil ?_
  refine WC.seqR rfl ?_
  refine WL.y rfl (Y.loadK Tryd.underlying26 rfl ti26 (hl) rfl ((show Blk _ _ _ c from hB1).cells)) ?_
  refine WL.call rfl (C.func go11) (rcopy_ret v _ _ (hv.bel hb1)) ?_
  rintro _ w8 ⟨c8, rfl, h8, hb8⟩
  refine WL.eex rfl (E.allocX ti26) ?_
  rintro _ w3 ⟨rfl, hB3, hb3⟩
  refine WL.eex rfl (E.storeAllK (us := c8) ti26 h8.len rfl rfl h8.one hB3 rfl) ?_
  rintro _ w3s ⟨hB3', hg3⟩
  refine WL.nil ?_
  have l1 := (show Blk w1 _ _ _ from hB1).lt
  have l3 := (show Blk w3 _ _ _ from hB3).lt
  have s8 := hb8.size
  have s3 := hb3.size
  have t3 := hg3.size
  have k3 : Below w.heap.size w w3s := Below.stepG (Below.step (Below.step hb1 hb8) hb3) hg3 (by omega)
  have B1 : Blk w3s w.heap.size 26 c := (((show Blk _ _ _ c from hB1).bel hb8).bel hb3).grown hg3 (by omega)
  have A8 : VW w3s (fun b => w1.heap.size ≤ b ∧ b < w8.heap.size) v c8 := VW.kept (Kept.of_grown (M := fun b => b = w8.heap.size) hg3 rfl) (fun b h1 h2 => by omega) ((h8.mono (fun b h1 h2 => ⟨h2, h1⟩)).bel hb3)
  clear hB1 hB3 h8
  refine WC.seqR rfl ?_
  refine WL.y rfl (Y.loadK Tryd.underlying26 rfl ti26 (A8.len) rfl (hB3'.cells)) ?_
  refine WL.call rfl (C.func go29) (copy_ret v _ _ A8.at) ?_
  rintro _ w10 ⟨c10, rfl, h10, hb10⟩
  refine WL.eex rfl (E.allocX ti26) ?_
  rintro _ w4 ⟨rfl, hB4, hb4⟩
  refine WL.eex rfl (E.storeAllK (us := c10) ti26 h10.len rfl rfl h10.one hB4 rfl) ?_
  rintro _ w4s ⟨hB4', hg4⟩
  refine WL.nil ?_
  refine WC.seq ?_
  have l4 := (show Blk w4 _ _ _ from hB4).lt
  have s10 := hb10.size
  have s4 := hb4.size
  have t4 := hg4.size
  have k4 : Below w.heap.size w w4s := Below.stepG (Below.step (Below.step k3 hb10) hb4) hg4 (by omega)
  have B1' : Blk w4s w.heap.size 26 c := ((B1.bel hb10).bel hb4).grown hg4 (by omega)
  have B3' : Blk w4s w8.heap.size 26 c8 := ((hB3'.bel hb10).bel hb4).grown hg4 (by omega)
  have A8' : VW w4s (fun b => w1.heap.size ≤ b ∧ b < w8.heap.size) v c8 := VW.kept (Kept.of_grown (M := fun b => b = w10.heap.size) hg4 rfl) (fun b h1 h2 => by omega) ((A8.bel hb10).bel hb4)
  have A10 : VW w4s (fun b => w3s.heap.size ≤ b ∧ b < w10.heap.size) v c10 := VW.kept (Kept.of_grown (M := fun b => b = w10.heap.size) hg4 rfl) (fun b h1 h2 => by omega) ((h10.mono (fun b h1 h2 => ⟨h2, h1⟩)).bel hb4)
  clear hB4 h10 B1 hB3' A8
  refine WC.seqR rfl ?_
  refine WL.y rfl (Y.loadK Tryd.underlying26 rfl ti26 (A8'.len) rfl (B3'.cells)) ?_
  refine WL.y rfl (Y.loadK Tryd.underlying26 rfl ti26 (hl) rfl (B1'.cells)) ?_
  refine WL.call rfl (C.func go15) (requalT_ret v _ _ _ A8'.at (hv.bel k4)) ?_
  rintro _ w13 ⟨rfl, hb13⟩
  refine WL.y rfl (Y.bF (Y.not rfl) (rfl)) ?_
  refine WL.y rfl (Y.move) ?_
  refine WL.y rfl (Y.loadK Tryd.underlying26 rfl ti26 (A10.len) rfl ((hB4'.bel hb13).cells)) ?_
  refine WL.y rfl (Y.loadK Tryd.underlying26 rfl ti26 (hl) rfl ((B1'.bel hb13).cells)) ?_
  refine WL.call rfl (C.func go15) (requalT_ret v _ _ _ (A10.at.bel hb13) ((hv.bel k4).bel hb13)) ?_
  rintro _ w18 ⟨rfl, hb18⟩
  refine WL.y rfl (Y.bF (Y.not rfl) (rfl)) ?_
  refine WL.y rfl (Y.pickF rfl) ?_
  refine WL.nil ?_
  refine WC.condF (rfl) ?_
  refine WC.skip (thenQ.normal ?_)
  refine WC.seqR rfl ?_
  refine WL.call rfl (C.func go14) (spoilt_ret ((B3'.bel hb13).bel hb18) ((A8'.bel hb13).bel hb18)) ?_
  rintro _ w21 k21
  refine WL.nil ?_
  refine WC.seq ?_
  have k5 : Below w.heap.size w w21 := Below.kept (Below.step (Below.step k4 hb13) hb18) k21.kept (fun b h => by omega) (Nat.le_refl _)
  have s13 := hb13.size
  have s18 := hb18.size
  have s21 := k21.kept.size
  have B5 : Blk w21 w.heap.size 26 c := ((B1'.bel hb13).bel hb18).kept k21.kept (by omega)
  have B6 : Blk w21 w10.heap.size 26 c10 := ((hB4'.bel hb13).bel hb18).kept k21.kept (by omega)
  have A11 := VW.kept k21.kept (fun b h1 h2 => by omega) ((A10.bel hb13).bel hb18)
  clear A8' A10 B1' B3' hB4' k21 k4 k3
  refine WC.seqR rfl ?_
  refine WL.y rfl (Y.loadK Tryd.underlying26 rfl ti26 (A11.len) rfl (B6.cells)) ?_
  refine WL.y rfl (Y.loadK Tryd.underlying26 rfl ti26 (hl) rfl (B5.cells)) ?_
  refine WL.call rfl (C.func go15) (requalT_ret v _ _ _ A11.at (hv.bel k5)) ?_
  rintro _ w24 ⟨rfl, hb24⟩
  refine WL.y rfl (Y.bF (Y.not rfl) (rfl)) ?_
  refine WL.nil ?_
  refine WC.condF (rfl) ?_
  refine WC.skip (thenQ.normal ?_)
  refine WC.seqR rfl ?_
  refine WL.y rfl (Y.loadK Tryd.underlying26 rfl ti26 (hl) rfl ((B5.bel hb24).cells)) ?_
  refine WL.call rfl (C.func go11) (rcopy_ret v _ _ ((hv.bel k5).bel hb24)) ?_
  rintro _ w27 ⟨c27, rfl, h27, hb27⟩
  refine WL.eex rfl (E.allocX ti26) ?_
  rintro _ w5 ⟨rfl, hB5, hb5⟩
  refine WL.eex rfl (E.storeAllK (us := c27) ti26 h27.len rfl rfl h27.one hB5 rfl) ?_
  rintro _ w5s ⟨hB5', hg5⟩
  refine WL.nil ?_
  have l5 := (show Blk w5 _ _ _ from hB5).lt
  have s24 := hb24.size
  have s27 := hb27.size
  have s5 := hb5.size
  have t5 := hg5.size
  have k6 : Below w.heap.size w w5s := Below.stepG (Below.step (Below.step (Below.step k5 hb24) hb27) hb5) hg5 (by omega)
  have B7 : Blk w5s w.heap.size 26 c := (((B5.bel hb24).bel hb27).bel hb5).grown hg5 (by omega)
  have A27 : VW w5s (fun b => w24.heap.size ≤ b ∧ b < w27.heap.size) v c27 := VW.kept (Kept.of_grown (M := fun b => b = w27.heap.size) hg5 rfl) (fun b h1 h2 => by omega) ((h27.mono (fun b h1 h2 => ⟨h2, h1⟩)).bel hb5)
  clear hB5 h27 B5 B6 A11
  refine WC.seqR rfl ?_
  refine WL.y rfl (Y.loadK Tryd.underlying26 rfl ti26 (A27.len) rfl (hB5'.cells)) ?_
  refine WL.call rfl (C.func go29) (copy_ret v _ _ A27.at) ?_
  rintro _ w29 ⟨c29, rfl, h29, hb29⟩
  refine WL.eex rfl (E.allocX ti26) ?_
  rintro _ w6 ⟨rfl, hB6, hb6⟩
  refine WL.eex rfl (E.storeAllK (us := c29) ti26 h29.len rfl rfl h29.one hB6 rfl) ?_
  rintro _ w6s ⟨hB6', hg6⟩
  refine WL.nil ?_
  have l6 := (show Blk w6 _ _ _ from hB6).lt
  have s29 := hb29.size
  have s6 := hb6.size
  have t6 := hg6.size
  have k7 : Below w.heap.size w w6s := Below.stepG (Below.step (Below.step k6 hb29) hb6) hg6 (by omega)
  have B8 : Blk w6s w.heap.size 26 c := ((B7.bel hb29).bel hb6).grown hg6 (by omega)
  have B9 : Blk w6s w27.heap.size 26 c27 := ((hB5'.bel hb29).bel hb6).grown hg6 (by omega)
  have A28 : VW w6s (fun b => w24.heap.size ≤ b ∧ b < w27.heap.size) v c27 := VW.kept (Kept.of_grown (M := fun b => b = w29.heap.size) hg6 rfl) (fun b h1 h2 => by omega) ((A27.bel hb29).bel hb6)
  have A29 : VW w6s (fun b => w5s.heap.size ≤ b ∧ b < w29.heap.size) v c29 := VW.kept (Kept.of_grown (M := fun b => b = w29.heap.size) hg6 rfl) (fun b h1 h2 => by omega) ((h29.mono (fun b h1 h2 => ⟨h2, h1⟩)).bel hb6)
  clear hB6 h29 B7 hB5' A27
  refine WC.seqR rfl ?_
  refine WL.call rfl (C.func go14) (spoilt_ret hB6' A29) ?_
  rintro _ w30 k30
  refine WL.nil ?_
  have k8 : Below w.heap.size w w30 := Below.kept k7 k30.kept (fun b h => by omega) (Nat.le_refl _)
  have B10 : Blk w30 w.heap.size 26 c := B8.kept k30.kept (by omega)
  have B11 : Blk w30 w27.heap.size 26 c27 := B9.kept k30.kept (by omega)
  have A30 := VW.kept k30.kept (fun b h1 h2 => by omega) A28
  refine WC.seqR rfl ?_
  refine WL.y rfl (Y.loadK Tryd.underlying26 rfl ti26 (A30.len) rfl (B11.cells)) ?_
  refine WL.y rfl (Y.loadK Tryd.underlying26 rfl ti26 (hl) rfl (B10.cells)) ?_
  refine WL.call rfl (C.func go15) (requalT_ret v _ _ _ A30.at (hv.bel k8)) ?_
  rintro _ w33 ⟨rfl, hb33⟩
  refine WL.y rfl (Y.move) ?_
  refine WL.call rfl (C.func go17) (known_ret _ ((hT.bel k8).bel hb33)) ?_
  rintro _ w35 ⟨rfl, hb35⟩
  refine WL.y rfl (Y.pickT rfl) ?_
  refine WL.y rfl (Y.assign) ?_
  refine WL.nil ?_
  refine WC.ret (endQ.one (.inr rfl) ?_)
  exact ⟨rfl, Below.step (Below.step k8 hb33) hb35⟩
end Go.Proofs.YthcppegkpkgnpaaDoor
