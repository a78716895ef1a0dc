/-
  ref11: Copy: walk.
-/
import Derived.Test.YtcbdpcehacklhaaMut1
namespace Go.Proofs.Ytcbdpcehacklhaa
open Go Go.RowKit Go.Cx
set_option linter.unusedVariables false
set_option maxHeartbeats 8000000
theorem TW.kept {w w' : World} {M M' : Nat → Prop} (hk : Kept M' w w') (hM : ∀ b, M b → ¬ M' b) {l : List Mt} {r : Value} (h : TW w M l r) : TW w' M l r := by
  obtain ⟨bl, lc, a1, a2, a3, a4⟩ := h
  refine ⟨bl, lc, a1, a2, ?_, fun j h h' => MtW.kept hk hM (a4 j h h')⟩
  rcases a2 with e | e
  · rw [e] at a3 ⊢; exact own_nilAny a3
  · exact a3.kept hk (hM _ e)
theorem TW.bel {w w' : World} {M : Nat → Prop} {l : List Mt} {r : Value} (h : TW w M l r) (hb : Below w.heap.size w w') : TW w' M l r := TW.kept (M' := fun _ => False) (Kept.of_bel hb) (fun _ _ h => h) h
theorem TW.mono {w : World} {M M' : Nat → Prop} (hM : ∀ b, b < w.heap.size → M b → M' b) {l : List Mt} {r : Value} (h : TW w M l r) : TW w M' l r := by
  obtain ⟨bl, lc, a1, a2, a3, a4⟩ := h
  refine ⟨bl, lc, a1, ?_, a3, fun j h h' => MtW.mono hM (a4 j h h')⟩
  rcases a2 with e | e
  · exact .inl e
  · rcases a3.2 with ⟨e2, _⟩ | ⟨o, cap, cur, hv, hb, _⟩
    · exact .inl e2
    · exact .inr (hM _ (Array.getElem?_eq_some_iff.1 hb).1 e)
theorem TW.one {w : World} {M : Nat → Prop} {l : List Mt} {r : Value} (h : TW w M l r) : One r = true := by
  obtain ⟨bl, lc, a1, a2, a3, a4⟩ := h
  exact a3.sl.one
theorem MtW.of {w : World} {M : Nat → Prop} {m : Mt} {wc vc : List Value} {r : Value} (ok : MOk m) (hw : VW w M m.was wc) (hv : VW w M m.val vc) (h : TW w M m.l r) : MtW w M m (mtcell m wc vc r) := by
  obtain ⟨bl, lc, a1, a2, a3, a4⟩ := h
  exact .mk ok hw hv a1 a4 a2 a3
theorem rmcopy_ret (m : Mt) : CopyOfM 9 m := by
  induction m using Mt.ind with
  | h m ih =>
    intro w c hm
    have hqq := hm.parts
    obtain ⟨w0, w1_, w2_, w3_, w4_, w5_, v0, v1_, v2_, v3_, v4_, v5_, lv, lc, ok, hw, hv, h1, h2, hs, rfl⟩ := hqq
    have hol := ok.l
    have hmx : maxLen = 9223372036854775807 := rfl
    refine Ret.of (n := 32) (rs := #[.cell 2 30]) Try.func9 rfl rfl rfl (by simp) ?_
    refine WC.seqR rfl ?_
    refine WL.eex rfl (E.boxX) ?_
    rintro _ w1 ⟨rfl, hB1, hb1⟩
    refine WL.eex rfl (E.allocX ti30) ?_
    rintro _ w2 ⟨rfl, hB2, hb2⟩
    refine WL.nil ?_
    refine WC.seqR rfl ?_
    refine WL.y rfl (Y.assign) ?_
    refine WL.nil ?_
    refine WC.seq ?_
    refine WC.seqR rfl ?_
    refine WL.y rfl (Y.assign) ?_
    refine WL.nil ?_
    refine WC.block ?_
    have hx1 : Blk w2 w.heap.size 30 (mtcell m [w0, w1_, w2_, w3_, w4_, w5_] [v0, v1_, v2_, v3_, v4_, v5_] lv) := (show Blk _ _ _ (mtcell m [w0, w1_, w2_, w3_, w4_, w5_] [v0, v1_, v2_, v3_, v4_, v5_] lv) from hB1).bel hb2
    have hx2 : ∃ us, us.length = 19 ∧ Blk w2 w1.heap.size 30 us := ⟨_, rfl, hB2⟩
    obtain ⟨us, hus, hx2⟩ := hx2
    have l1 := (show Blk w1 _ _ _ from hB1).lt
    have l2 := hx2.lt
    have s2 := hb2.size
    have k2 : Below w.heap.size w w2 := Below.step hb1 hb2
    have pB : 0 < w2.heap.size := by omega
    clear hB1 hB2
    refine WC.loop (fun j => m.l.length - j) (fun j f ds w' => j ≤ m.l.length ∧ ds = [] ∧ Below w.heap.size w w' ∧ w2.heap.size ≤ w'.heap.size ∧ (Blk w' w.heap.size 30 (mtcell m [w0, w1_, w2_, w3_, w4_, w5_] [v0, v1_, v2_, v3_, v4_, v5_] lv) ∧ Blk w' w1.heap.size 30 us) ∧ ∃ r bl lc' J, TB w' w2.heap.size m.l j r bl lc' ∧ f = Go.Cx.ov J [(1, .pointer (some ⟨w.heap.size, 0, none⟩)), (2, .pointer (some ⟨w1.heap.size, 0, none⟩)), (3, r), (4, .int .i64 (j : Int))]) 0 ?_ ?_
    · exact ⟨by omega, rfl, k2, Nat.le_refl _, ⟨hx1, hx2⟩, _, 0, [], _, TB.zero pB, ov_mk ⟨rfl, rfl, rfl, rfl, trivial⟩⟩
    · clear hx1 hx2 k2
      rintro j _ _ wL ⟨hj, rfl, kL, sL, ⟨hx1, hx2⟩, r, bl, lc', J, hTB, rfl⟩
      refine WC.seq ?_
      refine WC.seqR rfl ?_
      refine WL.y rfl (Y.move) ?_
      refine WL.y rfl (Y.fieldAddr fi30f8 ti28 (by decide) rfl (rfl) _) ?_
      refine WL.y rfl (Y.load1 Try.underlying28 rfl rfl (hx1.cell 18)) ?_
      refine WL.y rfl (Y.lenSl Try.underlying28 (hs.bel kL) _) ?_
      refine WL.y rfl (Y.lss rfl rfl) ?_
      refine WL.nil ?_
      refine WC.condD rfl (fun h0 => ?_) (fun h0 => ?_)
      · have hjl : j < m.l.length := by omega
        have hjc : j < lc.length := by omega
        have hbl := hTB.2.1
        refine WC.skip (thenQ.normal ?_)
        refine WC.seq ?_
        refine WC.block ?_
        refine WC.region rfl ?_
        refine WL.y rfl (Y.move) ?_
        refine WL.y rfl (Y.fieldAddr fi30f8 ti28 (by decide) rfl (rfl) _) ?_
        refine WL.y rfl (Y.load1 Try.underlying28 rfl rfl (hx1.cell 18)) ?_
        refine WL.y rfl (Y.move) ?_
        refine WL.yex rfl (Y.idx Try.underlying28 ti30 (by decide) (hs.bel kL) rfl (by omega) (by omega)) ?_
        rintro _ ⟨b16, o16, rfl, hc16⟩
        refine WL.y rfl (Y.loadK Try.underlying30 rfl ti30 (lc[j].h) rfl (elem_mt hjc hc16)) ?_
        refine WL.call rfl (C.func go9) (ih _ (List.getElem_mem hjl) _ _ ((h2 j hjl hjc).bel kL)) ?_
        rintro _ w18 ⟨c18, rfl, h18, hb18⟩
        refine WL.eex rfl (E.build1A Try.underlying28 ti30 h18.len (by decide) (by decide) rfl) ?_
        rintro _ w19 ⟨rfl, ho19, hb19, -⟩
        have bb : Below wL.heap.size wL w19 := Below.step hb18 hb19
        have hTB' := hTB.bel bb
        refine WL.eex rfl (E.appendN Try.underlying28 ti30 rfl (by decide) hTB'.2.2.2.1 (ownsRow_sl ho19) h18.one (by omega) (by omega)) ?_
        rintro v20 w20 ⟨⟨bl', ho20, hbl'⟩, hg20⟩
        refine WL.y rfl (Y.assign) ?_
        refine WL.nil (inBlockQ.normal (thenQ.normal ?_))
        refine WC.region rfl ?_
        refine WL.y rfl (Y.move) ?_
        refine WL.y rfl (Y.add64 rfl rfl (by omega)) ?_
        refine WL.y rfl (Y.assign) ?_
        refine WL.nil (thenQ.normal ?_)
        have s18 := hb18.size
        have s19 := hb19.size
        have s20 := hg20.size
        have k20 : Below w.heap.size w w20 := (Below.step kL bb).trans (below_of_grown hg20 (by omega) (fun b e => by have := hTB'.apart b e; omega))
        have hTn := hTB'.append (c := ⟨c18, h18.len⟩) (by omega) hjl ((h18.bel hb19).mono (fun b _ h => ⟨by omega, by omega⟩)) ho20 hbl' hg20
        exact ⟨j + 1, by omega, by omega, rfl, k20, by omega, ⟨(hx1.bel bb).grownR hg20 (fun b e => by have := hTB'.apart b e; omega), (hx2.bel bb).grownR hg20 (fun b e => by have := hTB'.apart b e; omega)⟩, _, _, _, _, hTn, ov_mk ⟨rfl, rfl, rfl, rfl, trivial⟩⟩
      · have hje : j = m.l.length := by omega
        subst hje
        have hT := hTB.done
        have hTm := hT.mono (M' := fun b => w2.heap.size ≤ b ∧ b < wL.heap.size) (fun b h1 h2 => ⟨h2, h1⟩)
        have hor := hT.one
        clear hT hTB
        refine WC.exit (thenQ.exit (thenQ.exit (inBlockQ.hit (thenQ.normal ?_))))
        refine WC.seq ?_
        refine WC.regionB (fun i => Nat.beq i 5 || Nat.beq i 8 || Nat.beq i 10 || Nat.beq i 12) [(0, .any), (1, .held), (3, .any), (4, .held), (6, .any), (2, .seq), (7, .any), (5, .seq), (8, .seq), (9, .any), (10, .seq), (11, .any), (12, .seq)] mixed (by kernel_rfl) (fun w6 hS6 hheap => ?_)
        refine RL.any rfl rfl (fun _ => Y.fieldAddr fi30f5 ti27 (by decide) rfl (rfl) _) ?_
        refine RL.held rfl rfl hS6 (fun _ hb9 => Y.loadK Try.underlying27 rfl ti27 ((show [w0, w1_, w2_, w3_, w4_, w5_].length = 6 from rfl)) rfl (Cells.bel ((hx1.cells).sub 5 6) hb9)) ?_
        refine RL.any rfl rfl (fun _ => Y.fieldAddr fi30f7 ti27 (by decide) rfl (rfl) _) ?_
        refine RL.held rfl rfl hS6 (fun _ hb9 => Y.loadK Try.underlying27 rfl ti27 ((show [v0, v1_, v2_, v3_, v4_, v5_].length = 6 from rfl)) rfl (Cells.bel ((hx1.cells).sub 12 6) hb9)) ?_
        refine RL.any rfl rfl (fun _ => Y.move) ?_
        refine RL.call rfl rfl (C.func go27) (rcopy_ret m.was _ _ ((hw.bel kL).bel hS6)) ?_
        rintro _ w23 ⟨c23, rfl, h23, hb23⟩
        refine ⟨.inr (fun h => Below.step h hb23), ?_⟩
        refine RL.any rfl rfl (fun _ => Y.fieldAddr fi30f5 ti27 (by decide) rfl (rfl) _) ?_
        refine RL.call rfl rfl (C.func go27) (rcopy_ret m.val _ _ (((hv.bel kL).bel hS6).bel hb23)) ?_
        rintro _ w26 ⟨c26, rfl, h26, hb26⟩
        refine ⟨.inl rfl, ?_⟩
        have bb : Below wL.heap.size wL w26 := Below.step (Below.step hS6 hb23) hb26
        have hqq := six h23.len
        obtain ⟨p0, p1, p2, p3, p4, p5, rfl⟩ := hqq
        have hqq := six h26.len
        obtain ⟨q0, q1, q2, q3, q4, q5, rfl⟩ := hqq
        refine RL.eex rfl rfl (E.storeSub (us := [p0, p1, p2, p3, p4, p5]) ti27 rfl rfl rfl h23.one (hx1.bel bb) (by simp [mtcell])) ?_ ?_
        · exact fun _ _ _ => .inl rfl
        rintro _ wA ⟨hA, hgA⟩
        have hxA : Blk wA w.heap.size 30 (mtcell m [p0, p1, p2, p3, p4, p5] [v0, v1_, v2_, v3_, v4_, v5_] lv) := hA
        refine RL.any rfl rfl (fun _ => Y.fieldAddr fi30f7 ti27 (by decide) rfl (rfl) _) ?_
        refine RL.eex rfl rfl (E.storeSub (us := [q0, q1, q2, q3, q4, q5]) ti27 rfl rfl rfl h26.one hxA (by simp [mtcell])) ?_ ?_
        · exact fun _ _ _ => .inl rfl
        rintro _ wB ⟨hB, hgB⟩
        have hxB : Blk wB w.heap.size 30 (mtcell m [p0, p1, p2, p3, p4, p5] [q0, q1, q2, q3, q4, q5] lv) := hB
        refine RL.any rfl rfl (fun _ => Y.fieldAddr fi30f8 ti28 (by decide) rfl (rfl) _) ?_
        refine RL.eex rfl rfl (E.storeX (u := r) ti28 rfl rfl hor hxB (by simp [mtcell])) ?_ ?_
        · exact fun _ _ _ => .inl rfl
        rintro _ wC ⟨hC, hgC, -⟩
        have hxC : Blk wC w.heap.size 30 (mtcell m [p0, p1, p2, p3, p4, p5] [q0, q1, q2, q3, q4, q5] r) := hC
        have sS := hS6.size
        have s23 := hb23.size
        have s26 := hb26.size
        have sA := hgA.size
        have sB := hgB.size
        have sC := hgC.size
        have hx2C := (((hx2.bel bb).grown hgA (by omega)).grown hgB (by omega)).grown hgC (by omega)
        refine RL.nil (thenQ.normal ?_)
        refine WC.seqR rfl ?_
        refine WL.y rfl (Y.loadK Try.underlying30 rfl ti30 ((show (mtcell m [p0, p1, p2, p3, p4, p5] [q0, q1, q2, q3, q4, q5] r).length = 19 from rfl)) rfl (hxC.cells)) ?_
        refine WL.eex rfl (E.storeAllK (us := mtcell m [p0, p1, p2, p3, p4, p5] [q0, q1, q2, q3, q4, q5] r) ti30 rfl rfl rfl (one_mt h23.one h26.one hor) hx2C hus) ?_
        rintro _ wD ⟨hD, hgD⟩
        refine WL.nil ?_
        refine WC.ret ?_
        have kD : Below w.heap.size w wD := Below.stepG (Below.stepG (Below.stepG (Below.stepG (Below.step kL bb) hgA (Nat.le_refl _)) hgB (Nat.le_refl _)) hgC (Nat.le_refl _)) hgD (by omega)
        have kM : Kept (fun b => b = w.heap.size ∨ b = w1.heap.size) w26 wD := (((Kept.of_grown hgA (.inl rfl)).trans (Kept.of_grown hgB (.inl rfl))).trans (Kept.of_grown hgC (.inl rfl))).trans (Kept.of_grown hgD (.inr rfl))
        have a1 := (VW.kept kM (fun b h1 h2 => by omega) (h23.bel hb26)).mono (M' := fun b => w.heap.size ≤ b) (fun b _ h => by omega)
        have a2 := (VW.kept kM (fun b h1 h2 => by omega) h26).mono (M' := fun b => w.heap.size ≤ b) (fun b _ h => by omega)
        have a3 := (TW.kept kM (fun b h1 h2 => by omega) (hTm.bel bb)).mono (M' := fun b => w.heap.size ≤ b) (fun b _ h => by omega)
        exact endQ.cellN Try.underlying30 rfl ti30 (.inr rfl) rfl hD.cells ⟨_, rfl, MtW.of ok a1 a2 a3, kD⟩
end Go.Proofs.Ytcbdpcehacklhaa
