/-
  law02: spoil: walk.
-/
import Derived.Test.YthcppegkpkgnpaaDoorVal20
namespace Go.Proofs.YthcppegkpkgnpaaDoor
open Go Go.RowKit Go.Cx
set_option linter.unusedVariables false
set_option maxHeartbeats 8000000
theorem spoil_ret (v : V) : ∀ (w : World) (M : Nat → Prop) (b o : Nat) (lv ov : Value), w.cell? ⟨b, o + 4, none⟩ = some lv → w.cell? ⟨b, o + 5, none⟩ = some ov → HAt w M v lv ov → Ret Tryd.prog 14 [.pointer (some ⟨b, o, none⟩)].toArray w fun r w' => SpK M w w' := by
  induction v using V.ind with
  | h v ih1 ih2 =>
    intro w M b o lv ov c4 c5 hh
    cases hh with
    | @mk _ la oa bl ol cap bo oo cap' f g z1 z2 h0 h1 h2 k0 k1 k2 =>
    refine Ret.of (n := 66) (rs := #[]) Tryd.func14 rfl rfl rfl (by simp) ?_
    refine WC.seq ?_
    refine WC.seqR rfl ?_
    refine WL.y rfl (Y.assign) ?_
    refine WL.nil ?_
    refine WC.block ?_
    refine WC.loop (fun j => v.l.length - j) (fun j f' ds w' => j ≤ v.l.length ∧ ds = [] ∧ SpK M w w' ∧ ∃ J, f' = Go.Cx.ov J [(0, .pointer (some ⟨b, o, none⟩)), (2, .int .i64 (j : Int))]) 0 ?_ ?_
    · exact ⟨by omega, rfl, SpK.refl _ _, _, ov_mk ⟨rfl, rfl, trivial⟩⟩
    · rintro j _ _ wL ⟨hj, rfl, kL, J, rfl⟩
      have d4 := kL.sl _ _ _ _ _ c4
      refine WC.seq ?_
      refine WC.seqR rfl ?_
      refine WL.y rfl (Y.move) ?_
      refine WL.y rfl (Y.move) ?_
      refine WL.y rfl (Y.nilCheck rfl) ?_
      refine WL.y rfl (Y.fieldAddr fi26f4 ti24 (by decide) rfl (rfl) _) ?_
      refine WL.y rfl (Y.load1 Tryd.underlying24 rfl rfl (d4)) ?_
      refine WL.y rfl (Y.lenV Tryd.underlying24 rfl _) ?_
      refine WL.y rfl (Y.lss rfl rfl) ?_
      refine WL.nil ?_
      refine WC.condD rfl (fun e0 => ?_) (fun e0 => ?_)
      · have hjl : j < v.l.length := by omega
        have hqq := h0 (by omega)
        obtain ⟨hla, hM⟩ := hqq
        have hqq := h1 j hjl
        obtain ⟨⟨q1, q2⟩, q3, q4⟩ := hqq
        have hq := HAt.sp kL (h2 j hjl)
        have hqq := (h2 j hjl).form
        obtain ⟨⟨x1, n1, m1, y1⟩, ⟨x2, n2, m2, y2⟩⟩ := hqq
        rw [y1] at q3
        rw [y2] at q4
        have q3' := kL.sl _ _ _ _ _ q3
        have q4' := kL.sl _ _ _ _ _ q4
        rw [← y1] at q3'
        rw [← y2] at q4'
        rw [hla] at d4
        subst hla
        refine WC.skip (thenQ.normal ?_)
        refine WC.seq ?_
        refine WC.block ?_
        refine WC.seqR rfl ?_
        refine WL.y rfl (Y.move) ?_
        refine WL.y rfl (Y.nilCheck rfl) ?_
        refine WL.y rfl (Y.fieldAddr fi26f4 ti24 (by decide) rfl (rfl) _) ?_
        refine WL.y rfl (Y.load1 Tryd.underlying24 rfl rfl (d4)) ?_
        refine WL.y rfl (Y.move) ?_
        refine WL.y rfl (Y.idxV Tryd.underlying24 ti26 rfl rfl (by omega) (by omega) _) ?_
        refine WL.call rfl (C.func go14) (ih1 _ (List.getElem_mem hjl) _ M _ (ol + j * 6) _ _ q3' q4' hq) ?_
        rintro _ w19 k19
        refine WL.nil ?_
        refine WC.regionB (fun i => Nat.beq i 12 || Nat.beq i 15) [(0, .any), (1, .any), (2, .any), (3, .held), (4, .any), (5, .any), (6, .any), (7, .any), (8, .held), (9, .any), (10, .any), (11, .any), (12, .seq), (13, .any), (14, .any), (15, .seq)] mixed (by kernel_rfl) (fun w4 hS4 hheap => ?_)
        have kA : SpK M w w4 := (kL.trans k19).trans (SpK.of_bel hS4)
        refine RL.any rfl rfl (fun _ => Y.move) ?_
        refine RL.any rfl rfl (fun _ => Y.nilCheck rfl) ?_
        refine RL.any rfl rfl (fun _ => Y.fieldAddr fi26f4 ti24 (by decide) rfl (rfl) _) ?_
        refine RL.held rfl rfl hS4 (fun _ hb9 => Y.load1 Tryd.underlying24 rfl rfl (cell_bel (k19.sl _ _ _ _ _ d4) hb9)) ?_
        refine RL.any rfl rfl (fun _ => Y.move) ?_
        refine RL.any rfl rfl (fun _ => Y.move) ?_
        refine RL.any rfl rfl (fun _ => Y.nilCheck rfl) ?_
        refine RL.any rfl rfl (fun _ => Y.fieldAddr fi26f4 ti24 (by decide) rfl (rfl) _) ?_
        refine RL.held rfl rfl hS4 (fun _ hb9 => Y.load1 Tryd.underlying24 rfl rfl (cell_bel (k19.sl _ _ _ _ _ d4) hb9)) ?_
        refine RL.any rfl rfl (fun _ => Y.move) ?_
        refine RL.any rfl rfl (fun _ => Y.idxV Tryd.underlying24 ti26 rfl rfl (by omega) (by omega) _) ?_
        refine RL.any rfl rfl (fun _ => Y.fieldAddr fi26f0 ti23 (by decide) rfl (rfl) _) ?_
        refine RL.eex rfl rfl (E.storeWr (M := M) (u := .int .i64 9) ti23 rfl rfl rfl (kA.wr _ _ q1) hM rfl) ?_ ?_
        · exact fun _ _ _ => .inl rfl
        rintro _ w5 k5
        refine RL.any rfl rfl (fun _ => Y.idxV Tryd.underlying24 ti26 rfl rfl (by omega) (by omega) _) ?_
        refine RL.any rfl rfl (fun _ => Y.fieldAddr fi26f3 ti9 (by decide) rfl (rfl) _) ?_
        refine RL.eex rfl rfl (E.storeWr (M := M) (u := strv [115, 112, 111, 105, 108, 116]) ti9 rfl rfl rfl ((kA.trans k5).wr _ _ q2) hM rfl) ?_ ?_
        · exact fun _ _ _ => .inl rfl
        rintro _ w6 k6
        refine RL.nil (inBlockQ.normal (thenQ.normal ?_))
        refine WC.region rfl ?_
        refine WL.y rfl (Y.move) ?_
        refine WL.y rfl (Y.add64 rfl rfl (by omega)) ?_
        refine WL.y rfl (Y.assign) ?_
        refine WL.nil (thenQ.normal ?_)
        exact ⟨j + 1, by omega, by omega, rfl, (kA.trans k5).trans k6, _, ov_mk ⟨rfl, rfl, trivial⟩⟩
      · refine WC.exit (thenQ.exit (thenQ.exit (inBlockQ.hit (thenQ.normal ?_))))
        refine WC.seqR rfl ?_
        refine WL.y rfl (Y.assign) ?_
        refine WL.nil ?_
        refine WC.block ?_
        refine WC.loop (fun j => v.vs.length - j) (fun j f' ds w' => j ≤ v.vs.length ∧ ds = [] ∧ SpK M w w' ∧ ∃ J, f' = Go.Cx.ov J [(0, .pointer (some ⟨b, o, none⟩)), (3, .int .i64 (j : Int))]) 0 ?_ ?_
        · exact ⟨by omega, rfl, kL, _, ov_mk ⟨rfl, rfl, trivial⟩⟩
        · clear kL d4 hj
          rintro j _ _ wL ⟨hj, rfl, kL, J, rfl⟩
          have d5 := kL.sl _ _ _ _ _ c5
          refine WC.seq ?_
          refine WC.seqR rfl ?_
          refine WL.y rfl (Y.move) ?_
          refine WL.y rfl (Y.move) ?_
          refine WL.y rfl (Y.nilCheck rfl) ?_
          refine WL.y rfl (Y.fieldAddr fi26f5 ti22 (by decide) rfl (rfl) _) ?_
          refine WL.y rfl (Y.load1 Tryd.underlying22 rfl rfl (d5)) ?_
          refine WL.y rfl (Y.lenV Tryd.underlying22 rfl _) ?_
          refine WL.y rfl (Y.lss rfl rfl) ?_
          refine WL.nil ?_
          refine WC.condD rfl (fun e1 => ?_) (fun e1 => ?_)
          · have hjl : j < v.vs.length := by omega
            have hqq := k0 (by omega)
            obtain ⟨hla, hM⟩ := hqq
            have hqq := k1 j hjl
            obtain ⟨⟨q1, q2⟩, q3, q4⟩ := hqq
            have hq := HAt.sp kL (k2 j hjl)
            have hqq := (k2 j hjl).form
            obtain ⟨⟨x1, n1, m1, y1⟩, ⟨x2, n2, m2, y2⟩⟩ := hqq
            rw [y1] at q3
            rw [y2] at q4
            have q3' := kL.sl _ _ _ _ _ q3
            have q4' := kL.sl _ _ _ _ _ q4
            rw [← y1] at q3'
            rw [← y2] at q4'
            rw [hla] at d5
            subst hla
            refine WC.skip (thenQ.normal ?_)
            refine WC.seq ?_
            refine WC.block ?_
            refine WC.seqR rfl ?_
            refine WL.y rfl (Y.move) ?_
            refine WL.y rfl (Y.nilCheck rfl) ?_
            refine WL.y rfl (Y.fieldAddr fi26f5 ti22 (by decide) rfl (rfl) _) ?_
            refine WL.y rfl (Y.load1 Tryd.underlying22 rfl rfl (d5)) ?_
            refine WL.y rfl (Y.move) ?_
            refine WL.y rfl (Y.idxV Tryd.underlying22 ti38 rfl rfl (by omega) (by omega) _) ?_
            refine WL.y rfl (Y.fieldAddr fi38f1 ti26 (by decide) rfl (rfl) _) ?_
            refine WL.call rfl (C.func go14) (ih2 _ (List.getElem_mem hjl) _ M _ (oo + j * 7 + 1) _ _ q3' q4' hq) ?_
            rintro _ w50 k50
            refine WL.nil ?_
            refine WC.regionB (fun i => Nat.beq i 12 || Nat.beq i 16) [(0, .any), (1, .any), (2, .any), (3, .held), (4, .any), (5, .any), (6, .any), (7, .any), (8, .held), (9, .any), (10, .any), (11, .any), (12, .seq), (13, .any), (14, .any), (15, .any), (16, .seq)] mixed (by kernel_rfl) (fun w9 hS9 hheap => ?_)
            have kA : SpK M w w9 := (kL.trans k50).trans (SpK.of_bel hS9)
            refine RL.any rfl rfl (fun _ => Y.move) ?_
            refine RL.any rfl rfl (fun _ => Y.nilCheck rfl) ?_
            refine RL.any rfl rfl (fun _ => Y.fieldAddr fi26f5 ti22 (by decide) rfl (rfl) _) ?_
            refine RL.held rfl rfl hS9 (fun _ hb9 => Y.load1 Tryd.underlying22 rfl rfl (cell_bel (k50.sl _ _ _ _ _ d5) hb9)) ?_
            refine RL.any rfl rfl (fun _ => Y.move) ?_
            refine RL.any rfl rfl (fun _ => Y.move) ?_
            refine RL.any rfl rfl (fun _ => Y.nilCheck rfl) ?_
            refine RL.any rfl rfl (fun _ => Y.fieldAddr fi26f5 ti22 (by decide) rfl (rfl) _) ?_
            refine RL.held rfl rfl hS9 (fun _ hb9 => Y.load1 Tryd.underlying22 rfl rfl (cell_bel (k50.sl _ _ _ _ _ d5) hb9)) ?_
            refine RL.any rfl rfl (fun _ => Y.move) ?_
            refine RL.any rfl rfl (fun _ => Y.idxV Tryd.underlying22 ti38 rfl rfl (by omega) (by omega) _) ?_
            refine RL.any rfl rfl (fun _ => Y.fieldAddr fi38f0 ti9 (by decide) rfl (rfl) _) ?_
            refine RL.eex rfl rfl (E.storeWr (M := M) (u := strv [115, 112, 111, 105, 108, 116]) ti9 rfl rfl rfl (kA.wr _ _ q1) hM rfl) ?_ ?_
            · exact fun _ _ _ => .inl rfl
            rintro _ w5 k5
            refine RL.any rfl rfl (fun _ => Y.idxV Tryd.underlying22 ti38 rfl rfl (by omega) (by omega) _) ?_
            refine RL.any rfl rfl (fun _ => Y.fieldAddr fi38f1 ti26 (by decide) rfl (rfl) _) ?_
            refine RL.any rfl rfl (fun _ => Y.fieldAddr fi26f0 ti23 (by decide) rfl (rfl) _) ?_
            refine RL.eex rfl rfl (E.storeWr (M := M) (u := .int .i64 9) ti23 rfl rfl rfl ((kA.trans k5).wr _ _ q2) hM rfl) ?_ ?_
            · exact fun _ _ _ => .inl rfl
            rintro _ w6 k6
            refine RL.nil (inBlockQ.normal (thenQ.normal ?_))
            refine WC.region rfl ?_
            refine WL.y rfl (Y.move) ?_
            refine WL.y rfl (Y.add64 rfl rfl (by omega)) ?_
            refine WL.y rfl (Y.assign) ?_
            refine WL.nil (thenQ.normal ?_)
            exact ⟨j + 1, by omega, by omega, rfl, (kA.trans k5).trans k6, _, ov_mk ⟨rfl, rfl, trivial⟩⟩
          · refine WC.exit (thenQ.exit (thenQ.exit (inBlockQ.hit (endQ.zero (.inl rfl) ?_))))
            exact kL
end Go.Proofs.YthcppegkpkgnpaaDoor
