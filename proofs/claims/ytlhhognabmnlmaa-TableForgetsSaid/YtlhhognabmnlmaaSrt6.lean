/-
  slices.Sort at uint64: partition: walk (printed by wip/tools/gensort.py).
-/
import Derived.Test.YtlhhognabmnlmaaSrt5
namespace Go.Proofs.Ytlhhognabmnlmaa
open Go Go.RowKit Go.Cx
set_option linter.unusedVariables false
set_option maxHeartbeats 8000000
set_option maxRecDepth 20000
open Go.Sort
theorem part_hit {a b p i j : Nat} {d dA : Array Int} (hA : swp d a p = dA) (hi : scanUp (fun x => ltI x dA[a]!) dA (b - 1) (a + 1) = i) (hj : scanDown (fun x => !ltI x dA[a]!) dA i (b - 1) = j) (h : j < i) : partition ltI d a b p = (j, true, swp dA j a) := by
  unfold partition
  simp only [hA, hi, hj, if_pos h]
theorem part_go {a b p i j : Nat} {d dA : Array Int} (hA : swp d a p = dA) (hi : scanUp (fun x => ltI x dA[a]!) dA (b - 1) (a + 1) = i) (hj : scanDown (fun x => !ltI x dA[a]!) dA i (b - 1) = j) (h : i ≤ j) : partition ltI d a b p = ((partLoop ltI a (i + 1) (j - 1) (swp dA i j)).1, false, swp (partLoop ltI a (i + 1) (j - 1) (swp dA i j)).2 (partLoop ltI a (i + 1) (j - 1) (swp dA i j)).1 a) := by
  unfold partition
  simp only [hA, hi, hj]
  rw [if_neg (by omega)]
theorem part_ret {w : World} {bl o N cap : Nat} {d : Array Int} (a b p : Nat) (h : SR w bl o N cap d) (hb : b ≤ N) (hN : N ≤ 60000) (hap : a ≤ p) (hpb : p < b) (hab : a + 1 < b) : Ret Try.prog 54 [.slice (some ⟨bl, o, none⟩) N cap, .int .i64 (a : Int), .int .i64 (b : Int), .int .i64 (p : Int)].toArray w fun v w' => v = .tuple #[.int .i64 ((partition ltI d a b p).1 : Int), .bool (partition ltI d a b p).2.1] ∧ SR w' bl o N cap (partition ltI d a b p).2.2 ∧ Kept (fun x => x = bl) w w' := by
  have hs0 := h.1
  have gx : a < d.size := by omega
  have gy : p < d.size := by omega
  refine Ret.of (n := 168) (rs := #[.tmp 8, .tmp 9]) Try.func54 rfl rfl rfl (by simp) ?_
  refine WC.seqR rfl ?_
  refine WL.y rfl (Y.assign) ?_
  refine WL.y rfl (Y.assign) ?_
  refine WL.nil ?_
  refine WC.seq ?_
  refine WC.regionB (fun i => Nat.beq i 13 || Nat.beq i 15) [(0, .any), (1, .any), (2, .any), (3, .any), (4, .any), (5, .any), (6, .any), (7, .held), (8, .any), (9, .any), (10, .any), (11, .held), (12, .any), (13, .seq), (14, .any), (15, .seq)] mixed (by kernel_rfl) (fun wS1 hS1 hheap => ?_)
  refine RL.any rfl rfl (fun _ => Y.move) ?_
  refine RL.any rfl rfl (fun _ => Y.move) ?_
  refine RL.any rfl rfl (fun _ => Y.move) ?_
  refine RL.any rfl rfl (fun _ => Y.move) ?_
  refine RL.any rfl rfl (fun _ => Y.move) ?_
  refine RL.any rfl rfl (fun _ => Y.move) ?_
  refine RL.yex rfl rfl (Y.idx Try.underlying37 ti22 (by decide) (h.2.sl) rfl (by omega) (by omega)) ?_
  rintro _ ⟨b18, o18, rfl, hc18⟩
  refine RL.held rfl rfl hS1 (fun _ hb9 => Y.load1 Try.underlying22 rfl rfl (cell_bel (elemI (by omega) (sr_get gy) hc18) hb9)) ?_
  refine RL.any rfl rfl (fun _ => Y.move) ?_
  refine RL.any rfl rfl (fun _ => Y.move) ?_
  refine RL.yex rfl rfl (Y.idx Try.underlying37 ti22 (by decide) (h.2.sl) rfl (by omega) (by omega)) ?_
  rintro _ ⟨b22, o22, rfl, hc22⟩
  refine RL.held rfl rfl hS1 (fun _ hb9 => Y.load1 Try.underlying22 rfl rfl (cell_bel (elemI (by omega) (sr_get gx) hc22) hb9)) ?_
  refine RL.any rfl rfl (fun _ => Y.idxO (n := N) (cap := cap) (j := a) Try.underlying37 ti22 rfl rfl rfl (by omega) rfl _) ?_
  refine RL.eex rfl rfl (E.storeK1 (u := ku d[p]!) (i := a) ti22 rfl rfl rfl (h.2.bel hS1) (by omega) rfl) ?_ ?_
  · exact fun _ _ _ => .inl rfl
  rintro _ wIa ⟨howIa, hgwIa⟩
  refine RL.any rfl rfl (fun _ => Y.idxO (n := N) (cap := cap) (j := p) Try.underlying37 ti22 rfl rfl rfl (by omega) rfl _) ?_
  refine RL.eex rfl rfl (E.storeK1 (u := ku d[a]!) (i := p) ti22 rfl rfl rfl howIa (by omega) rfl) ?_ ?_
  · exact fun _ _ _ => .inl rfl
  rintro _ wI ⟨howI, hgwI⟩
  have hwI : SR wI bl o N cap (swp d (a) (p)) := SR.swp (a) (p) h.1 howI
  have kwI : Kept (fun x => x = bl) w wI := ((Kept.of_bel (M := fun x => x = bl) hS1).trans (Kept.of_grown hgwIa rfl)).trans (Kept.of_grown hgwI rfl)
  refine RL.nil (thenQ.normal ?_)
  refine WC.seqR rfl ?_
  refine WL.y rfl (Y.move) ?_
  refine WL.y rfl (Y.add64 rfl rfl (by omega)) ?_
  refine WL.y rfl (Y.move) ?_
  refine WL.y rfl (Y.sub64 rfl rfl (by omega)) ?_
  refine WL.y rfl (Y.assign) ?_
  refine WL.y rfl (Y.assign) ?_
  refine WL.nil ?_
  refine WC.seq ?_
  clear gx gy
  obtain ⟨dL, hA⟩ : ∃ x, swp d a p = x := ⟨_, rfl⟩
  have hL : SR wI bl o N cap dL := hA ▸ hwI
  have hsL := hL.1
  obtain ⟨i, hi⟩ : ∃ x, a + 1 = x := ⟨_, rfl⟩
  obtain ⟨j, hj⟩ : ∃ x, b - 1 = x := ⟨_, rfl⟩
  obtain ⟨i2, hi2⟩ : ∃ x, scanUp (fun x => ltI x dL[a]!) dL j i = x := ⟨_, rfl⟩
  have hqq := su_rng (p := fun x => ltI x dL[a]!) (d := dL) (j := j) (i := i) (Nat.le_refl _)
  obtain ⟨r1, r2⟩ := hqq
  rw [hi2] at r1 r2
  obtain ⟨j2, hj2⟩ : ∃ x, scanDown (fun x => !ltI x dL[a]!) dL i2 j = x := ⟨_, rfl⟩
  have hqq := sd_rng (p := fun x => !ltI x dL[a]!) (d := dL) (i := i2) (show 0 < i2 by omega) (j := j)
  obtain ⟨r3, r4⟩ := hqq
  rw [hj2] at r3 r4
  refine WC.cut (fun f ds w' => ds = [] ∧ Below wI.heap.size wI w' ∧ ∃ J, f = Go.Cx.ov J [(0, .slice (some ⟨bl, o, none⟩) N cap), (1, .int .i64 (a : Int)), (10, .int .i64 (i2 : Int)), (11, .int .i64 (j : Int))]) ?_ ?_
  · refine WC.block ?_
    refine WC.loop (fun t => j + 1 - t) (fun t f ds w' => i ≤ t ∧ t ≤ j + 2 ∧ scanUp (fun x => ltI x dL[a]!) dL j t = i2 ∧ ds = [] ∧ Below wI.heap.size wI w' ∧ ∃ J, f = Go.Cx.ov J [(0, .slice (some ⟨bl, o, none⟩) N cap), (1, .int .i64 (a : Int)), (10, .int .i64 (t : Int)), (11, .int .i64 (j : Int))]) i ?_ ?_
    · exact ⟨by omega, by omega, hi2, rfl, Below.refl _ _, _, ov_mk ⟨rfl, rfl, congrArg (Value.int .i64) (show ((a : Int) + 1) = (i : Int) by omega), congrArg (Value.int .i64) (show ((b : Int) - 1) = (j : Int) by omega), trivial⟩⟩
    · rintro t _ _ wY ⟨t1, t2, hF, rfl, kY, J, rfl⟩
      have hY := hL.bel kY
      have hsz := hY.1
      have ja : a < Array.size dL := by omega
      refine WC.seq ?_
      by_cases c1 : t ≤ j
      · have jt : t < Array.size dL := by omega
        by_cases c2 : (ltI dL[t]! dL[a]! = true)
        · refine WC.seq ?_
          refine WC.regionB (fun i => Nat.beq i 12) [(0, .any), (1, .any), (2, .any), (3, .any), (4, .any), (5, .any), (6, .any), (7, .held), (8, .any), (9, .any), (10, .any), (11, .held), (12, .seq), (13, .any)] mixed (by kernel_rfl) (fun wS hS hheap => ?_)
          refine RL.any rfl rfl (fun _ => Y.move) ?_
          refine RL.any rfl rfl (fun _ => Y.move) ?_
          refine RL.any rfl rfl (fun _ => Y.dT (Y.leq rfl rfl) (by omega)) ?_
          refine RL.any rfl rfl (fun _ => Y.move) ?_
          refine RL.any rfl rfl (fun _ => Y.move) ?_
          refine RL.any rfl rfl (fun _ => Y.move) ?_
          refine RL.yex rfl rfl (Y.idx Try.underlying37 ti22 (by decide) (hY.2.sl) rfl (by omega) (by omega)) ?_
          rintro _ ⟨b36, o36, rfl, hc36⟩
          refine RL.held rfl rfl hS (fun _ hb9 => Y.load1 Try.underlying22 rfl rfl (cell_bel (elemI (by omega) (sr_get jt) hc36) hb9)) ?_
          refine RL.any rfl rfl (fun _ => Y.move) ?_
          refine RL.any rfl rfl (fun _ => Y.move) ?_
          refine RL.yex rfl rfl (Y.idx Try.underlying37 ti22 (by decide) (hY.2.sl) rfl (by omega) (by omega)) ?_
          rintro _ ⟨b40, o40, rfl, hc40⟩
          refine RL.held rfl rfl hS (fun _ hb9 => Y.load1 Try.underlying22 rfl rfl (cell_bel (elemI (by omega) (sr_get ja) hc40) hb9)) ?_
          refine RL.call rfl rfl (C.func go52) (lessT _ _ _ c2) ?_
          rintro _ _ ⟨rfl, rfl⟩
          refine ⟨.inl rfl, ?_⟩
          refine RL.any rfl rfl (fun _ => Y.pickT rfl) ?_
          refine RL.nil (thenQ.normal ?_)
          refine WC.condT (rfl) ?_
          refine WC.skip (thenQ.normal ?_)
          refine WC.block ?_
          refine WC.region rfl ?_
          refine WL.y rfl (Y.move) ?_
          refine WL.y rfl (Y.add64 rfl rfl (by omega)) ?_
          refine WL.y rfl (Y.assign) ?_
          refine WL.nil (inBlockQ.normal (thenQ.normal ?_))
          exact ⟨t + 1, by omega, by omega, by omega, (su_go c1 c2).symm.trans hF, rfl, Below.step kY hS, _, ov_mk ⟨rfl, rfl, rfl, rfl, trivial⟩⟩
        · have hst := (su_stop (fun h => c2 h.2) : scanUp (fun x => ltI x dL[a]!) dL j t = t)
          refine WC.seq ?_
          refine WC.regionB (fun i => Nat.beq i 12) [(0, .any), (1, .any), (2, .any), (3, .any), (4, .any), (5, .any), (6, .any), (7, .held), (8, .any), (9, .any), (10, .any), (11, .held), (12, .seq), (13, .any)] mixed (by kernel_rfl) (fun wS hS hheap => ?_)
          refine RL.any rfl rfl (fun _ => Y.move) ?_
          refine RL.any rfl rfl (fun _ => Y.move) ?_
          refine RL.any rfl rfl (fun _ => Y.dT (Y.leq rfl rfl) (by omega)) ?_
          refine RL.any rfl rfl (fun _ => Y.move) ?_
          refine RL.any rfl rfl (fun _ => Y.move) ?_
          refine RL.any rfl rfl (fun _ => Y.move) ?_
          refine RL.yex rfl rfl (Y.idx Try.underlying37 ti22 (by decide) (hY.2.sl) rfl (by omega) (by omega)) ?_
          rintro _ ⟨b36, o36, rfl, hc36⟩
          refine RL.held rfl rfl hS (fun _ hb9 => Y.load1 Try.underlying22 rfl rfl (cell_bel (elemI (by omega) (sr_get jt) hc36) hb9)) ?_
          refine RL.any rfl rfl (fun _ => Y.move) ?_
          refine RL.any rfl rfl (fun _ => Y.move) ?_
          refine RL.yex rfl rfl (Y.idx Try.underlying37 ti22 (by decide) (hY.2.sl) rfl (by omega) (by omega)) ?_
          rintro _ ⟨b40, o40, rfl, hc40⟩
          refine RL.held rfl rfl hS (fun _ hb9 => Y.load1 Try.underlying22 rfl rfl (cell_bel (elemI (by omega) (sr_get ja) hc40) hb9)) ?_
          refine RL.call rfl rfl (C.func go52) (lessF _ _ _ c2) ?_
          rintro _ _ ⟨rfl, rfl⟩
          refine ⟨.inl rfl, ?_⟩
          refine RL.any rfl rfl (fun _ => Y.pickT rfl) ?_
          refine RL.nil (thenQ.normal ?_)
          refine WC.condF (rfl) ?_
          refine WC.exit (thenQ.exit (thenQ.exit (inBlockQ.hit (thenQ.normal ?_))))
          exact ⟨rfl, Below.step kY hS, _, ov_mk ⟨rfl, rfl, congrArg (fun q : Nat => Value.int .i64 (q : Int)) (hst.symm.trans hF), rfl, trivial⟩⟩
      · have hst := (su_stop (fun h => c1 h.1) : scanUp (fun x => ltI x dL[a]!) dL j t = t)
        skip
        refine WC.seq ?_
        refine WC.regionB (fun _ => false) [(0, .any), (1, .any), (2, .any), (3, .any), (4, .any), (5, .any), (6, .any), (7, .held), (8, .any), (9, .any), (10, .any), (11, .held), (12, .any), (13, .any)] mixed (by kernel_rfl) (fun wS hS hheap => ?_)
        refine RL.any rfl rfl (fun _ => Y.move) ?_
        refine RL.any rfl rfl (fun _ => Y.move) ?_
        refine RL.any rfl rfl (fun _ => Y.dF (Y.leq rfl rfl) (by omega)) ?_
        refine RL.any rfl rfl (fun _ => Y.move) ?_
        refine RL.off rfl rfl ?_
        refine RL.off rfl rfl ?_
        refine RL.off rfl rfl ?_
        refine RL.offH rfl rfl hS ?_
        refine RL.off rfl rfl ?_
        refine RL.off rfl rfl ?_
        refine RL.off rfl rfl ?_
        refine RL.offH rfl rfl hS ?_
        refine RL.off rfl rfl ?_
        refine RL.any rfl rfl (fun _ => Y.pickF rfl) ?_
        refine RL.nil (thenQ.normal ?_)
        refine WC.condF (rfl) ?_
        refine WC.exit (thenQ.exit (thenQ.exit (inBlockQ.hit (thenQ.normal ?_))))
        exact ⟨rfl, Below.step kY hS, _, ov_mk ⟨rfl, rfl, congrArg (fun q : Nat => Value.int .i64 (q : Int)) (hst.symm.trans hF), rfl, trivial⟩⟩
  · rintro _ _ wC ⟨rfl, kC, J2, rfl⟩
    have hC := hL.bel kC
    refine WC.seq ?_
    refine WC.cut (fun f ds w' => ds = [] ∧ Below wC.heap.size wC w' ∧ ∃ J, f = Go.Cx.ov J [(0, .slice (some ⟨bl, o, none⟩) N cap), (1, .int .i64 (a : Int)), (10, .int .i64 (i2 : Int)), (11, .int .i64 (j2 : Int))]) ?_ ?_
    · refine WC.block ?_
      refine WC.loop (fun t => t) (fun t f ds w' => t ≤ j ∧ i2 ≤ t + 2 ∧ scanDown (fun x => !ltI x dL[a]!) dL i2 t = j2 ∧ ds = [] ∧ Below wC.heap.size wC w' ∧ ∃ J, f = Go.Cx.ov J [(0, .slice (some ⟨bl, o, none⟩) N cap), (1, .int .i64 (a : Int)), (10, .int .i64 (i2 : Int)), (11, .int .i64 (t : Int))]) j ?_ ?_
      · exact ⟨by omega, by omega, hj2, rfl, Below.refl _ _, _, ov_mk ⟨rfl, rfl, rfl, rfl, trivial⟩⟩
      · rintro t _ _ wY ⟨t1, t2, hF, rfl, kY, J, rfl⟩
        have hY := hC.bel kY
        have hsz := hY.1
        have ja : a < Array.size dL := by omega
        refine WC.seq ?_
        by_cases c1 : i2 ≤ t
        · have jt : t < Array.size dL := by omega
          by_cases c2 : ¬ (ltI dL[t]! dL[a]! = true)
          · refine WC.seq ?_
            refine WC.regionB (fun i => Nat.beq i 12) [(0, .any), (1, .any), (2, .any), (3, .any), (4, .any), (5, .any), (6, .any), (7, .held), (8, .any), (9, .any), (10, .any), (11, .held), (12, .seq), (13, .any), (14, .any)] mixed (by kernel_rfl) (fun wS hS hheap => ?_)
            refine RL.any rfl rfl (fun _ => Y.move) ?_
            refine RL.any rfl rfl (fun _ => Y.move) ?_
            refine RL.any rfl rfl (fun _ => Y.dT (Y.leq rfl rfl) (by omega)) ?_
            refine RL.any rfl rfl (fun _ => Y.move) ?_
            refine RL.any rfl rfl (fun _ => Y.move) ?_
            refine RL.any rfl rfl (fun _ => Y.move) ?_
            refine RL.yex rfl rfl (Y.idx Try.underlying37 ti22 (by decide) (hY.2.sl) rfl (by omega) (by omega)) ?_
            rintro _ ⟨b52, o52, rfl, hc52⟩
            refine RL.held rfl rfl hS (fun _ hb9 => Y.load1 Try.underlying22 rfl rfl (cell_bel (elemI (by omega) (sr_get jt) hc52) hb9)) ?_
            refine RL.any rfl rfl (fun _ => Y.move) ?_
            refine RL.any rfl rfl (fun _ => Y.move) ?_
            refine RL.yex rfl rfl (Y.idx Try.underlying37 ti22 (by decide) (hY.2.sl) rfl (by omega) (by omega)) ?_
            rintro _ ⟨b56, o56, rfl, hc56⟩
            refine RL.held rfl rfl hS (fun _ hb9 => Y.load1 Try.underlying22 rfl rfl (cell_bel (elemI (by omega) (sr_get ja) hc56) hb9)) ?_
            refine RL.call rfl rfl (C.func go52) (lessF _ _ _ c2) ?_
            rintro _ _ ⟨rfl, rfl⟩
            refine ⟨.inl rfl, ?_⟩
            refine RL.any rfl rfl (fun _ => Y.not rfl) ?_
            refine RL.any rfl rfl (fun _ => Y.pickT rfl) ?_
            refine RL.nil (thenQ.normal ?_)
            refine WC.condT (rfl) ?_
            refine WC.skip (thenQ.normal ?_)
            refine WC.block ?_
            refine WC.region rfl ?_
            refine WL.y rfl (Y.move) ?_
            refine WL.y rfl (Y.sub64 rfl rfl (by omega)) ?_
            refine WL.y rfl (Y.assign) ?_
            refine WL.nil (inBlockQ.normal (thenQ.normal ?_))
            exact ⟨t - 1, by omega, by omega, by omega, (sd_go c1 (by omega) (by simp only [Bool.not_eq_true']; simpa using c2)).symm.trans hF, rfl, Below.step kY hS, _, ov_mk ⟨rfl, rfl, rfl, congrArg (Value.int .i64) (z1 (by omega)), trivial⟩⟩
          · have hst := (sd_stop (fun h => c2 (by simpa using h.2)) : scanDown (fun x => !ltI x dL[a]!) dL i2 t = t)
            refine WC.seq ?_
            refine WC.regionB (fun i => Nat.beq i 12) [(0, .any), (1, .any), (2, .any), (3, .any), (4, .any), (5, .any), (6, .any), (7, .held), (8, .any), (9, .any), (10, .any), (11, .held), (12, .seq), (13, .any), (14, .any)] mixed (by kernel_rfl) (fun wS hS hheap => ?_)
            refine RL.any rfl rfl (fun _ => Y.move) ?_
            refine RL.any rfl rfl (fun _ => Y.move) ?_
            refine RL.any rfl rfl (fun _ => Y.dT (Y.leq rfl rfl) (by omega)) ?_
            refine RL.any rfl rfl (fun _ => Y.move) ?_
            refine RL.any rfl rfl (fun _ => Y.move) ?_
            refine RL.any rfl rfl (fun _ => Y.move) ?_
            refine RL.yex rfl rfl (Y.idx Try.underlying37 ti22 (by decide) (hY.2.sl) rfl (by omega) (by omega)) ?_
            rintro _ ⟨b52, o52, rfl, hc52⟩
            refine RL.held rfl rfl hS (fun _ hb9 => Y.load1 Try.underlying22 rfl rfl (cell_bel (elemI (by omega) (sr_get jt) hc52) hb9)) ?_
            refine RL.any rfl rfl (fun _ => Y.move) ?_
            refine RL.any rfl rfl (fun _ => Y.move) ?_
            refine RL.yex rfl rfl (Y.idx Try.underlying37 ti22 (by decide) (hY.2.sl) rfl (by omega) (by omega)) ?_
            rintro _ ⟨b56, o56, rfl, hc56⟩
            refine RL.held rfl rfl hS (fun _ hb9 => Y.load1 Try.underlying22 rfl rfl (cell_bel (elemI (by omega) (sr_get ja) hc56) hb9)) ?_
            refine RL.call rfl rfl (C.func go52) (lessT _ _ _ (not_not_true c2)) ?_
            rintro _ _ ⟨rfl, rfl⟩
            refine ⟨.inl rfl, ?_⟩
            refine RL.any rfl rfl (fun _ => Y.not rfl) ?_
            refine RL.any rfl rfl (fun _ => Y.pickT rfl) ?_
            refine RL.nil (thenQ.normal ?_)
            refine WC.condF (rfl) ?_
            refine WC.exit (thenQ.exit (thenQ.exit (inBlockQ.hit (thenQ.normal ?_))))
            exact ⟨rfl, Below.step kY hS, _, ov_mk ⟨rfl, rfl, rfl, congrArg (fun q : Nat => Value.int .i64 (q : Int)) (hst.symm.trans hF), trivial⟩⟩
        · have hst := (sd_stop (fun h => c1 h.1) : scanDown (fun x => !ltI x dL[a]!) dL i2 t = t)
          skip
          refine WC.seq ?_
          refine WC.regionB (fun _ => false) [(0, .any), (1, .any), (2, .any), (3, .any), (4, .any), (5, .any), (6, .any), (7, .held), (8, .any), (9, .any), (10, .any), (11, .held), (12, .any), (13, .any), (14, .any)] mixed (by kernel_rfl) (fun wS hS hheap => ?_)
          refine RL.any rfl rfl (fun _ => Y.move) ?_
          refine RL.any rfl rfl (fun _ => Y.move) ?_
          refine RL.any rfl rfl (fun _ => Y.dF (Y.leq rfl rfl) (by omega)) ?_
          refine RL.any rfl rfl (fun _ => Y.move) ?_
          refine RL.off rfl rfl ?_
          refine RL.off rfl rfl ?_
          refine RL.off rfl rfl ?_
          refine RL.offH rfl rfl hS ?_
          refine RL.off rfl rfl ?_
          refine RL.off rfl rfl ?_
          refine RL.off rfl rfl ?_
          refine RL.offH rfl rfl hS ?_
          refine RL.off rfl rfl ?_
          refine RL.off rfl rfl ?_
          refine RL.any rfl rfl (fun _ => Y.pickF rfl) ?_
          refine RL.nil (thenQ.normal ?_)
          refine WC.condF (rfl) ?_
          refine WC.exit (thenQ.exit (thenQ.exit (inBlockQ.hit (thenQ.normal ?_))))
          exact ⟨rfl, Below.step kY hS, _, ov_mk ⟨rfl, rfl, rfl, congrArg (fun q : Nat => Value.int .i64 (q : Int)) (hst.symm.trans hF), trivial⟩⟩
    · rintro _ _ wD ⟨rfl, kD, J3, rfl⟩
      have hD := hC.bel kD
      have hsD := hD.1
      have ga : a < dL.size := by omega
      have gj : j2 < dL.size := by omega
      refine WC.seq ?_
      refine WC.seqR rfl ?_
      refine WL.y rfl (Y.move) ?_
      refine WL.y rfl (Y.move) ?_
      refine WL.y rfl (Y.gtr rfl rfl) ?_
      refine WL.nil ?_
      refine WC.condD rfl (fun h0 => ?_) (fun h0 => ?_)
      · have h0' : j2 < i2 := by omega
        have hP := part_hit hA (hj.symm ▸ hi.symm ▸ hi2) (hj.symm ▸ hj2) h0'
        rw [hP]
        have gx := gj
        have gy := ga
        refine WC.seq ?_
        refine WC.regionB (fun i => Nat.beq i 13 || Nat.beq i 15) [(0, .any), (1, .any), (2, .any), (3, .any), (4, .any), (5, .any), (6, .any), (7, .held), (8, .any), (9, .any), (10, .any), (11, .held), (12, .any), (13, .seq), (14, .any), (15, .seq)] mixed (by kernel_rfl) (fun wS8 hS8 hheap => ?_)
        refine RL.any rfl rfl (fun _ => Y.move) ?_
        refine RL.any rfl rfl (fun _ => Y.move) ?_
        refine RL.any rfl rfl (fun _ => Y.move) ?_
        refine RL.any rfl rfl (fun _ => Y.move) ?_
        refine RL.any rfl rfl (fun _ => Y.move) ?_
        refine RL.any rfl rfl (fun _ => Y.move) ?_
        refine RL.yex rfl rfl (Y.idx Try.underlying37 ti22 (by decide) (hD.2.sl) rfl (by omega) (by omega)) ?_
        rintro _ ⟨b72, o72, rfl, hc72⟩
        refine RL.held rfl rfl hS8 (fun _ hb9 => Y.load1 Try.underlying22 rfl rfl (cell_bel (elemI (by omega) (sr_get gy) hc72) hb9)) ?_
        refine RL.any rfl rfl (fun _ => Y.move) ?_
        refine RL.any rfl rfl (fun _ => Y.move) ?_
        refine RL.yex rfl rfl (Y.idx Try.underlying37 ti22 (by decide) (hD.2.sl) rfl (by omega) (by omega)) ?_
        rintro _ ⟨b76, o76, rfl, hc76⟩
        refine RL.held rfl rfl hS8 (fun _ hb9 => Y.load1 Try.underlying22 rfl rfl (cell_bel (elemI (by omega) (sr_get gx) hc76) hb9)) ?_
        refine RL.any rfl rfl (fun _ => Y.idxO (n := N) (cap := cap) (j := j2) Try.underlying37 ti22 rfl rfl rfl (by omega) rfl _) ?_
        refine RL.eex rfl rfl (E.storeK1 (u := ku dL[a]!) (i := j2) ti22 rfl rfl rfl (hD.2.bel hS8) (by omega) rfl) ?_ ?_
        · exact fun _ _ _ => .inl rfl
        rintro _ wNa ⟨howNa, hgwNa⟩
        refine RL.any rfl rfl (fun _ => Y.idxO (n := N) (cap := cap) (j := a) Try.underlying37 ti22 rfl rfl rfl (by omega) rfl _) ?_
        refine RL.eex rfl rfl (E.storeK1 (u := ku dL[j2]!) (i := a) ti22 rfl rfl rfl howNa (by omega) rfl) ?_ ?_
        · exact fun _ _ _ => .inl rfl
        rintro _ wN ⟨howN, hgwN⟩
        have hwN : SR wN bl o N cap (swp dL (j2) (a)) := SR.swp (j2) (a) hD.1 howN
        have kwN : Kept (fun x => x = bl) wD wN := ((Kept.of_bel (M := fun x => x = bl) hS8).trans (Kept.of_grown hgwNa rfl)).trans (Kept.of_grown hgwN rfl)
        refine RL.nil (thenQ.normal ?_)
        refine WC.seqR rfl ?_
        refine WL.y rfl (Y.move) ?_
        refine WL.y rfl (Y.assign) ?_
        refine WL.y rfl (Y.assign) ?_
        refine WL.nil ?_
        refine WC.ret (thenQ.ret (endQ.two (.inr rfl) ?_))
        exact ⟨rfl, hwN, ((kwI.bel kC).bel kD).trans kwN⟩
      · have h0' : i2 ≤ j2 := by omega
        have hP := part_go hA (hj.symm ▸ hi.symm ▸ hi2) (hj.symm ▸ hj2) h0'
        rw [hP]
        have gx : i2 < dL.size := by omega
        have gy : j2 < dL.size := by omega
        refine WC.skip (thenQ.normal ?_)
        refine WC.seq ?_
        refine WC.regionB (fun i => Nat.beq i 13 || Nat.beq i 15) [(0, .any), (1, .any), (2, .any), (3, .any), (4, .any), (5, .any), (6, .any), (7, .held), (8, .any), (9, .any), (10, .any), (11, .held), (12, .any), (13, .seq), (14, .any), (15, .seq)] mixed (by kernel_rfl) (fun wS10 hS10 hheap => ?_)
        refine RL.any rfl rfl (fun _ => Y.move) ?_
        refine RL.any rfl rfl (fun _ => Y.move) ?_
        refine RL.any rfl rfl (fun _ => Y.move) ?_
        refine RL.any rfl rfl (fun _ => Y.move) ?_
        refine RL.any rfl rfl (fun _ => Y.move) ?_
        refine RL.any rfl rfl (fun _ => Y.move) ?_
        refine RL.yex rfl rfl (Y.idx Try.underlying37 ti22 (by decide) (hD.2.sl) rfl (by omega) (by omega)) ?_
        rintro _ ⟨b87, o87, rfl, hc87⟩
        refine RL.held rfl rfl hS10 (fun _ hb9 => Y.load1 Try.underlying22 rfl rfl (cell_bel (elemI (by omega) (sr_get gy) hc87) hb9)) ?_
        refine RL.any rfl rfl (fun _ => Y.move) ?_
        refine RL.any rfl rfl (fun _ => Y.move) ?_
        refine RL.yex rfl rfl (Y.idx Try.underlying37 ti22 (by decide) (hD.2.sl) rfl (by omega) (by omega)) ?_
        rintro _ ⟨b91, o91, rfl, hc91⟩
        refine RL.held rfl rfl hS10 (fun _ hb9 => Y.load1 Try.underlying22 rfl rfl (cell_bel (elemI (by omega) (sr_get gx) hc91) hb9)) ?_
        refine RL.any rfl rfl (fun _ => Y.idxO (n := N) (cap := cap) (j := i2) Try.underlying37 ti22 rfl rfl rfl (by omega) rfl _) ?_
        refine RL.eex rfl rfl (E.storeK1 (u := ku dL[j2]!) (i := i2) ti22 rfl rfl rfl (hD.2.bel hS10) (by omega) rfl) ?_ ?_
        · exact fun _ _ _ => .inl rfl
        rintro _ wMa ⟨howMa, hgwMa⟩
        refine RL.any rfl rfl (fun _ => Y.idxO (n := N) (cap := cap) (j := j2) Try.underlying37 ti22 rfl rfl rfl (by omega) rfl _) ?_
        refine RL.eex rfl rfl (E.storeK1 (u := ku dL[i2]!) (i := j2) ti22 rfl rfl rfl howMa (by omega) rfl) ?_ ?_
        · exact fun _ _ _ => .inl rfl
        rintro _ wM ⟨howM, hgwM⟩
        have hwM : SR wM bl o N cap (swp dL (i2) (j2)) := SR.swp (i2) (j2) hD.1 howM
        have kwM : Kept (fun x => x = bl) wD wM := ((Kept.of_bel (M := fun x => x = bl) hS10).trans (Kept.of_grown hgwMa rfl)).trans (Kept.of_grown hgwM rfl)
        refine RL.nil (thenQ.normal ?_)
        refine WC.seqR rfl ?_
        refine WL.y rfl (Y.move) ?_
        refine WL.y rfl (Y.add64 rfl rfl (by omega)) ?_
        refine WL.y rfl (Y.assign) ?_
        refine WL.nil ?_
        refine WC.seqR rfl ?_
        refine WL.y rfl (Y.move) ?_
        refine WL.y rfl (Y.sub64 rfl rfl (by omega)) ?_
        refine WL.y rfl (Y.assign) ?_
        refine WL.nil ?_
        refine WC.seq ?_
        clear gx gy
        have kM := ((kwI.bel kC).bel kD).trans kwM
        have x1 : a < i2 + 1 := by omega
        have x2 : i2 + 1 ≤ j2 - 1 + 2 := by omega
        have x3 : j2 - 1 < N := by omega
        have x4 : a ≤ j2 - 1 := by omega
        have x5 : ((j2 : Int) - 1) = ((j2 - 1 : Nat) : Int) := z1 (by omega)
        have x6 : ((i2 : Int) + 1) = ((i2 + 1 : Nat) : Int) := by omega
        clear hi2 hj2 r1 r2 r3 r4 hP
        generalize i2 + 1 = iS at *
        generalize j2 - 1 = jS at *
        generalize swp dL i2 j2 = dS at *
        refine WC.cut (fun f ds w' => ds = [] ∧ SR w' bl o N cap (partLoop ltI a iS jS dS).2 ∧ Kept (fun x => x = bl) w w' ∧ a ≤ (partLoop ltI a iS jS dS).1 ∧ (partLoop ltI a iS jS dS).1 < N ∧ ∃ J, f = Go.Cx.ov J [(0, .slice (some ⟨bl, o, none⟩) N cap), (1, .int .i64 (a : Int)), (11, .int .i64 ((partLoop ltI a iS jS dS).1 : Int))]) ?_ ?_
        · refine WC.block ?_
          refine WC.loop (S := Nat × Nat × Array Int) (fun q => q.2.1 + 2 - q.1) (fun q f ds w' => ∃ i j dL, q = (i, j, dL) ∧ a < i ∧ i ≤ j + 2 ∧ j < N ∧ a ≤ j ∧ ds = [] ∧ SR w' bl o N cap dL ∧ partLoop ltI a i j dL = partLoop ltI a iS jS dS ∧ Kept (fun x => x = bl) w w' ∧ ∃ J, f = Go.Cx.ov J [(0, .slice (some ⟨bl, o, none⟩) N cap), (1, .int .i64 (a : Int)), (10, .int .i64 (i : Int)), (11, .int .i64 (j : Int))]) (iS, jS, dS) ?_ ?_
          · exact ⟨iS, jS, _, rfl, x1, x2, x3, x4, rfl, hwM, rfl, kM, _, ov_mk ⟨rfl, rfl, congrArg (Value.int .i64) x6, congrArg (Value.int .i64) x5, trivial⟩⟩
          · rintro _ _ _ wL ⟨i, j, dL, rfl, hai, hij, hjN, haj, rfl, hL, hR, kL, J, rfl⟩
            obtain ⟨i2, hi2⟩ : ∃ x, scanUp (fun x => ltI x dL[a]!) dL j i = x := ⟨_, rfl⟩
            have hqq := su_rng (p := fun x => ltI x dL[a]!) (d := dL) (j := j) (i := i) (Nat.le_refl _)
            obtain ⟨r1, r2⟩ := hqq
            rw [hi2] at r1 r2
            obtain ⟨j2, hj2⟩ : ∃ x, scanDown (fun x => !ltI x dL[a]!) dL i2 j = x := ⟨_, rfl⟩
            have hqq := sd_rng (p := fun x => !ltI x dL[a]!) (d := dL) (i := i2) (show 0 < i2 by omega) (j := j)
            obtain ⟨r3, r4⟩ := hqq
            rw [hj2] at r3 r4
            have hsL := hL.1
            refine WC.block ?_
            refine WC.seq ?_
            refine WC.cut (fun f ds w' => ds = [] ∧ Below wL.heap.size wL w' ∧ ∃ J, f = Go.Cx.ov J [(0, .slice (some ⟨bl, o, none⟩) N cap), (1, .int .i64 (a : Int)), (10, .int .i64 (i2 : Int)), (11, .int .i64 (j : Int))]) ?_ ?_
            · refine WC.block ?_
              refine WC.loop (fun t => j + 1 - t) (fun t f ds w' => i ≤ t ∧ t ≤ j + 2 ∧ scanUp (fun x => ltI x dL[a]!) dL j t = i2 ∧ ds = [] ∧ Below wL.heap.size wL w' ∧ ∃ J, f = Go.Cx.ov J [(0, .slice (some ⟨bl, o, none⟩) N cap), (1, .int .i64 (a : Int)), (10, .int .i64 (t : Int)), (11, .int .i64 (j : Int))]) i ?_ ?_
              · exact ⟨by omega, by omega, hi2, rfl, Below.refl _ _, _, ov_mk ⟨rfl, rfl, rfl, rfl, trivial⟩⟩
              · rintro t _ _ wY ⟨t1, t2, hF, rfl, kY, J, rfl⟩
                have hY := hL.bel kY
                have hsz := hY.1
                have ja : a < Array.size dL := by omega
                refine WC.seq ?_
                by_cases c1 : t ≤ j
                · have jt : t < Array.size dL := by omega
                  by_cases c2 : (ltI dL[t]! dL[a]! = true)
                  · refine WC.seq ?_
                    refine WC.regionB (fun i => Nat.beq i 12) [(0, .any), (1, .any), (2, .any), (3, .any), (4, .any), (5, .any), (6, .any), (7, .held), (8, .any), (9, .any), (10, .any), (11, .held), (12, .seq), (13, .any)] mixed (by kernel_rfl) (fun wS hS hheap => ?_)
                    refine RL.any rfl rfl (fun _ => Y.move) ?_
                    refine RL.any rfl rfl (fun _ => Y.move) ?_
                    refine RL.any rfl rfl (fun _ => Y.dT (Y.leq rfl rfl) (by omega)) ?_
                    refine RL.any rfl rfl (fun _ => Y.move) ?_
                    refine RL.any rfl rfl (fun _ => Y.move) ?_
                    refine RL.any rfl rfl (fun _ => Y.move) ?_
                    refine RL.yex rfl rfl (Y.idx Try.underlying37 ti22 (by decide) (hY.2.sl) rfl (by omega) (by omega)) ?_
                    rintro _ ⟨b105, o105, rfl, hc105⟩
                    refine RL.held rfl rfl hS (fun _ hb9 => Y.load1 Try.underlying22 rfl rfl (cell_bel (elemI (by omega) (sr_get jt) hc105) hb9)) ?_
                    refine RL.any rfl rfl (fun _ => Y.move) ?_
                    refine RL.any rfl rfl (fun _ => Y.move) ?_
                    refine RL.yex rfl rfl (Y.idx Try.underlying37 ti22 (by decide) (hY.2.sl) rfl (by omega) (by omega)) ?_
                    rintro _ ⟨b109, o109, rfl, hc109⟩
                    refine RL.held rfl rfl hS (fun _ hb9 => Y.load1 Try.underlying22 rfl rfl (cell_bel (elemI (by omega) (sr_get ja) hc109) hb9)) ?_
                    refine RL.call rfl rfl (C.func go52) (lessT _ _ _ c2) ?_
                    rintro _ _ ⟨rfl, rfl⟩
                    refine ⟨.inl rfl, ?_⟩
                    refine RL.any rfl rfl (fun _ => Y.pickT rfl) ?_
                    refine RL.nil (thenQ.normal ?_)
                    refine WC.condT (rfl) ?_
                    refine WC.skip (thenQ.normal ?_)
                    refine WC.block ?_
                    refine WC.region rfl ?_
                    refine WL.y rfl (Y.move) ?_
                    refine WL.y rfl (Y.add64 rfl rfl (by omega)) ?_
                    refine WL.y rfl (Y.assign) ?_
                    refine WL.nil (inBlockQ.normal (thenQ.normal ?_))
                    exact ⟨t + 1, by omega, by omega, by omega, (su_go c1 c2).symm.trans hF, rfl, Below.step kY hS, _, ov_mk ⟨rfl, rfl, rfl, rfl, trivial⟩⟩
                  · have hst := (su_stop (fun h => c2 h.2) : scanUp (fun x => ltI x dL[a]!) dL j t = t)
                    refine WC.seq ?_
                    refine WC.regionB (fun i => Nat.beq i 12) [(0, .any), (1, .any), (2, .any), (3, .any), (4, .any), (5, .any), (6, .any), (7, .held), (8, .any), (9, .any), (10, .any), (11, .held), (12, .seq), (13, .any)] mixed (by kernel_rfl) (fun wS hS hheap => ?_)
                    refine RL.any rfl rfl (fun _ => Y.move) ?_
                    refine RL.any rfl rfl (fun _ => Y.move) ?_
                    refine RL.any rfl rfl (fun _ => Y.dT (Y.leq rfl rfl) (by omega)) ?_
                    refine RL.any rfl rfl (fun _ => Y.move) ?_
                    refine RL.any rfl rfl (fun _ => Y.move) ?_
                    refine RL.any rfl rfl (fun _ => Y.move) ?_
                    refine RL.yex rfl rfl (Y.idx Try.underlying37 ti22 (by decide) (hY.2.sl) rfl (by omega) (by omega)) ?_
                    rintro _ ⟨b105, o105, rfl, hc105⟩
                    refine RL.held rfl rfl hS (fun _ hb9 => Y.load1 Try.underlying22 rfl rfl (cell_bel (elemI (by omega) (sr_get jt) hc105) hb9)) ?_
                    refine RL.any rfl rfl (fun _ => Y.move) ?_
                    refine RL.any rfl rfl (fun _ => Y.move) ?_
                    refine RL.yex rfl rfl (Y.idx Try.underlying37 ti22 (by decide) (hY.2.sl) rfl (by omega) (by omega)) ?_
                    rintro _ ⟨b109, o109, rfl, hc109⟩
                    refine RL.held rfl rfl hS (fun _ hb9 => Y.load1 Try.underlying22 rfl rfl (cell_bel (elemI (by omega) (sr_get ja) hc109) hb9)) ?_
                    refine RL.call rfl rfl (C.func go52) (lessF _ _ _ c2) ?_
                    rintro _ _ ⟨rfl, rfl⟩
                    refine ⟨.inl rfl, ?_⟩
                    refine RL.any rfl rfl (fun _ => Y.pickT rfl) ?_
                    refine RL.nil (thenQ.normal ?_)
                    refine WC.condF (rfl) ?_
                    refine WC.exit (thenQ.exit (thenQ.exit (inBlockQ.hit (thenQ.normal ?_))))
                    exact ⟨rfl, Below.step kY hS, _, ov_mk ⟨rfl, rfl, congrArg (fun q : Nat => Value.int .i64 (q : Int)) (hst.symm.trans hF), rfl, trivial⟩⟩
                · have hst := (su_stop (fun h => c1 h.1) : scanUp (fun x => ltI x dL[a]!) dL j t = t)
                  skip
                  refine WC.seq ?_
                  refine WC.regionB (fun _ => false) [(0, .any), (1, .any), (2, .any), (3, .any), (4, .any), (5, .any), (6, .any), (7, .held), (8, .any), (9, .any), (10, .any), (11, .held), (12, .any), (13, .any)] mixed (by kernel_rfl) (fun wS hS hheap => ?_)
                  refine RL.any rfl rfl (fun _ => Y.move) ?_
                  refine RL.any rfl rfl (fun _ => Y.move) ?_
                  refine RL.any rfl rfl (fun _ => Y.dF (Y.leq rfl rfl) (by omega)) ?_
                  refine RL.any rfl rfl (fun _ => Y.move) ?_
                  refine RL.off rfl rfl ?_
                  refine RL.off rfl rfl ?_
                  refine RL.off rfl rfl ?_
                  refine RL.offH rfl rfl hS ?_
                  refine RL.off rfl rfl ?_
                  refine RL.off rfl rfl ?_
                  refine RL.off rfl rfl ?_
                  refine RL.offH rfl rfl hS ?_
                  refine RL.off rfl rfl ?_
                  refine RL.any rfl rfl (fun _ => Y.pickF rfl) ?_
                  refine RL.nil (thenQ.normal ?_)
                  refine WC.condF (rfl) ?_
                  refine WC.exit (thenQ.exit (thenQ.exit (inBlockQ.hit (thenQ.normal ?_))))
                  exact ⟨rfl, Below.step kY hS, _, ov_mk ⟨rfl, rfl, congrArg (fun q : Nat => Value.int .i64 (q : Int)) (hst.symm.trans hF), rfl, trivial⟩⟩
            · rintro _ _ wC ⟨rfl, kC, J2, rfl⟩
              have hC := hL.bel kC
              refine WC.seq ?_
              refine WC.cut (fun f ds w' => ds = [] ∧ Below wC.heap.size wC w' ∧ ∃ J, f = Go.Cx.ov J [(0, .slice (some ⟨bl, o, none⟩) N cap), (1, .int .i64 (a : Int)), (10, .int .i64 (i2 : Int)), (11, .int .i64 (j2 : Int))]) ?_ ?_
              · refine WC.block ?_
                refine WC.loop (fun t => t) (fun t f ds w' => t ≤ j ∧ i2 ≤ t + 2 ∧ scanDown (fun x => !ltI x dL[a]!) dL i2 t = j2 ∧ ds = [] ∧ Below wC.heap.size wC w' ∧ ∃ J, f = Go.Cx.ov J [(0, .slice (some ⟨bl, o, none⟩) N cap), (1, .int .i64 (a : Int)), (10, .int .i64 (i2 : Int)), (11, .int .i64 (t : Int))]) j ?_ ?_
                · exact ⟨by omega, by omega, hj2, rfl, Below.refl _ _, _, ov_mk ⟨rfl, rfl, rfl, rfl, trivial⟩⟩
                · rintro t _ _ wY ⟨t1, t2, hF, rfl, kY, J, rfl⟩
                  have hY := hC.bel kY
                  have hsz := hY.1
                  have ja : a < Array.size dL := by omega
                  refine WC.seq ?_
                  by_cases c1 : i2 ≤ t
                  · have jt : t < Array.size dL := by omega
                    by_cases c2 : ¬ (ltI dL[t]! dL[a]! = true)
                    · refine WC.seq ?_
                      refine WC.regionB (fun i => Nat.beq i 12) [(0, .any), (1, .any), (2, .any), (3, .any), (4, .any), (5, .any), (6, .any), (7, .held), (8, .any), (9, .any), (10, .any), (11, .held), (12, .seq), (13, .any), (14, .any)] mixed (by kernel_rfl) (fun wS hS hheap => ?_)
                      refine RL.any rfl rfl (fun _ => Y.move) ?_
                      refine RL.any rfl rfl (fun _ => Y.move) ?_
                      refine RL.any rfl rfl (fun _ => Y.dT (Y.leq rfl rfl) (by omega)) ?_
                      refine RL.any rfl rfl (fun _ => Y.move) ?_
                      refine RL.any rfl rfl (fun _ => Y.move) ?_
                      refine RL.any rfl rfl (fun _ => Y.move) ?_
                      refine RL.yex rfl rfl (Y.idx Try.underlying37 ti22 (by decide) (hY.2.sl) rfl (by omega) (by omega)) ?_
                      rintro _ ⟨b121, o121, rfl, hc121⟩
                      refine RL.held rfl rfl hS (fun _ hb9 => Y.load1 Try.underlying22 rfl rfl (cell_bel (elemI (by omega) (sr_get jt) hc121) hb9)) ?_
                      refine RL.any rfl rfl (fun _ => Y.move) ?_
                      refine RL.any rfl rfl (fun _ => Y.move) ?_
                      refine RL.yex rfl rfl (Y.idx Try.underlying37 ti22 (by decide) (hY.2.sl) rfl (by omega) (by omega)) ?_
                      rintro _ ⟨b125, o125, rfl, hc125⟩
                      refine RL.held rfl rfl hS (fun _ hb9 => Y.load1 Try.underlying22 rfl rfl (cell_bel (elemI (by omega) (sr_get ja) hc125) hb9)) ?_
                      refine RL.call rfl rfl (C.func go52) (lessF _ _ _ c2) ?_
                      rintro _ _ ⟨rfl, rfl⟩
                      refine ⟨.inl rfl, ?_⟩
                      refine RL.any rfl rfl (fun _ => Y.not rfl) ?_
                      refine RL.any rfl rfl (fun _ => Y.pickT rfl) ?_
                      refine RL.nil (thenQ.normal ?_)
                      refine WC.condT (rfl) ?_
                      refine WC.skip (thenQ.normal ?_)
                      refine WC.block ?_
                      refine WC.region rfl ?_
                      refine WL.y rfl (Y.move) ?_
                      refine WL.y rfl (Y.sub64 rfl rfl (by omega)) ?_
                      refine WL.y rfl (Y.assign) ?_
                      refine WL.nil (inBlockQ.normal (thenQ.normal ?_))
                      exact ⟨t - 1, by omega, by omega, by omega, (sd_go c1 (by omega) (by simp only [Bool.not_eq_true']; simpa using c2)).symm.trans hF, rfl, Below.step kY hS, _, ov_mk ⟨rfl, rfl, rfl, congrArg (Value.int .i64) (z1 (by omega)), trivial⟩⟩
                    · have hst := (sd_stop (fun h => c2 (by simpa using h.2)) : scanDown (fun x => !ltI x dL[a]!) dL i2 t = t)
                      refine WC.seq ?_
                      refine WC.regionB (fun i => Nat.beq i 12) [(0, .any), (1, .any), (2, .any), (3, .any), (4, .any), (5, .any), (6, .any), (7, .held), (8, .any), (9, .any), (10, .any), (11, .held), (12, .seq), (13, .any), (14, .any)] mixed (by kernel_rfl) (fun wS hS hheap => ?_)
                      refine RL.any rfl rfl (fun _ => Y.move) ?_
                      refine RL.any rfl rfl (fun _ => Y.move) ?_
                      refine RL.any rfl rfl (fun _ => Y.dT (Y.leq rfl rfl) (by omega)) ?_
                      refine RL.any rfl rfl (fun _ => Y.move) ?_
                      refine RL.any rfl rfl (fun _ => Y.move) ?_
                      refine RL.any rfl rfl (fun _ => Y.move) ?_
                      refine RL.yex rfl rfl (Y.idx Try.underlying37 ti22 (by decide) (hY.2.sl) rfl (by omega) (by omega)) ?_
                      rintro _ ⟨b121, o121, rfl, hc121⟩
                      refine RL.held rfl rfl hS (fun _ hb9 => Y.load1 Try.underlying22 rfl rfl (cell_bel (elemI (by omega) (sr_get jt) hc121) hb9)) ?_
                      refine RL.any rfl rfl (fun _ => Y.move) ?_
                      refine RL.any rfl rfl (fun _ => Y.move) ?_
                      refine RL.yex rfl rfl (Y.idx Try.underlying37 ti22 (by decide) (hY.2.sl) rfl (by omega) (by omega)) ?_
                      rintro _ ⟨b125, o125, rfl, hc125⟩
                      refine RL.held rfl rfl hS (fun _ hb9 => Y.load1 Try.underlying22 rfl rfl (cell_bel (elemI (by omega) (sr_get ja) hc125) hb9)) ?_
                      refine RL.call rfl rfl (C.func go52) (lessT _ _ _ (not_not_true c2)) ?_
                      rintro _ _ ⟨rfl, rfl⟩
                      refine ⟨.inl rfl, ?_⟩
                      refine RL.any rfl rfl (fun _ => Y.not rfl) ?_
                      refine RL.any rfl rfl (fun _ => Y.pickT rfl) ?_
                      refine RL.nil (thenQ.normal ?_)
                      refine WC.condF (rfl) ?_
                      refine WC.exit (thenQ.exit (thenQ.exit (inBlockQ.hit (thenQ.normal ?_))))
                      exact ⟨rfl, Below.step kY hS, _, ov_mk ⟨rfl, rfl, rfl, congrArg (fun q : Nat => Value.int .i64 (q : Int)) (hst.symm.trans hF), trivial⟩⟩
                  · have hst := (sd_stop (fun h => c1 h.1) : scanDown (fun x => !ltI x dL[a]!) dL i2 t = t)
                    skip
                    refine WC.seq ?_
                    refine WC.regionB (fun _ => false) [(0, .any), (1, .any), (2, .any), (3, .any), (4, .any), (5, .any), (6, .any), (7, .held), (8, .any), (9, .any), (10, .any), (11, .held), (12, .any), (13, .any), (14, .any)] mixed (by kernel_rfl) (fun wS hS hheap => ?_)
                    refine RL.any rfl rfl (fun _ => Y.move) ?_
                    refine RL.any rfl rfl (fun _ => Y.move) ?_
                    refine RL.any rfl rfl (fun _ => Y.dF (Y.leq rfl rfl) (by omega)) ?_
                    refine RL.any rfl rfl (fun _ => Y.move) ?_
                    refine RL.off rfl rfl ?_
                    refine RL.off rfl rfl ?_
                    refine RL.off rfl rfl ?_
                    refine RL.offH rfl rfl hS ?_
                    refine RL.off rfl rfl ?_
                    refine RL.off rfl rfl ?_
                    refine RL.off rfl rfl ?_
                    refine RL.offH rfl rfl hS ?_
                    refine RL.off rfl rfl ?_
                    refine RL.off rfl rfl ?_
                    refine RL.any rfl rfl (fun _ => Y.pickF rfl) ?_
                    refine RL.nil (thenQ.normal ?_)
                    refine WC.condF (rfl) ?_
                    refine WC.exit (thenQ.exit (thenQ.exit (inBlockQ.hit (thenQ.normal ?_))))
                    exact ⟨rfl, Below.step kY hS, _, ov_mk ⟨rfl, rfl, rfl, congrArg (fun q : Nat => Value.int .i64 (q : Int)) (hst.symm.trans hF), trivial⟩⟩
              · rintro _ _ wD ⟨rfl, kD, J3, rfl⟩
                have hD := hC.bel kD
                refine WC.seq ?_
                refine WC.seqR rfl ?_
                refine WL.y rfl (Y.move) ?_
                refine WL.y rfl (Y.move) ?_
                refine WL.y rfl (Y.gtr rfl rfl) ?_
                refine WL.nil ?_
                refine WC.condD rfl (fun h1 => ?_) (fun h1 => ?_)
                · have h0' : j2 < i2 := by omega
                  rw [pl_stop hi2 hj2 h0'] at hR
                  refine WC.exit (thenQ.exit (inBlockQ.miss rfl (thenQ.exit (inBlockQ.hit (thenQ.normal ?_)))))
                  rw [← hR]
                  exact ⟨rfl, hD, (kL.bel kC).bel kD, (show a ≤ j2 by omega), (show j2 < N by omega), _, ov_mk ⟨rfl, rfl, rfl, trivial⟩⟩
                · have h0' : i2 ≤ j2 := by omega
                  rw [pl_go hi2 hj2 h0' (by omega) (by omega) (by omega)] at hR
                  have gx : i2 < dL.size := by omega
                  have gy : j2 < dL.size := by omega
                  refine WC.skip (thenQ.normal ?_)
                  refine WC.seq ?_
                  refine WC.regionB (fun i => Nat.beq i 13 || Nat.beq i 15) [(0, .any), (1, .any), (2, .any), (3, .any), (4, .any), (5, .any), (6, .any), (7, .held), (8, .any), (9, .any), (10, .any), (11, .held), (12, .any), (13, .seq), (14, .any), (15, .seq)] mixed (by kernel_rfl) (fun wS18 hS18 hheap => ?_)
                  refine RL.any rfl rfl (fun _ => Y.move) ?_
                  refine RL.any rfl rfl (fun _ => Y.move) ?_
                  refine RL.any rfl rfl (fun _ => Y.move) ?_
                  refine RL.any rfl rfl (fun _ => Y.move) ?_
                  refine RL.any rfl rfl (fun _ => Y.move) ?_
                  refine RL.any rfl rfl (fun _ => Y.move) ?_
                  refine RL.yex rfl rfl (Y.idx Try.underlying37 ti22 (by decide) (hD.2.sl) rfl (by omega) (by omega)) ?_
                  rintro _ ⟨b141, o141, rfl, hc141⟩
                  refine RL.held rfl rfl hS18 (fun _ hb9 => Y.load1 Try.underlying22 rfl rfl (cell_bel (elemI (by omega) (sr_get gy) hc141) hb9)) ?_
                  refine RL.any rfl rfl (fun _ => Y.move) ?_
                  refine RL.any rfl rfl (fun _ => Y.move) ?_
                  refine RL.yex rfl rfl (Y.idx Try.underlying37 ti22 (by decide) (hD.2.sl) rfl (by omega) (by omega)) ?_
                  rintro _ ⟨b145, o145, rfl, hc145⟩
                  refine RL.held rfl rfl hS18 (fun _ hb9 => Y.load1 Try.underlying22 rfl rfl (cell_bel (elemI (by omega) (sr_get gx) hc145) hb9)) ?_
                  refine RL.any rfl rfl (fun _ => Y.idxO (n := N) (cap := cap) (j := i2) Try.underlying37 ti22 rfl rfl rfl (by omega) rfl _) ?_
                  refine RL.eex rfl rfl (E.storeK1 (u := ku dL[j2]!) (i := i2) ti22 rfl rfl rfl (hD.2.bel hS18) (by omega) rfl) ?_ ?_
                  · exact fun _ _ _ => .inl rfl
                  rintro _ wNa ⟨howNa, hgwNa⟩
                  refine RL.any rfl rfl (fun _ => Y.idxO (n := N) (cap := cap) (j := j2) Try.underlying37 ti22 rfl rfl rfl (by omega) rfl _) ?_
                  refine RL.eex rfl rfl (E.storeK1 (u := ku dL[i2]!) (i := j2) ti22 rfl rfl rfl howNa (by omega) rfl) ?_ ?_
                  · exact fun _ _ _ => .inl rfl
                  rintro _ wN ⟨howN, hgwN⟩
                  have hwN : SR wN bl o N cap (swp dL (i2) (j2)) := SR.swp (i2) (j2) hD.1 howN
                  have kwN : Kept (fun x => x = bl) wD wN := ((Kept.of_bel (M := fun x => x = bl) hS18).trans (Kept.of_grown hgwNa rfl)).trans (Kept.of_grown hgwN rfl)
                  refine RL.nil (thenQ.normal ?_)
                  refine WC.seqR rfl ?_
                  refine WL.y rfl (Y.move) ?_
                  refine WL.y rfl (Y.add64 rfl rfl (by omega)) ?_
                  refine WL.y rfl (Y.assign) ?_
                  refine WL.nil ?_
                  refine WC.region rfl ?_
                  refine WL.y rfl (Y.move) ?_
                  refine WL.y rfl (Y.sub64 rfl rfl (by omega)) ?_
                  refine WL.y rfl (Y.assign) ?_
                  refine WL.nil (inBlockQ.normal (thenQ.normal ?_))
                  exact ⟨(i2 + 1, j2 - 1, swp dL i2 j2), (show j2 - 1 + 2 - (i2 + 1) < j + 2 - i by omega), i2 + 1, j2 - 1, swp dL i2 j2, rfl, (by omega), (by omega), (by omega), (by omega), rfl, hwN, hR, ((kL.bel kC).bel kD).trans kwN, _, ov_mk ⟨rfl, rfl, rfl, congrArg (Value.int .i64) (z1 (show 0 < j2 by omega)), trivial⟩⟩
        · rintro _ _ wE ⟨rfl, hE, kE, e1, e2, J9, rfl⟩
          obtain ⟨jR, hjR⟩ : ∃ x, (partLoop ltI a iS jS dS).1 = x := ⟨_, rfl⟩
          obtain ⟨dR, hdR⟩ : ∃ x, (partLoop ltI a iS jS dS).2 = x := ⟨_, rfl⟩
          rw [hjR] at e1 e2 ⊢
          rw [hdR] at hE ⊢
          have hsE := hE.1
          have gx : jR < dR.size := by omega
          have gy : a < dR.size := by omega
          refine WC.seq ?_
          refine WC.regionB (fun i => Nat.beq i 13 || Nat.beq i 15) [(0, .any), (1, .any), (2, .any), (3, .any), (4, .any), (5, .any), (6, .any), (7, .held), (8, .any), (9, .any), (10, .any), (11, .held), (12, .any), (13, .seq), (14, .any), (15, .seq)] mixed (by kernel_rfl) (fun wS21 hS21 hheap => ?_)
          refine RL.any rfl rfl (fun _ => Y.move) ?_
          refine RL.any rfl rfl (fun _ => Y.move) ?_
          refine RL.any rfl rfl (fun _ => Y.move) ?_
          refine RL.any rfl rfl (fun _ => Y.move) ?_
          refine RL.any rfl rfl (fun _ => Y.move) ?_
          refine RL.any rfl rfl (fun _ => Y.move) ?_
          refine RL.yex rfl rfl (Y.idx Try.underlying37 ti22 (by decide) (hE.2.sl) rfl (by omega) (by omega)) ?_
          rintro _ ⟨b159, o159, rfl, hc159⟩
          refine RL.held rfl rfl hS21 (fun _ hb9 => Y.load1 Try.underlying22 rfl rfl (cell_bel (elemI (by omega) (sr_get gy) hc159) hb9)) ?_
          refine RL.any rfl rfl (fun _ => Y.move) ?_
          refine RL.any rfl rfl (fun _ => Y.move) ?_
          refine RL.yex rfl rfl (Y.idx Try.underlying37 ti22 (by decide) (hE.2.sl) rfl (by omega) (by omega)) ?_
          rintro _ ⟨b163, o163, rfl, hc163⟩
          refine RL.held rfl rfl hS21 (fun _ hb9 => Y.load1 Try.underlying22 rfl rfl (cell_bel (elemI (by omega) (sr_get gx) hc163) hb9)) ?_
          refine RL.any rfl rfl (fun _ => Y.idxO (n := N) (cap := cap) (j := jR) Try.underlying37 ti22 rfl rfl rfl (by omega) rfl _) ?_
          refine RL.eex rfl rfl (E.storeK1 (u := ku dR[a]!) (i := jR) ti22 rfl rfl rfl (hE.2.bel hS21) (by omega) rfl) ?_ ?_
          · exact fun _ _ _ => .inl rfl
          rintro _ wZa ⟨howZa, hgwZa⟩
          refine RL.any rfl rfl (fun _ => Y.idxO (n := N) (cap := cap) (j := a) Try.underlying37 ti22 rfl rfl rfl (by omega) rfl _) ?_
          refine RL.eex rfl rfl (E.storeK1 (u := ku dR[jR]!) (i := a) ti22 rfl rfl rfl howZa (by omega) rfl) ?_ ?_
          · exact fun _ _ _ => .inl rfl
          rintro _ wZ ⟨howZ, hgwZ⟩
          have hwZ : SR wZ bl o N cap (swp dR (jR) (a)) := SR.swp (jR) (a) hE.1 howZ
          have kwZ : Kept (fun x => x = bl) wE wZ := ((Kept.of_bel (M := fun x => x = bl) hS21).trans (Kept.of_grown hgwZa rfl)).trans (Kept.of_grown hgwZ rfl)
          refine RL.nil (thenQ.normal ?_)
          refine WC.seqR rfl ?_
          refine WL.y rfl (Y.move) ?_
          refine WL.y rfl (Y.assign) ?_
          refine WL.y rfl (Y.assign) ?_
          refine WL.nil ?_
          refine WC.ret (endQ.two (.inr rfl) ?_)
          exact ⟨rfl, hwZ, kE.trans kwZ⟩
end Go.Proofs.Ytlhhognabmnlmaa
