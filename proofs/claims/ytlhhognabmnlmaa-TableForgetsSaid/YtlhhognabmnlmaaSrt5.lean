/-
  slices.Sort at uint64: partitionEqual: walk (printed by wip/tools/gensort.py).
-/
import Derived.Test.YtlhhognabmnlmaaSrt4
namespace Go.Proofs.Ytlhhognabmnlmaa
open Go Go.RowKit Go.Cx
set_option linter.unusedVariables false
set_option maxHeartbeats 8000000
set_option maxRecDepth 20000
open Go.Sort
theorem su_go {p : Int → Bool} {d : Array Int} {j i : Nat} (h1 : i ≤ j) (h2 : p d[i]! = true) : scanUp p d j i = scanUp p d j (i + 1) := by
  rw [scanUp, if_pos (by rw [Bool.and_eq_true, decide_eq_true_eq]; exact ⟨h1, h2⟩)]
theorem su_stop {p : Int → Bool} {d : Array Int} {j i : Nat} (h : ¬ (i ≤ j ∧ p d[i]! = true)) : scanUp p d j i = i := by
  rw [scanUp, if_neg (by rw [Bool.and_eq_true, decide_eq_true_eq]; exact h)]
theorem sd_go {p : Int → Bool} {d : Array Int} {i j : Nat} (h1 : i ≤ j) (h0 : 0 < j) (h2 : p d[j]! = true) : scanDown p d i j = scanDown p d i (j - 1) := by
  cases j with
  | zero => omega
  | succ j =>
    rw [scanDown, if_pos (by rw [Bool.and_eq_true, decide_eq_true_eq]; exact ⟨h1, h2⟩)]
    rfl
theorem sd_stop {p : Int → Bool} {d : Array Int} {i j : Nat} (h : ¬ (i ≤ j ∧ p d[j]! = true)) : scanDown p d i j = j := by
  cases j with
  | zero => rfl
  | succ j => rw [scanDown, if_neg (by rw [Bool.and_eq_true, decide_eq_true_eq]; exact h)]
theorem su_rng {p : Int → Bool} {d : Array Int} {j : Nat} : ∀ {n i : Nat}, j + 1 - i ≤ n → i ≤ scanUp p d j i ∧ (scanUp p d j i = i ∨ scanUp p d j i ≤ j + 1) := by
  intro n
  induction n with
  | zero => intro i h; rw [su_stop (fun h => by omega)]; exact ⟨Nat.le_refl _, Or.inl rfl⟩
  | succ n ih =>
    intro i h
    by_cases c : i ≤ j ∧ p d[i]! = true
    · rw [su_go c.1 c.2]
      have := ih (i := i + 1) (by omega)
      omega
    · rw [su_stop c]; exact ⟨Nat.le_refl _, Or.inl rfl⟩
theorem sd_rng {p : Int → Bool} {d : Array Int} {i : Nat} (hi : 0 < i) : ∀ {j : Nat}, scanDown p d i j ≤ j ∧ (scanDown p d i j = j ∨ i ≤ scanDown p d i j + 1) := by
  intro j
  induction j with
  | zero => exact ⟨Nat.le_refl _, Or.inl rfl⟩
  | succ j ih =>
    by_cases c : i ≤ j + 1 ∧ p d[j + 1]! = true
    · rw [sd_go c.1 (by omega) c.2]
      simp only [Nat.add_sub_cancel]
      omega
    · rw [sd_stop c]; exact ⟨Nat.le_refl _, Or.inl rfl⟩
theorem not_not_true {b : Bool} (h : ¬ ¬ b = true) : b = true := by cases b <;> simp at h ⊢
theorem pel_stop {a i j i2 j2 : Nat} {d : Array Int} (h1 : scanUp (fun x => !ltI d[a]! x) d j i = i2) (h2 : scanDown (fun x => ltI d[a]! x) d i2 j = j2) (h : j2 < i2) : partEqLoop ltI a i j d = (i2, d) := by
  rw [partEqLoop, h1]
  simp only [h2, if_pos h]
theorem pel_go {a i j i2 j2 : Nat} {d : Array Int} (h1 : scanUp (fun x => !ltI d[a]! x) d j i = i2) (h2 : scanDown (fun x => ltI d[a]! x) d i2 j = j2) (h : i2 ≤ j2) (h3 : i ≤ i2) (h4 : j2 ≤ j) (h5 : 0 < i2) : partEqLoop ltI a i j d = partEqLoop ltI a (i2 + 1) (j2 - 1) (swp d i2 j2) := by
  rw [partEqLoop, h1]
  simp only [h2]
  rw [if_neg (by omega), dif_pos (by omega)]
theorem pl_stop {a i j i2 j2 : Nat} {d : Array Int} (h1 : scanUp (fun x => ltI x d[a]!) d j i = i2) (h2 : scanDown (fun x => !ltI x d[a]!) d i2 j = j2) (h : j2 < i2) : partLoop ltI a i j d = (j2, d) := by
  rw [partLoop, h1]
  simp only [h2, if_pos h]
theorem pl_go {a i j i2 j2 : Nat} {d : Array Int} (h1 : scanUp (fun x => ltI x d[a]!) d j i = i2) (h2 : scanDown (fun x => !ltI x d[a]!) d i2 j = j2) (h : i2 ≤ j2) (h3 : i ≤ i2) (h4 : j2 ≤ j) (h5 : 0 < i2) : partLoop ltI a i j d = partLoop ltI a (i2 + 1) (j2 - 1) (swp d i2 j2) := by
  rw [partLoop, h1]
  simp only [h2]
  rw [if_neg (by omega), dif_pos (by omega)]
theorem peq_ret {w : World} {bl o N cap : Nat} {d : Array Int} (a b p : Nat) (h : SR w bl o N cap d) (hb : b ≤ N) (hN : N ≤ 60000) (hap : a ≤ p) (hpb : p < b) (hab : a + 1 < b) : Ret Try.prog 53 [.slice (some ⟨bl, o, none⟩) N cap, .int .i64 (a : Int), .int .i64 (b : Int), .int .i64 (p : Int)].toArray w fun v w' => v = .int .i64 ((partitionEqual ltI d a b p).1 : Int) ∧ SR w' bl o N cap (partitionEqual ltI d a b p).2 ∧ Kept (fun x => x = bl) w w' := by
  have hs0 := h.1
  have gx : a < d.size := by omega
  have gy : p < d.size := by omega
  refine Ret.of (n := 84) (rs := #[.tmp 8]) Try.func53 rfl rfl rfl (by simp) ?_
  refine WC.seqR rfl ?_
  refine WL.y rfl (Y.assign) ?_
  refine WL.nil ?_
  refine WC.seq ?_
  refine WC.regionB (fun i => Nat.beq i 13 || Nat.beq i 15) [(0, .any), (1, .any), (2, .any), (3, .any), (4, .any), (5, .any), (6, .any), (7, .held), (8, .any), (9, .any), (10, .any), (11, .held), (12, .any), (13, .seq), (14, .any), (15, .seq)] mixed (by kernel_rfl) (fun wS1 hS1 hheap => ?_)
  refine RL.any rfl rfl (fun _ => Y.move) ?_
  refine RL.any rfl rfl (fun _ => Y.move) ?_
  refine RL.any rfl rfl (fun _ => Y.move) ?_
  refine RL.any rfl rfl (fun _ => Y.move) ?_
  refine RL.any rfl rfl (fun _ => Y.move) ?_
  refine RL.any rfl rfl (fun _ => Y.move) ?_
  refine RL.yex rfl rfl (Y.idx Try.underlying37 ti22 (by decide) (h.2.sl) rfl (by omega) (by omega)) ?_
  rintro _ ⟨b17, o17, rfl, hc17⟩
  refine RL.held rfl rfl hS1 (fun _ hb9 => Y.load1 Try.underlying22 rfl rfl (cell_bel (elemI (by omega) (sr_get gy) hc17) hb9)) ?_
  refine RL.any rfl rfl (fun _ => Y.move) ?_
  refine RL.any rfl rfl (fun _ => Y.move) ?_
  refine RL.yex rfl rfl (Y.idx Try.underlying37 ti22 (by decide) (h.2.sl) rfl (by omega) (by omega)) ?_
  rintro _ ⟨b21, o21, rfl, hc21⟩
  refine RL.held rfl rfl hS1 (fun _ hb9 => Y.load1 Try.underlying22 rfl rfl (cell_bel (elemI (by omega) (sr_get gx) hc21) hb9)) ?_
  refine RL.any rfl rfl (fun _ => Y.idxO (n := N) (cap := cap) (j := a) Try.underlying37 ti22 rfl rfl rfl (by omega) rfl _) ?_
  refine RL.eex rfl rfl (E.storeK1 (u := ku d[p]!) (i := a) ti22 rfl rfl rfl (h.2.bel hS1) (by omega) rfl) ?_ ?_
  · exact fun _ _ _ => .inl rfl
  rintro _ wIa ⟨howIa, hgwIa⟩
  refine RL.any rfl rfl (fun _ => Y.idxO (n := N) (cap := cap) (j := p) Try.underlying37 ti22 rfl rfl rfl (by omega) rfl _) ?_
  refine RL.eex rfl rfl (E.storeK1 (u := ku d[a]!) (i := p) ti22 rfl rfl rfl howIa (by omega) rfl) ?_ ?_
  · exact fun _ _ _ => .inl rfl
  rintro _ wI ⟨howI, hgwI⟩
  have hwI : SR wI bl o N cap (swp d (a) (p)) := SR.swp (a) (p) h.1 howI
  have kwI : Kept (fun x => x = bl) w wI := ((Kept.of_bel (M := fun x => x = bl) hS1).trans (Kept.of_grown hgwIa rfl)).trans (Kept.of_grown hgwI rfl)
  refine RL.nil (thenQ.normal ?_)
  refine WC.seqR rfl ?_
  refine WL.y rfl (Y.move) ?_
  refine WL.y rfl (Y.add64 rfl rfl (by omega)) ?_
  refine WL.y rfl (Y.move) ?_
  refine WL.y rfl (Y.sub64 rfl rfl (by omega)) ?_
  refine WL.y rfl (Y.assign) ?_
  refine WL.y rfl (Y.assign) ?_
  refine WL.nil ?_
  refine WC.seq ?_
  refine WC.cut (fun f ds w' => ds = [] ∧ SR w' bl o N cap (partitionEqual ltI d a b p).2 ∧ Kept (fun x => x = bl) w w' ∧ ∃ J, f = Go.Cx.ov J [(9, .int .i64 ((partitionEqual ltI d a b p).1 : Int))]) ?_ ?_
  · refine WC.block ?_
    refine WC.loop (S := Nat × Nat × Array Int) (fun q => q.2.1 + 2 - q.1) (fun q f ds w' => ∃ i j dL, q = (i, j, dL) ∧ a < i ∧ i ≤ j + 2 ∧ j < N ∧ a ≤ j ∧ ds = [] ∧ SR w' bl o N cap dL ∧ partEqLoop ltI a i j dL = partitionEqual ltI d a b p ∧ Kept (fun x => x = bl) w w' ∧ ∃ J, f = Go.Cx.ov J [(0, .slice (some ⟨bl, o, none⟩) N cap), (1, .int .i64 (a : Int)), (9, .int .i64 (i : Int)), (10, .int .i64 (j : Int))]) (a + 1, b - 1, swp d a p) ?_ ?_
    · exact ⟨a + 1, b - 1, _, rfl, Nat.lt_succ_self _, (show a + 1 ≤ b - 1 + 2 by omega), (show b - 1 < N by omega), (show a ≤ b - 1 by omega), rfl, hwI, rfl, kwI, _, ov_mk ⟨rfl, rfl, rfl, congrArg (Value.int .i64) (z1 (show 0 < b by omega)), trivial⟩⟩
    · rintro _ _ _ wL ⟨i, j, dL, rfl, hai, hij, hjN, haj, rfl, hL, hR, kL, J, rfl⟩
      obtain ⟨i2, hi2⟩ : ∃ x, scanUp (fun x => !ltI dL[a]! x) dL j i = x := ⟨_, rfl⟩
      have hqq := su_rng (p := fun x => !ltI dL[a]! x) (d := dL) (j := j) (i := i) (Nat.le_refl _)
      obtain ⟨r1, r2⟩ := hqq
      rw [hi2] at r1 r2
      obtain ⟨j2, hj2⟩ : ∃ x, scanDown (fun x => ltI dL[a]! x) dL i2 j = x := ⟨_, rfl⟩
      have hqq := sd_rng (p := fun x => ltI dL[a]! x) (d := dL) (i := i2) (show 0 < i2 by omega) (j := j)
      obtain ⟨r3, r4⟩ := hqq
      rw [hj2] at r3 r4
      refine WC.block ?_
      refine WC.seq ?_
      refine WC.cut (fun f ds w' => ds = [] ∧ Below wL.heap.size wL w' ∧ ∃ J, f = Go.Cx.ov J [(0, .slice (some ⟨bl, o, none⟩) N cap), (1, .int .i64 (a : Int)), (9, .int .i64 (i2 : Int)), (10, .int .i64 (j : Int))]) ?_ ?_
      · refine WC.block ?_
        refine WC.loop (fun t => j + 1 - t) (fun t f ds w' => i ≤ t ∧ t ≤ j + 2 ∧ scanUp (fun x => !ltI dL[a]! x) dL j t = i2 ∧ ds = [] ∧ Below wL.heap.size wL w' ∧ ∃ J, f = Go.Cx.ov J [(0, .slice (some ⟨bl, o, none⟩) N cap), (1, .int .i64 (a : Int)), (9, .int .i64 (t : Int)), (10, .int .i64 (j : Int))]) i ?_ ?_
        · exact ⟨by omega, by omega, hi2, rfl, Below.refl _ _, _, ov_mk ⟨rfl, rfl, rfl, rfl, trivial⟩⟩
        · rintro t _ _ wY ⟨t1, t2, hF, rfl, kY, J, rfl⟩
          have hY := hL.bel kY
          have hsz := hY.1
          have ja : a < Array.size dL := by omega
          refine WC.seq ?_
          by_cases c1 : t ≤ j
          · have jt : t < Array.size dL := by omega
            by_cases c2 : ¬ (ltI dL[a]! dL[t]! = true)
            · refine WC.seq ?_
              refine WC.regionB (fun i => Nat.beq i 12) [(0, .any), (1, .any), (2, .any), (3, .any), (4, .any), (5, .any), (6, .any), (7, .held), (8, .any), (9, .any), (10, .any), (11, .held), (12, .seq), (13, .any), (14, .any)] mixed (by kernel_rfl) (fun wS hS hheap => ?_)
              refine RL.any rfl rfl (fun _ => Y.move) ?_
              refine RL.any rfl rfl (fun _ => Y.move) ?_
              refine RL.any rfl rfl (fun _ => Y.dT (Y.leq rfl rfl) (by omega)) ?_
              refine RL.any rfl rfl (fun _ => Y.move) ?_
              refine RL.any rfl rfl (fun _ => Y.move) ?_
              refine RL.any rfl rfl (fun _ => Y.move) ?_
              refine RL.yex rfl rfl (Y.idx Try.underlying37 ti22 (by decide) (hY.2.sl) rfl (by omega) (by omega)) ?_
              rintro _ ⟨b35, o35, rfl, hc35⟩
              refine RL.held rfl rfl hS (fun _ hb9 => Y.load1 Try.underlying22 rfl rfl (cell_bel (elemI (by omega) (sr_get ja) hc35) hb9)) ?_
              refine RL.any rfl rfl (fun _ => Y.move) ?_
              refine RL.any rfl rfl (fun _ => Y.move) ?_
              refine RL.yex rfl rfl (Y.idx Try.underlying37 ti22 (by decide) (hY.2.sl) rfl (by omega) (by omega)) ?_
              rintro _ ⟨b39, o39, rfl, hc39⟩
              refine RL.held rfl rfl hS (fun _ hb9 => Y.load1 Try.underlying22 rfl rfl (cell_bel (elemI (by omega) (sr_get jt) hc39) hb9)) ?_
              refine RL.call rfl rfl (C.func go52) (lessF _ _ _ c2) ?_
              rintro _ _ ⟨rfl, rfl⟩
              refine ⟨.inl rfl, ?_⟩
              refine RL.any rfl rfl (fun _ => Y.not rfl) ?_
              refine RL.any rfl rfl (fun _ => Y.pickT rfl) ?_
              refine RL.nil (thenQ.normal ?_)
              refine WC.condT (rfl) ?_
              refine WC.skip (thenQ.normal ?_)
              refine WC.block ?_
              refine WC.region rfl ?_
              refine WL.y rfl (Y.move) ?_
              refine WL.y rfl (Y.add64 rfl rfl (by omega)) ?_
              refine WL.y rfl (Y.assign) ?_
              refine WL.nil (inBlockQ.normal (thenQ.normal ?_))
              exact ⟨t + 1, by omega, by omega, by omega, (su_go c1 (by simp only [Bool.not_eq_true']; simpa using c2)).symm.trans hF, rfl, Below.step kY hS, _, ov_mk ⟨rfl, rfl, rfl, rfl, trivial⟩⟩
            · have hst := (su_stop (fun h => c2 (by simpa using h.2)) : scanUp (fun x => !ltI dL[a]! x) dL j t = t)
              refine WC.seq ?_
              refine WC.regionB (fun i => Nat.beq i 12) [(0, .any), (1, .any), (2, .any), (3, .any), (4, .any), (5, .any), (6, .any), (7, .held), (8, .any), (9, .any), (10, .any), (11, .held), (12, .seq), (13, .any), (14, .any)] mixed (by kernel_rfl) (fun wS hS hheap => ?_)
              refine RL.any rfl rfl (fun _ => Y.move) ?_
              refine RL.any rfl rfl (fun _ => Y.move) ?_
              refine RL.any rfl rfl (fun _ => Y.dT (Y.leq rfl rfl) (by omega)) ?_
              refine RL.any rfl rfl (fun _ => Y.move) ?_
              refine RL.any rfl rfl (fun _ => Y.move) ?_
              refine RL.any rfl rfl (fun _ => Y.move) ?_
              refine RL.yex rfl rfl (Y.idx Try.underlying37 ti22 (by decide) (hY.2.sl) rfl (by omega) (by omega)) ?_
              rintro _ ⟨b35, o35, rfl, hc35⟩
              refine RL.held rfl rfl hS (fun _ hb9 => Y.load1 Try.underlying22 rfl rfl (cell_bel (elemI (by omega) (sr_get ja) hc35) hb9)) ?_
              refine RL.any rfl rfl (fun _ => Y.move) ?_
              refine RL.any rfl rfl (fun _ => Y.move) ?_
              refine RL.yex rfl rfl (Y.idx Try.underlying37 ti22 (by decide) (hY.2.sl) rfl (by omega) (by omega)) ?_
              rintro _ ⟨b39, o39, rfl, hc39⟩
              refine RL.held rfl rfl hS (fun _ hb9 => Y.load1 Try.underlying22 rfl rfl (cell_bel (elemI (by omega) (sr_get jt) hc39) hb9)) ?_
              refine RL.call rfl rfl (C.func go52) (lessT _ _ _ (not_not_true c2)) ?_
              rintro _ _ ⟨rfl, rfl⟩
              refine ⟨.inl rfl, ?_⟩
              refine RL.any rfl rfl (fun _ => Y.not rfl) ?_
              refine RL.any rfl rfl (fun _ => Y.pickT rfl) ?_
              refine RL.nil (thenQ.normal ?_)
              refine WC.condF (rfl) ?_
              refine WC.exit (thenQ.exit (thenQ.exit (inBlockQ.hit (thenQ.normal ?_))))
              exact ⟨rfl, Below.step kY hS, _, ov_mk ⟨rfl, rfl, congrArg (fun q : Nat => Value.int .i64 (q : Int)) (hst.symm.trans hF), rfl, trivial⟩⟩
          · have hst := (su_stop (fun h => c1 h.1) : scanUp (fun x => !ltI dL[a]! x) dL j t = t)
            skip
            refine WC.seq ?_
            refine WC.regionB (fun _ => false) [(0, .any), (1, .any), (2, .any), (3, .any), (4, .any), (5, .any), (6, .any), (7, .held), (8, .any), (9, .any), (10, .any), (11, .held), (12, .any), (13, .any), (14, .any)] mixed (by kernel_rfl) (fun wS hS hheap => ?_)
            refine RL.any rfl rfl (fun _ => Y.move) ?_
            refine RL.any rfl rfl (fun _ => Y.move) ?_
            refine RL.any rfl rfl (fun _ => Y.dF (Y.leq rfl rfl) (by omega)) ?_
            refine RL.any rfl rfl (fun _ => Y.move) ?_
            refine RL.off rfl rfl ?_
            refine RL.off rfl rfl ?_
            refine RL.off rfl rfl ?_
            refine RL.offH rfl rfl hS ?_
            refine RL.off rfl rfl ?_
            refine RL.off rfl rfl ?_
            refine RL.off rfl rfl ?_
            refine RL.offH rfl rfl hS ?_
            refine RL.off rfl rfl ?_
            refine RL.off rfl rfl ?_
            refine RL.any rfl rfl (fun _ => Y.pickF rfl) ?_
            refine RL.nil (thenQ.normal ?_)
            refine WC.condF (rfl) ?_
            refine WC.exit (thenQ.exit (thenQ.exit (inBlockQ.hit (thenQ.normal ?_))))
            exact ⟨rfl, Below.step kY hS, _, ov_mk ⟨rfl, rfl, congrArg (fun q : Nat => Value.int .i64 (q : Int)) (hst.symm.trans hF), rfl, trivial⟩⟩
      · rintro _ _ wC ⟨rfl, kC, J2, rfl⟩
        have hC := hL.bel kC
        refine WC.seq ?_
        refine WC.cut (fun f ds w' => ds = [] ∧ Below wC.heap.size wC w' ∧ ∃ J, f = Go.Cx.ov J [(0, .slice (some ⟨bl, o, none⟩) N cap), (1, .int .i64 (a : Int)), (9, .int .i64 (i2 : Int)), (10, .int .i64 (j2 : Int))]) ?_ ?_
        · refine WC.block ?_
          refine WC.loop (fun t => t) (fun t f ds w' => t ≤ j ∧ i2 ≤ t + 2 ∧ scanDown (fun x => ltI dL[a]! x) dL i2 t = j2 ∧ ds = [] ∧ Below wC.heap.size wC w' ∧ ∃ J, f = Go.Cx.ov J [(0, .slice (some ⟨bl, o, none⟩) N cap), (1, .int .i64 (a : Int)), (9, .int .i64 (i2 : Int)), (10, .int .i64 (t : Int))]) j ?_ ?_
          · exact ⟨by omega, by omega, hj2, rfl, Below.refl _ _, _, ov_mk ⟨rfl, rfl, rfl, rfl, trivial⟩⟩
          · rintro t _ _ wY ⟨t1, t2, hF, rfl, kY, J, rfl⟩
            have hY := hC.bel kY
            have hsz := hY.1
            have ja : a < Array.size dL := by omega
            refine WC.seq ?_
            by_cases c1 : i2 ≤ t
            · have jt : t < Array.size dL := by omega
              by_cases c2 : (ltI dL[a]! dL[t]! = true)
              · refine WC.seq ?_
                refine WC.regionB (fun i => Nat.beq i 12) [(0, .any), (1, .any), (2, .any), (3, .any), (4, .any), (5, .any), (6, .any), (7, .held), (8, .any), (9, .any), (10, .any), (11, .held), (12, .seq), (13, .any)] mixed (by kernel_rfl) (fun wS hS hheap => ?_)
                refine RL.any rfl rfl (fun _ => Y.move) ?_
                refine RL.any rfl rfl (fun _ => Y.move) ?_
                refine RL.any rfl rfl (fun _ => Y.dT (Y.leq rfl rfl) (by omega)) ?_
                refine RL.any rfl rfl (fun _ => Y.move) ?_
                refine RL.any rfl rfl (fun _ => Y.move) ?_
                refine RL.any rfl rfl (fun _ => Y.move) ?_
                refine RL.yex rfl rfl (Y.idx Try.underlying37 ti22 (by decide) (hY.2.sl) rfl (by omega) (by omega)) ?_
                rintro _ ⟨b52, o52, rfl, hc52⟩
                refine RL.held rfl rfl hS (fun _ hb9 => Y.load1 Try.underlying22 rfl rfl (cell_bel (elemI (by omega) (sr_get ja) hc52) hb9)) ?_
                refine RL.any rfl rfl (fun _ => Y.move) ?_
                refine RL.any rfl rfl (fun _ => Y.move) ?_
                refine RL.yex rfl rfl (Y.idx Try.underlying37 ti22 (by decide) (hY.2.sl) rfl (by omega) (by omega)) ?_
                rintro _ ⟨b56, o56, rfl, hc56⟩
                refine RL.held rfl rfl hS (fun _ hb9 => Y.load1 Try.underlying22 rfl rfl (cell_bel (elemI (by omega) (sr_get jt) hc56) hb9)) ?_
                refine RL.call rfl rfl (C.func go52) (lessT _ _ _ c2) ?_
                rintro _ _ ⟨rfl, rfl⟩
                refine ⟨.inl rfl, ?_⟩
                refine RL.any rfl rfl (fun _ => Y.pickT rfl) ?_
                refine RL.nil (thenQ.normal ?_)
                refine WC.condT (rfl) ?_
                refine WC.skip (thenQ.normal ?_)
                refine WC.block ?_
                refine WC.region rfl ?_
                refine WL.y rfl (Y.move) ?_
                refine WL.y rfl (Y.sub64 rfl rfl (by omega)) ?_
                refine WL.y rfl (Y.assign) ?_
                refine WL.nil (inBlockQ.normal (thenQ.normal ?_))
                exact ⟨t - 1, by omega, by omega, by omega, (sd_go c1 (by omega) c2).symm.trans hF, rfl, Below.step kY hS, _, ov_mk ⟨rfl, rfl, rfl, congrArg (Value.int .i64) (z1 (by omega)), trivial⟩⟩
              · have hst := (sd_stop (fun h => c2 h.2) : scanDown (fun x => ltI dL[a]! x) dL i2 t = t)
                refine WC.seq ?_
                refine WC.regionB (fun i => Nat.beq i 12) [(0, .any), (1, .any), (2, .any), (3, .any), (4, .any), (5, .any), (6, .any), (7, .held), (8, .any), (9, .any), (10, .any), (11, .held), (12, .seq), (13, .any)] mixed (by kernel_rfl) (fun wS hS hheap => ?_)
                refine RL.any rfl rfl (fun _ => Y.move) ?_
                refine RL.any rfl rfl (fun _ => Y.move) ?_
                refine RL.any rfl rfl (fun _ => Y.dT (Y.leq rfl rfl) (by omega)) ?_
                refine RL.any rfl rfl (fun _ => Y.move) ?_
                refine RL.any rfl rfl (fun _ => Y.move) ?_
                refine RL.any rfl rfl (fun _ => Y.move) ?_
                refine RL.yex rfl rfl (Y.idx Try.underlying37 ti22 (by decide) (hY.2.sl) rfl (by omega) (by omega)) ?_
                rintro _ ⟨b52, o52, rfl, hc52⟩
                refine RL.held rfl rfl hS (fun _ hb9 => Y.load1 Try.underlying22 rfl rfl (cell_bel (elemI (by omega) (sr_get ja) hc52) hb9)) ?_
                refine RL.any rfl rfl (fun _ => Y.move) ?_
                refine RL.any rfl rfl (fun _ => Y.move) ?_
                refine RL.yex rfl rfl (Y.idx Try.underlying37 ti22 (by decide) (hY.2.sl) rfl (by omega) (by omega)) ?_
                rintro _ ⟨b56, o56, rfl, hc56⟩
                refine RL.held rfl rfl hS (fun _ hb9 => Y.load1 Try.underlying22 rfl rfl (cell_bel (elemI (by omega) (sr_get jt) hc56) hb9)) ?_
                refine RL.call rfl rfl (C.func go52) (lessF _ _ _ c2) ?_
                rintro _ _ ⟨rfl, rfl⟩
                refine ⟨.inl rfl, ?_⟩
                refine RL.any rfl rfl (fun _ => Y.pickT rfl) ?_
                refine RL.nil (thenQ.normal ?_)
                refine WC.condF (rfl) ?_
                refine WC.exit (thenQ.exit (thenQ.exit (inBlockQ.hit (thenQ.normal ?_))))
                exact ⟨rfl, Below.step kY hS, _, ov_mk ⟨rfl, rfl, rfl, congrArg (fun q : Nat => Value.int .i64 (q : Int)) (hst.symm.trans hF), trivial⟩⟩
            · have hst := (sd_stop (fun h => c1 h.1) : scanDown (fun x => ltI dL[a]! x) dL i2 t = t)
              skip
              refine WC.seq ?_
              refine WC.regionB (fun _ => false) [(0, .any), (1, .any), (2, .any), (3, .any), (4, .any), (5, .any), (6, .any), (7, .held), (8, .any), (9, .any), (10, .any), (11, .held), (12, .any), (13, .any)] mixed (by kernel_rfl) (fun wS hS hheap => ?_)
              refine RL.any rfl rfl (fun _ => Y.move) ?_
              refine RL.any rfl rfl (fun _ => Y.move) ?_
              refine RL.any rfl rfl (fun _ => Y.dF (Y.leq rfl rfl) (by omega)) ?_
              refine RL.any rfl rfl (fun _ => Y.move) ?_
              refine RL.off rfl rfl ?_
              refine RL.off rfl rfl ?_
              refine RL.off rfl rfl ?_
              refine RL.offH rfl rfl hS ?_
              refine RL.off rfl rfl ?_
              refine RL.off rfl rfl ?_
              refine RL.off rfl rfl ?_
              refine RL.offH rfl rfl hS ?_
              refine RL.off rfl rfl ?_
              refine RL.any rfl rfl (fun _ => Y.pickF rfl) ?_
              refine RL.nil (thenQ.normal ?_)
              refine WC.condF (rfl) ?_
              refine WC.exit (thenQ.exit (thenQ.exit (inBlockQ.hit (thenQ.normal ?_))))
              exact ⟨rfl, Below.step kY hS, _, ov_mk ⟨rfl, rfl, rfl, congrArg (fun q : Nat => Value.int .i64 (q : Int)) (hst.symm.trans hF), trivial⟩⟩
        · rintro _ _ wD ⟨rfl, kD, J3, rfl⟩
          have hD := hC.bel kD
          have hsD := hD.1
          refine WC.seq ?_
          refine WC.seqR rfl ?_
          refine WL.y rfl (Y.move) ?_
          refine WL.y rfl (Y.move) ?_
          refine WL.y rfl (Y.gtr rfl rfl) ?_
          refine WL.nil ?_
          refine WC.condD rfl (fun h0 => ?_) (fun h0 => ?_)
          · have h0' : j2 < i2 := by omega
            rw [pel_stop hi2 hj2 h0'] at hR
            refine WC.exit (thenQ.exit (inBlockQ.miss rfl (thenQ.exit (inBlockQ.hit (thenQ.normal ?_)))))
            rw [← hR]
            exact ⟨rfl, hD, (kL.bel kC).bel kD, _, ov_mk ⟨rfl, trivial⟩⟩
          · have h0' : i2 ≤ j2 := by omega
            rw [pel_go hi2 hj2 h0' (by omega) (by omega) (by omega)] at hR
            have gx : i2 < dL.size := by omega
            have gy : j2 < dL.size := by omega
            refine WC.skip (thenQ.normal ?_)
            refine WC.seq ?_
            refine WC.regionB (fun i => Nat.beq i 13 || Nat.beq i 15) [(0, .any), (1, .any), (2, .any), (3, .any), (4, .any), (5, .any), (6, .any), (7, .held), (8, .any), (9, .any), (10, .any), (11, .held), (12, .any), (13, .seq), (14, .any), (15, .seq)] mixed (by kernel_rfl) (fun wS8 hS8 hheap => ?_)
            refine RL.any rfl rfl (fun _ => Y.move) ?_
            refine RL.any rfl rfl (fun _ => Y.move) ?_
            refine RL.any rfl rfl (fun _ => Y.move) ?_
            refine RL.any rfl rfl (fun _ => Y.move) ?_
            refine RL.any rfl rfl (fun _ => Y.move) ?_
            refine RL.any rfl rfl (fun _ => Y.move) ?_
            refine RL.yex rfl rfl (Y.idx Try.underlying37 ti22 (by decide) (hD.2.sl) rfl (by omega) (by omega)) ?_
            rintro _ ⟨b71, o71, rfl, hc71⟩
            refine RL.held rfl rfl hS8 (fun _ hb9 => Y.load1 Try.underlying22 rfl rfl (cell_bel (elemI (by omega) (sr_get gy) hc71) hb9)) ?_
            refine RL.any rfl rfl (fun _ => Y.move) ?_
            refine RL.any rfl rfl (fun _ => Y.move) ?_
            refine RL.yex rfl rfl (Y.idx Try.underlying37 ti22 (by decide) (hD.2.sl) rfl (by omega) (by omega)) ?_
            rintro _ ⟨b75, o75, rfl, hc75⟩
            refine RL.held rfl rfl hS8 (fun _ hb9 => Y.load1 Try.underlying22 rfl rfl (cell_bel (elemI (by omega) (sr_get gx) hc75) hb9)) ?_
            refine RL.any rfl rfl (fun _ => Y.idxO (n := N) (cap := cap) (j := i2) Try.underlying37 ti22 rfl rfl rfl (by omega) rfl _) ?_
            refine RL.eex rfl rfl (E.storeK1 (u := ku dL[j2]!) (i := i2) ti22 rfl rfl rfl (hD.2.bel hS8) (by omega) rfl) ?_ ?_
            · exact fun _ _ _ => .inl rfl
            rintro _ wNa ⟨howNa, hgwNa⟩
            refine RL.any rfl rfl (fun _ => Y.idxO (n := N) (cap := cap) (j := j2) Try.underlying37 ti22 rfl rfl rfl (by omega) rfl _) ?_
            refine RL.eex rfl rfl (E.storeK1 (u := ku dL[i2]!) (i := j2) ti22 rfl rfl rfl howNa (by omega) rfl) ?_ ?_
            · exact fun _ _ _ => .inl rfl
            rintro _ wN ⟨howN, hgwN⟩
            have hwN : SR wN bl o N cap (swp dL (i2) (j2)) := SR.swp (i2) (j2) hD.1 howN
            have kwN : Kept (fun x => x = bl) wD wN := ((Kept.of_bel (M := fun x => x = bl) hS8).trans (Kept.of_grown hgwNa rfl)).trans (Kept.of_grown hgwN rfl)
            refine RL.nil (thenQ.normal ?_)
            refine WC.seqR rfl ?_
            refine WL.y rfl (Y.move) ?_
            refine WL.y rfl (Y.add64 rfl rfl (by omega)) ?_
            refine WL.y rfl (Y.assign) ?_
            refine WL.nil ?_
            refine WC.region rfl ?_
            refine WL.y rfl (Y.move) ?_
            refine WL.y rfl (Y.sub64 rfl rfl (by omega)) ?_
            refine WL.y rfl (Y.assign) ?_
            refine WL.nil (inBlockQ.normal (thenQ.normal ?_))
            exact ⟨(i2 + 1, j2 - 1, swp dL i2 j2), (show j2 - 1 + 2 - (i2 + 1) < j + 2 - i by omega), i2 + 1, j2 - 1, swp dL i2 j2, rfl, (by omega), (by omega), (by omega), (by omega), rfl, hwN, hR, ((kL.bel kC).bel kD).trans kwN, _, ov_mk ⟨rfl, rfl, rfl, congrArg (Value.int .i64) (z1 (show 0 < j2 by omega)), trivial⟩⟩
  · rintro _ _ wE ⟨rfl, hE, kE, J, rfl⟩
    refine WC.seqR rfl ?_
    refine WL.y rfl (Y.move) ?_
    refine WL.y rfl (Y.assign) ?_
    refine WL.nil ?_
    refine WC.ret (endQ.one (.inr rfl) ?_)
    exact ⟨rfl, hE, kE⟩
end Go.Proofs.Ytlhhognabmnlmaa
