/-
  slices.Sort at uint64: heapSort, order2, median, medianAdjacent, choosePivot: walks.
-/
import Derived.Test.YtlhhognabmnlmaaSrt1
namespace Go.Proofs.Ytlhhognabmnlmaa
open Go Go.RowKit Go.Cx
set_option linter.unusedVariables false
set_option maxHeartbeats 8000000
open Go.Sort
theorem heapBuild_go {hi a k : Nat} {d : Array Int} (h : 0 < k) : heapBuild ltI hi a k d = heapBuild ltI hi a (k - 1) (siftDown ltI hi a (k - 1) d) := by
  cases k with
  | zero => omega
  | succ k => rfl
theorem heapPop_go {a k : Nat} {d : Array Int} (h : 0 < k) : heapPop ltI a k d = heapPop ltI a (k - 1) (siftDown ltI (k - 1) a 0 (swp d a (a + (k - 1)))) := by
  cases k with
  | zero => omega
  | succ k => rfl
theorem heap_ret {w : World} {bl o N cap : Nat} {d : Array Int} (a b : Nat) (h : SR w bl o N cap d) (hb : b ≤ N) (hN : N ≤ 100000) (hab : a < b) : Ret Try.prog 47 [.slice (some ⟨bl, o, none⟩) N cap, .int .i64 (a : Int), .int .i64 (b : Int)].toArray w fun _ w' => SR w' bl o N cap (heapSort ltI d a b) ∧ Kept (fun x => x = bl) w w' := by
  have e8 : ((b : Int) - (a : Int)) = ((b - a : Nat) : Int) := by omega
  have e9 : ((b : Int) - (a : Int) - 1) / 2 = (((b - a - 1) / 2 : Nat) : Int) := by omega
  refine Ret.of (n := 56) (rs := #[]) Try.func47 rfl rfl rfl (by simp) ?_
  refine WC.seqR rfl ?_
  refine WL.y rfl (Y.move) ?_
  refine WL.y rfl (Y.assign) ?_
  refine WL.nil ?_
  refine WC.seqR rfl ?_
  refine WL.y rfl (Y.assign) ?_
  refine WL.nil ?_
  refine WC.seqR rfl ?_
  refine WL.y rfl (Y.move) ?_
  refine WL.y rfl (Y.move) ?_
  refine WL.y rfl (Y.sub64 rfl rfl (by omega)) ?_
  refine WL.y rfl (Y.assign) ?_
  refine WL.nil ?_
  refine WC.seq ?_
  refine WC.seqR rfl ?_
  refine WL.y rfl (Y.move) ?_
  refine WL.y rfl (Y.sub64 rfl rfl (by omega)) ?_
  refine WL.y rfl (Y.quo64 rfl rfl (by omega) (by omega)) ?_
  refine WL.y rfl (Y.assign) ?_
  refine WL.nil ?_
  refine WC.block ?_
  refine WC.loop (S := Nat × Array Int) (fun q => q.1) (fun q f ds w' => q.1 ≤ b - a ∧ ds = [] ∧ SR w' bl o N cap q.2 ∧ heapBuild ltI (b - a) a q.1 q.2 = heapBuild ltI (b - a) a ((b - a - 1) / 2 + 1) d ∧ Kept (fun x => x = bl) w w' ∧ ∃ z J, z = (q.1 : Int) - 1 ∧ f = Go.Cx.ov J [(0, .slice (some ⟨bl, o, none⟩) N cap), (6, .int .i64 (a : Int)), (7, .int .i64 0), (8, .int .i64 ((b - a : Nat) : Int)), (9, .int .i64 z)]) ((b - a - 1) / 2 + 1, d) ?_ ?_
  · refine ⟨(show (b - a - 1) / 2 + 1 ≤ b - a by omega), rfl, h, rfl, Kept.refl _ _, ((b : Int) - (a : Int) - 1) / 2, _, (show ((b : Int) - (a : Int) - 1) / 2 = (((b - a - 1) / 2 + 1 : Nat) : Int) - 1 by omega), ov_mk ⟨rfl, rfl, rfl, congrArg (Value.int .i64) e8, rfl, trivial⟩⟩
  · rintro ⟨k, dL⟩ _ _ wL ⟨hk, rfl, hL, hR, kL, z, J, hz, rfl⟩
    simp only at hk hL hR hz
    refine WC.seq ?_
    refine WC.seqR rfl ?_
    refine WL.y rfl (Y.move) ?_
    refine WL.y rfl (Y.geq rfl rfl) ?_
    refine WL.nil ?_
    refine WC.condD rfl (fun h0 => ?_) (fun h0 => ?_)
    · have hk0 : 0 < k := by omega
      obtain rfl : z = ((k - 1 : Nat) : Int) := by omega
      rw [heapBuild_go hk0] at hR
      refine WC.skip (thenQ.normal ?_)
      refine WC.seq ?_
      refine WC.block ?_
      refine WC.region rfl ?_
      refine WL.y rfl (Y.move) ?_
      refine WL.y rfl (Y.move) ?_
      refine WL.y rfl (Y.move) ?_
      refine WL.y rfl (Y.move) ?_
      refine WL.call rfl (C.func go57) (sift_ret (k - 1) (b - a) a hL (by omega) hN (by omega)) ?_
      rintro _ w26 ⟨h26, k26⟩
      refine WL.nil (inBlockQ.normal (thenQ.normal ?_))
      refine WC.region rfl ?_
      refine WL.y rfl (Y.move) ?_
      refine WL.y rfl (Y.sub64 rfl rfl (by omega)) ?_
      refine WL.y rfl (Y.assign) ?_
      refine WL.nil (thenQ.normal ?_)
      exact ⟨(k - 1, siftDown ltI (b - a) a (k - 1) dL), (show k - 1 < k by omega), (show k - 1 ≤ b - a by omega), rfl, h26, hR, kL.trans k26, _, _, rfl, ov_mk ⟨rfl, rfl, rfl, rfl, rfl, trivial⟩⟩
    · have hk0 : k = 0 := by omega
      subst hk0
      have hR' : dL = heapBuild ltI (b - a) a ((b - a - 1) / 2 + 1) d := hR
      refine WC.exit (thenQ.exit (thenQ.exit (inBlockQ.hit (thenQ.normal ?_))))
      refine WC.seqR rfl ?_
      refine WL.y rfl (Y.move) ?_
      refine WL.y rfl (Y.sub64 rfl rfl (by omega)) ?_
      refine WL.y rfl (Y.assign) ?_
      refine WL.nil ?_
      refine WC.block ?_
      refine WC.loop (S := Nat × Array Int) (fun q => q.1) (fun q f ds w' => q.1 ≤ b - a ∧ ds = [] ∧ SR w' bl o N cap q.2 ∧ heapPop ltI a q.1 q.2 = heapSort ltI d a b ∧ Kept (fun x => x = bl) w w' ∧ ∃ z J, z = (q.1 : Int) - 1 ∧ f = Go.Cx.ov J [(0, .slice (some ⟨bl, o, none⟩) N cap), (6, .int .i64 (a : Int)), (7, .int .i64 0), (10, .int .i64 z)]) (b - a, dL) ?_ ?_
      · exact ⟨Nat.le_refl _, rfl, hL, (by show heapPop ltI a (b - a) dL = _; rw [hR']; rfl), kL, _, _, rfl, ov_mk ⟨rfl, rfl, rfl, rfl, trivial⟩⟩
      · rintro ⟨k, dM⟩ _ _ wM ⟨hk, rfl, hM, hRM, kM, z2, J2, hz2, rfl⟩
        simp only at hk hM hRM hz2
        have hs := hM.1
        refine WC.seq ?_
        refine WC.seqR rfl ?_
        refine WL.y rfl (Y.move) ?_
        refine WL.y rfl (Y.geq rfl rfl) ?_
        refine WL.nil ?_
        refine WC.condD rfl (fun h1 => ?_) (fun h1 => ?_)
        · have hk0 : 0 < k := by omega
          obtain rfl : z2 = ((k - 1 : Nat) : Int) := by omega
          have i1 : a < dM.size := by omega
          have i2 : a + (k - 1) < dM.size := by omega
          rw [heapPop_go hk0] at hRM
          refine WC.skip (thenQ.normal ?_)
          refine WC.seq ?_
          refine WC.block ?_
          refine WC.seq ?_
          refine WC.regionB (fun i => Nat.beq i 17 || Nat.beq i 19) [(0, .any), (1, .any), (2, .any), (3, .any), (4, .any), (5, .any), (6, .any), (7, .any), (8, .any), (9, .any), (10, .any), (11, .held), (12, .any), (13, .any), (14, .any), (15, .held), (16, .any), (17, .seq), (18, .any), (19, .seq)] mixed (by kernel_rfl) (fun w10x hS10 hheap => ?_)
          refine RL.any rfl rfl (fun _ => Y.move) ?_
          refine RL.any rfl rfl (fun _ => Y.move) ?_
          refine RL.any rfl rfl (fun _ => Y.move) ?_
          refine RL.any rfl rfl (fun _ => Y.move) ?_
          refine RL.any rfl rfl (fun _ => Y.move) ?_
          refine RL.any rfl rfl (fun _ => Y.add64 rfl rfl (by omega)) ?_
          refine RL.any rfl rfl (fun _ => Y.move) ?_
          refine RL.any rfl rfl (fun _ => Y.move) ?_
          refine RL.any rfl rfl (fun _ => Y.move) ?_
          refine RL.any rfl rfl (fun _ => Y.add64 rfl rfl (by omega)) ?_
          refine RL.yex rfl rfl (Y.idx Try.underlying37 ti22 (by decide) (hM.2.sl) rfl (by omega) (by omega)) ?_
          rintro _ ⟨b43, o43, rfl, hc43⟩
          refine RL.held rfl rfl hS10 (fun _ hb9 => Y.load1 Try.underlying22 rfl rfl (cell_bel (elemI (by omega) (sr_get i2) hc43) hb9)) ?_
          refine RL.any rfl rfl (fun _ => Y.move) ?_
          refine RL.any rfl rfl (fun _ => Y.move) ?_
          refine RL.yex rfl rfl (Y.idx Try.underlying37 ti22 (by decide) (hM.2.sl) rfl (by omega) (by omega)) ?_
          rintro _ ⟨b47, o47, rfl, hc47⟩
          refine RL.held rfl rfl hS10 (fun _ hb9 => Y.load1 Try.underlying22 rfl rfl (cell_bel (elemI (by omega) (sr_get i1) hc47) hb9)) ?_
          refine RL.any rfl rfl (fun _ => Y.idxO (n := N) (cap := cap) (j := a) Try.underlying37 ti22 rfl rfl rfl (by omega) rfl _) ?_
          refine RL.eex rfl rfl (E.storeK1 (u := ku dM[a + (k - 1)]!) (i := a) ti22 rfl rfl rfl (hM.2.bel hS10) (by omega) rfl) ?_ ?_
          · exact fun _ _ _ => .inl rfl
          rintro _ w101 ⟨ho101, hg101⟩
          refine RL.any rfl rfl (fun _ => Y.idxO (n := N) (cap := cap) (j := a + (k - 1)) Try.underlying37 ti22 rfl rfl rfl (by omega) rfl _) ?_
          refine RL.eex rfl rfl (E.storeK1 (u := ku dM[a]!) (i := a + (k - 1)) ti22 rfl rfl rfl ho101 (by omega) rfl) ?_ ?_
          · exact fun _ _ _ => .inl rfl
          rintro _ w102 ⟨ho102, hg102⟩
          have hSW : SR w102 bl o N cap (swp dM a (a + (k - 1))) := SR.swp a (a + (k - 1)) hs ho102
          refine RL.nil (thenQ.normal ?_)
          refine WC.region rfl ?_
          refine WL.y rfl (Y.move) ?_
          refine WL.y rfl (Y.move) ?_
          refine WL.y rfl (Y.move) ?_
          refine WL.y rfl (Y.move) ?_
          refine WL.call rfl (C.func go57) (sift_ret 0 (k - 1) a hSW (by omega) hN (by omega)) ?_
          rintro _ w55 ⟨h55, k55⟩
          refine WL.nil (inBlockQ.normal (thenQ.normal ?_))
          refine WC.region rfl ?_
          refine WL.y rfl (Y.move) ?_
          refine WL.y rfl (Y.sub64 rfl rfl (by omega)) ?_
          refine WL.y rfl (Y.assign) ?_
          refine WL.nil (thenQ.normal ?_)
          exact ⟨(k - 1, siftDown ltI (k - 1) a 0 (swp dM a (a + (k - 1)))), (show k - 1 < k by omega), (show k - 1 ≤ b - a by omega), rfl, h55, hRM, (((kM.bel hS10).trans (Kept.of_grown hg101 rfl)).trans (Kept.of_grown hg102 rfl)).trans k55, _, _, rfl, ov_mk ⟨rfl, rfl, rfl, rfl, trivial⟩⟩
        · have hk0 : k = 0 := by omega
          subst hk0
          have hR2 : dM = heapSort ltI d a b := hRM
          refine WC.exit (thenQ.exit (thenQ.exit (inBlockQ.hit (endQ.zero (.inl rfl) ?_))))
          rw [← hR2]
          exact ⟨hM, kM⟩
theorem SR.off {w : World} {bl o N cap s : Nat} {d : Array Int} {vs : List Value} (h : SR w bl o N cap d) (hN : 0 < N) (hs : Blk w s 3 vs) : s ≠ bl := fun e => by
  subst e
  rcases h.2.2 with ⟨_, h0⟩ | ⟨_, _, cur, _, hb, _⟩
  · omega
  · unfold Blk at hs
    rw [hb] at hs
    simp only [Option.some.injEq, Obj.cells.injEq] at hs
    exact absurd hs.2.1 (by decide)
theorem SR.keep {w w' : World} {bl o N cap s : Nat} {d : Array Int} (h : SR w bl o N cap d) (hk : Kept (fun x => x = s) w w') (hne : s ≠ bl) : SR w' bl o N cap d := ⟨h.1, h.2.kept hk (fun e => hne e.symm)⟩
/-- what order2 tells of, and leaves -/
def O2 (w : World) (s : Nat) (p : Nat × Nat × Nat) (v : Value) (w' : World) : Prop := v = .tuple #[.int .i64 (p.1 : Int), .int .i64 (p.2.1 : Int)] ∧ Blk w' s 3 [.int .i64 (p.2.2 : Int)] ∧ Kept (fun x => x = s) w w'
theorem order2_ret {w : World} {bl o N cap s : Nat} {d : Array Int} (a b sw : Nat) {za zb : Int} (ea : za = (a : Int)) (eb : zb = (b : Int)) (h : SR w bl o N cap d) (hs : Blk w s 3 [.int .i64 (sw : Int)]) (ha : a < N) (hb : b < N) (hw : sw ≤ 1000) : Ret Try.prog 63 [.slice (some ⟨bl, o, none⟩) N cap, .int .i64 za, .int .i64 zb, .pointer (some ⟨s, 0, none⟩)].toArray w (O2 w s (order2 ltI d a b sw)) := by
  subst ea eb
  have hs1 := h.1
  have i1 : a < d.size := by omega
  have i2 : b < d.size := by omega
  refine Ret.of (n := 28) (rs := #[.tmp 8, .tmp 9]) Try.func63 rfl rfl rfl (by simp) ?_
  refine WC.seqR rfl ?_
  refine WL.y rfl (Y.assign) ?_
  refine WL.y rfl (Y.assign) ?_
  refine WL.nil ?_
  refine WC.seq ?_
  by_cases c : ltI d[b]! d[a]! = true
  · have e : order2 ltI d a b sw = (b, a, sw + 1) := by unfold order2; rw [if_pos c]
    rw [e]
    refine WC.seq ?_
    refine WC.regionB (fun i => Nat.beq i 8) [(0, .any), (1, .any), (2, .any), (3, .held), (4, .any), (5, .any), (6, .any), (7, .held), (8, .seq)] mixed (by kernel_rfl) (fun w1x hS1 hheap => ?_)
    refine RL.any rfl rfl (fun _ => Y.move) ?_
    refine RL.any rfl rfl (fun _ => Y.move) ?_
    refine RL.yex rfl rfl (Y.idx Try.underlying37 ti22 (by decide) (h.2.sl) rfl (by omega) (by omega)) ?_
    rintro _ ⟨b12, o12, rfl, hc12⟩
    refine RL.held rfl rfl hS1 (fun _ hb9 => Y.load1 Try.underlying22 rfl rfl (cell_bel (elemI (by omega) (sr_get i2) hc12) hb9)) ?_
    refine RL.any rfl rfl (fun _ => Y.move) ?_
    refine RL.any rfl rfl (fun _ => Y.move) ?_
    refine RL.yex rfl rfl (Y.idx Try.underlying37 ti22 (by decide) (h.2.sl) rfl (by omega) (by omega)) ?_
    rintro _ ⟨b16, o16, rfl, hc16⟩
    refine RL.held rfl rfl hS1 (fun _ hb9 => Y.load1 Try.underlying22 rfl rfl (cell_bel (elemI (by omega) (sr_get i1) hc16) hb9)) ?_
    refine RL.call rfl rfl (C.func go52) (lessT _ _ _ c) ?_
    rintro _ _ ⟨rfl, rfl⟩
    refine ⟨.inl rfl, ?_⟩
    refine RL.nil (thenQ.normal ?_)
    refine WC.condT (rfl) ?_
    refine WC.seqR rfl ?_
    refine WL.y rfl (Y.move) ?_
    refine WL.y rfl (Y.nilCheck rfl) ?_
    refine WL.y rfl (Y.load1 Try.underlying3 rfl rfl ((hs.bel hS1).cell 0)) ?_
    refine WL.y rfl (Y.add64 rfl rfl (by omega)) ?_
    refine WL.y rfl (Y.nilCheck rfl) ?_
    refine WL.eex rfl (E.storeX (u := .int .i64 ((sw + 1 : Nat) : Int)) ti3 rfl rfl rfl (hs.bel hS1) (by simp)) ?_
    rintro _ w2 ⟨hB2, hg2, -⟩
    refine WL.nil ?_
    refine WC.seqR rfl ?_
    refine WL.y rfl (Y.move) ?_
    refine WL.y rfl (Y.move) ?_
    refine WL.y rfl (Y.assign) ?_
    refine WL.y rfl (Y.assign) ?_
    refine WL.nil ?_
    refine WC.ret (thenQ.ret (endQ.two (.inr rfl) ?_))
    exact ⟨rfl, hB2, (Kept.of_bel hS1).trans (Kept.of_grown hg2 rfl)⟩
  · have e : order2 ltI d a b sw = (a, b, sw) := by unfold order2; rw [if_neg c]
    rw [e]
    skip
    refine WC.seq ?_
    refine WC.regionB (fun i => Nat.beq i 8) [(0, .any), (1, .any), (2, .any), (3, .held), (4, .any), (5, .any), (6, .any), (7, .held), (8, .seq)] mixed (by kernel_rfl) (fun w1x hS1 hheap => ?_)
    refine RL.any rfl rfl (fun _ => Y.move) ?_
    refine RL.any rfl rfl (fun _ => Y.move) ?_
    refine RL.yex rfl rfl (Y.idx Try.underlying37 ti22 (by decide) (h.2.sl) rfl (by omega) (by omega)) ?_
    rintro _ ⟨b12, o12, rfl, hc12⟩
    refine RL.held rfl rfl hS1 (fun _ hb9 => Y.load1 Try.underlying22 rfl rfl (cell_bel (elemI (by omega) (sr_get i2) hc12) hb9)) ?_
    refine RL.any rfl rfl (fun _ => Y.move) ?_
    refine RL.any rfl rfl (fun _ => Y.move) ?_
    refine RL.yex rfl rfl (Y.idx Try.underlying37 ti22 (by decide) (h.2.sl) rfl (by omega) (by omega)) ?_
    rintro _ ⟨b16, o16, rfl, hc16⟩
    refine RL.held rfl rfl hS1 (fun _ hb9 => Y.load1 Try.underlying22 rfl rfl (cell_bel (elemI (by omega) (sr_get i1) hc16) hb9)) ?_
    refine RL.call rfl rfl (C.func go52) (lessF _ _ _ c) ?_
    rintro _ _ ⟨rfl, rfl⟩
    refine ⟨.inl rfl, ?_⟩
    refine RL.nil (thenQ.normal ?_)
    refine WC.condF (rfl) ?_
    refine WC.skip (thenQ.normal ?_)
    refine WC.seqR rfl ?_
    refine WL.y rfl (Y.move) ?_
    refine WL.y rfl (Y.move) ?_
    refine WL.y rfl (Y.assign) ?_
    refine WL.y rfl (Y.assign) ?_
    refine WL.nil ?_
    refine WC.ret (endQ.two (.inr rfl) ?_)
    exact ⟨rfl, hs.bel hS1, Kept.of_bel hS1⟩
theorem order2_lt {d : Array Int} {a b sw N : Nat} (ha : a < N) (hb : b < N) : (order2 ltI d a b sw).1 < N ∧ (order2 ltI d a b sw).2.1 < N ∧ (order2 ltI d a b sw).2.2 ≤ sw + 1 := by
  unfold order2
  split
  · exact ⟨hb, ha, Nat.le_refl _⟩
  · exact ⟨ha, hb, Nat.le_succ _⟩
theorem median_ret {w : World} {bl o N cap s : Nat} {d : Array Int} (a b c sw : Nat) {za zb zc : Int} (ea : za = (a : Int)) (eb : zb = (b : Int)) (ec : zc = (c : Int)) (h : SR w bl o N cap d) (hs : Blk w s 3 [.int .i64 (sw : Int)]) (ha : a < N) (hb : b < N) (hc : c < N) (hw : sw ≤ 900) : Ret Try.prog 61 [.slice (some ⟨bl, o, none⟩) N cap, .int .i64 za, .int .i64 zb, .int .i64 zc, .pointer (some ⟨s, 0, none⟩)].toArray w fun v w' => v = .int .i64 ((median ltI d a b c sw).1 : Int) ∧ Blk w' s 3 [.int .i64 ((median ltI d a b c sw).2 : Int)] ∧ Kept (fun x => x = s) w w' := by
  subst ea eb ec
  have hne := h.off (by omega) hs
  have hqq := order2_lt (d := d) (sw := sw) ha hb
  obtain ⟨b11, b12, b13⟩ := hqq
  have hqq := order2_lt (d := d) (sw := (order2 ltI d a b sw).2.2) b12 hc
  obtain ⟨b21, b22, b23⟩ := hqq
  refine Ret.of (n := 36) (rs := #[.tmp 10]) Try.func61 rfl rfl rfl (by simp) ?_
  refine WC.seqR rfl ?_
  refine WL.y rfl (Y.assign) ?_
  refine WL.nil ?_
  refine WC.seqR rfl ?_
  refine WL.y rfl (Y.move) ?_
  refine WL.y rfl (Y.move) ?_
  refine WL.y rfl (Y.move) ?_
  refine WL.y rfl (Y.move) ?_
  refine WL.call rfl (C.func go63) (order2_ret a b sw rfl rfl h hs ha hb (by omega)) ?_
  rintro _ w16 ⟨rfl, h16, k16⟩
  refine WL.y rfl (Y.move) ?_
  refine WL.y rfl (Y.extract rfl rfl) ?_
  refine WL.y rfl (Y.extract rfl rfl) ?_
  refine WL.y rfl (Y.assign) ?_
  refine WL.y rfl (Y.assign) ?_
  refine WL.nil ?_
  refine WC.seqR rfl ?_
  refine WL.y rfl (Y.move) ?_
  refine WL.y rfl (Y.move) ?_
  refine WL.y rfl (Y.move) ?_
  refine WL.y rfl (Y.move) ?_
  refine WL.call rfl (C.func go63) (order2_ret _ c _ rfl rfl (h.keep k16 hne) h16 b12 hc (by omega)) ?_
  rintro _ w24 ⟨rfl, h24, k24⟩
  refine WL.y rfl (Y.move) ?_
  refine WL.y rfl (Y.extract rfl rfl) ?_
  refine WL.y rfl (Y.extract rfl rfl) ?_
  refine WL.y rfl (Y.assign) ?_
  refine WL.y rfl (Y.assign) ?_
  refine WL.nil ?_
  refine WC.seqR rfl ?_
  refine WL.y rfl (Y.move) ?_
  refine WL.y rfl (Y.move) ?_
  refine WL.y rfl (Y.move) ?_
  refine WL.y rfl (Y.move) ?_
  refine WL.call rfl (C.func go63) (order2_ret _ _ _ rfl rfl ((h.keep k16 hne).keep k24 hne) h24 b11 b21 (by omega)) ?_
  rintro _ w32 ⟨rfl, h32, k32⟩
  refine WL.y rfl (Y.move) ?_
  refine WL.y rfl (Y.extract rfl rfl) ?_
  refine WL.y rfl (Y.extract rfl rfl) ?_
  refine WL.y rfl (Y.assign) ?_
  refine WL.y rfl (Y.assign) ?_
  refine WL.nil ?_
  refine WC.seqR rfl ?_
  refine WL.y rfl (Y.move) ?_
  refine WL.y rfl (Y.assign) ?_
  refine WL.nil ?_
  refine WC.ret (endQ.one (.inr rfl) ?_)
  exact ⟨rfl, h32, (k16.trans k24).trans k32⟩
end Go.Proofs.Ytlhhognabmnlmaa
