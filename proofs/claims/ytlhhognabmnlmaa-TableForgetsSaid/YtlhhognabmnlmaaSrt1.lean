/-
  slices.Sort at uint64: reverseRange, siftDown, heapSort: walks.
-/
import Derived.Test.YtlhhognabmnlmaaSrt0
namespace Go.Proofs.Ytlhhognabmnlmaa
open Go Go.RowKit Go.Cx
set_option linter.unusedVariables false
set_option maxHeartbeats 8000000
open Go.Sort
theorem rev_ret {w : World} {bl o N cap : Nat} {d : Array Int} (a b : Nat) (h : SR w bl o N cap d) (hb : b ≤ N) (hN : N ≤ 100000) (hab : a < b) : Ret Try.prog 50 [.slice (some ⟨bl, o, none⟩) N cap, .int .i64 (a : Int), .int .i64 (b : Int)].toArray w fun _ w' => SR w' bl o N cap (reverseRange d a b) ∧ Kept (fun x => x = bl) w w' := by
  refine Ret.of (n := 32) (rs := #[]) Try.func50 rfl rfl rfl (by simp) ?_
  refine WC.seqR rfl ?_
  refine WL.y rfl (Y.move) ?_
  refine WL.y rfl (Y.assign) ?_
  refine WL.nil ?_
  refine WC.seqR rfl ?_
  refine WL.y rfl (Y.move) ?_
  refine WL.y rfl (Y.sub64 rfl rfl (by omega)) ?_
  refine WL.y rfl (Y.assign) ?_
  refine WL.nil ?_
  refine WC.block ?_
  refine WC.loop (S := Nat × Nat × Array Int) (fun q => q.2.1 - q.1) (fun q f ds w' => ∃ i j dL, q = (i, j, dL) ∧ j < N ∧ ds = [] ∧ SR w' bl o N cap dL ∧ reverseLoop i j dL = reverseRange d a b ∧ Kept (fun x => x = bl) w w' ∧ ∃ J, f = Go.Cx.ov J [(0, .slice (some ⟨bl, o, none⟩) N cap), (6, .int .i64 (i : Int)), (7, .int .i64 (j : Int))]) (a, b - 1, d) ?_ ?_
  · exact ⟨a, b - 1, d, rfl, (show b - 1 < N by omega), rfl, h, rfl, Kept.refl _ _, _, ov_mk ⟨rfl, rfl, congrArg (Value.int .i64) (z1 (show 0 < b by omega)), trivial⟩⟩
  · rintro _ _ _ wL ⟨i, j, dL, rfl, hj, rfl, hL, hR, kL, J, rfl⟩
    have hs := hL.1
    refine WC.seq ?_
    refine WC.seqR rfl ?_
    refine WL.y rfl (Y.move) ?_
    refine WL.y rfl (Y.move) ?_
    refine WL.y rfl (Y.lss rfl rfl) ?_
    refine WL.nil ?_
    refine WC.condD rfl (fun h0 => ?_) (fun h0 => ?_)
    · have hij : i < j := by omega
      have hi1 : i < dL.size := by omega
      have hj1 : j < dL.size := by omega
      rw [reverseLoop, if_pos hij] at hR
      refine WC.skip (thenQ.normal ?_)
      refine WC.block ?_
      refine WC.seq ?_
      refine WC.regionB (fun i => Nat.beq i 13 || Nat.beq i 15) [(0, .any), (1, .any), (2, .any), (3, .any), (4, .any), (5, .any), (6, .any), (7, .held), (8, .any), (9, .any), (10, .any), (11, .held), (12, .any), (13, .seq), (14, .any), (15, .seq)] mixed (by kernel_rfl) (fun w3x hS3 hheap => ?_)
      refine RL.any rfl rfl (fun _ => Y.move) ?_
      refine RL.any rfl rfl (fun _ => Y.move) ?_
      refine RL.any rfl rfl (fun _ => Y.move) ?_
      refine RL.any rfl rfl (fun _ => Y.move) ?_
      refine RL.any rfl rfl (fun _ => Y.move) ?_
      refine RL.any rfl rfl (fun _ => Y.move) ?_
      refine RL.yex rfl rfl (Y.idx Try.underlying37 ti22 (by decide) (hL.2.sl) rfl (by omega) (by omega)) ?_
      rintro _ ⟨b20, o20, rfl, hc20⟩
      refine RL.held rfl rfl hS3 (fun _ hb9 => Y.load1 Try.underlying22 rfl rfl (cell_bel (elemI (by omega) (sr_get hj1) hc20) hb9)) ?_
      refine RL.any rfl rfl (fun _ => Y.move) ?_
      refine RL.any rfl rfl (fun _ => Y.move) ?_
      refine RL.yex rfl rfl (Y.idx Try.underlying37 ti22 (by decide) (hL.2.sl) rfl (by omega) (by omega)) ?_
      rintro _ ⟨b24, o24, rfl, hc24⟩
      refine RL.held rfl rfl hS3 (fun _ hb9 => Y.load1 Try.underlying22 rfl rfl (cell_bel (elemI (by omega) (sr_get hi1) hc24) hb9)) ?_
      refine RL.any rfl rfl (fun _ => Y.idxO (n := N) (cap := cap) (j := i) Try.underlying37 ti22 rfl rfl rfl (by omega) rfl _) ?_
      refine RL.eex rfl rfl (E.storeK1 (u := ku dL[j]!) (i := i) ti22 rfl rfl rfl (hL.2.bel hS3) (by omega) rfl) ?_ ?_
      · exact fun _ _ _ => .inl rfl
      rintro _ w31 ⟨ho31, hg31⟩
      refine RL.any rfl rfl (fun _ => Y.idxO (n := N) (cap := cap) (j := j) Try.underlying37 ti22 rfl rfl rfl (by omega) rfl _) ?_
      refine RL.eex rfl rfl (E.storeK1 (u := ku dL[i]!) (i := j) ti22 rfl rfl rfl ho31 (by omega) rfl) ?_ ?_
      · exact fun _ _ _ => .inl rfl
      rintro _ w32 ⟨ho32, hg32⟩
      refine RL.nil (thenQ.normal ?_)
      refine WC.seqR rfl ?_
      refine WL.y rfl (Y.move) ?_
      refine WL.y rfl (Y.add64 rfl rfl (by omega)) ?_
      refine WL.y rfl (Y.assign) ?_
      refine WL.nil ?_
      refine WC.region rfl ?_
      refine WL.y rfl (Y.move) ?_
      refine WL.y rfl (Y.sub64 rfl rfl (by omega)) ?_
      refine WL.y rfl (Y.assign) ?_
      refine WL.nil (inBlockQ.normal (thenQ.normal ?_))
      exact ⟨(i + 1, j - 1, swp dL i j), (show j - 1 - (i + 1) < j - i by omega), i + 1, j - 1, swp dL i j, rfl, (show j - 1 < N by omega), rfl, SR.swp i j hs ho32, hR, ((kL.bel hS3).trans (Kept.of_grown hg31 rfl)).trans (Kept.of_grown hg32 rfl), _, ov_mk ⟨rfl, rfl, congrArg (Value.int .i64) (z1 (show 0 < j by omega)), trivial⟩⟩
    · have hij : ¬ i < j := by omega
      rw [reverseLoop, if_neg hij] at hR
      refine WC.exit (thenQ.exit (thenQ.exit (inBlockQ.hit (endQ.zero (.inl rfl) ?_))))
      rw [← hR]
      exact ⟨hL, kL⟩
/-- which child is taken -/
def chi (hi first r : Nat) (d : Array Int) : Nat := if 2 * r + 2 < hi ∧ ltI d[first + (2 * r + 1)]! d[first + (2 * r + 2)]! = true then 2 * r + 2 else 2 * r + 1
theorem sift_stop {hi first r : Nat} {d : Array Int} (h : hi ≤ 2 * r + 1) : siftDown ltI hi first r d = d := by rw [siftDown, dif_pos h]
theorem sift_step {hi first r : Nat} {d : Array Int} (h : 2 * r + 1 < hi) : siftDown ltI hi first r d = if ltI d[first + r]! d[first + chi hi first r d]! = true then siftDown ltI hi first (chi hi first r d) (swp d (first + r) (first + chi hi first r d)) else d := by
  rw [siftDown, dif_neg (by omega)]
  unfold chi
  by_cases c : 2 * r + 2 < hi ∧ ltI d[first + (2 * r + 1)]! d[first + (2 * r + 2)]! = true
  · rw [if_pos c]
    have e : (decide (2 * r + 1 + 1 < hi) && ltI d[first + (2 * r + 1)]! d[first + (2 * r + 1) + 1]!) = true := by
      rw [Bool.and_eq_true]
      exact ⟨by simpa using c.1, c.2⟩
    rw [if_pos e]
    cases ltI d[first + r]! d[first + (2 * r + 2)]! with
    | true => simp [c.1]
    | false => simp
  · rw [if_neg c]
    have e : ¬ (decide (2 * r + 1 + 1 < hi) && ltI d[first + (2 * r + 1)]! d[first + (2 * r + 1) + 1]!) = true := by
      rw [Bool.and_eq_true]
      exact fun h => c ⟨by simpa using h.1, h.2⟩
    rw [if_neg e]
    cases ltI d[first + r]! d[first + (2 * r + 1)]! with
    | true => simp
    | false => simp
theorem chi_lt {hi first r : Nat} {d : Array Int} (h : 2 * r + 1 < hi) : chi hi first r d < hi ∧ r < chi hi first r d := by
  unfold chi
  split <;> omega
theorem sift_ret {w : World} {bl o N cap : Nat} {d : Array Int} (lo hi first : Nat) (h : SR w bl o N cap d) (hb : first + hi ≤ N) (hN : N ≤ 100000) (hlo : lo ≤ hi) : Ret Try.prog 57 [.slice (some ⟨bl, o, none⟩) N cap, .int .i64 (lo : Int), .int .i64 (hi : Int), .int .i64 (first : Int)].toArray w fun _ w' => SR w' bl o N cap (siftDown ltI hi first lo d) ∧ Kept (fun x => x = bl) w w' := by
  refine Ret.of (n := 76) (rs := #[]) Try.func57 rfl rfl rfl (by simp) ?_
  refine WC.seqR rfl ?_
  refine WL.y rfl (Y.move) ?_
  refine WL.y rfl (Y.assign) ?_
  refine WL.nil ?_
  refine WC.block ?_
  refine WC.loop (S := Nat × Array Int) (fun q => hi - q.1) (fun q f ds w' => q.1 ≤ hi ∧ ds = [] ∧ SR w' bl o N cap q.2 ∧ siftDown ltI hi first q.1 q.2 = siftDown ltI hi first lo d ∧ Kept (fun x => x = bl) w w' ∧ ∃ J, f = Go.Cx.ov J [(0, .slice (some ⟨bl, o, none⟩) N cap), (2, .int .i64 (hi : Int)), (3, .int .i64 (first : Int)), (8, .int .i64 (q.1 : Int))]) (lo, d) ?_ ?_
  · exact ⟨hlo, rfl, h, rfl, Kept.refl _ _, _, ov_mk ⟨rfl, rfl, rfl, rfl, trivial⟩⟩
  · rintro ⟨r, dL⟩ _ _ wL ⟨hr, rfl, hL, hR, kL, J, rfl⟩
    simp only at hr hL hR
    have hs := hL.1
    refine WC.block ?_
    refine WC.seqR rfl ?_
    refine WL.y rfl (Y.move) ?_
    refine WL.y rfl (Y.mul64 rfl rfl (by omega)) ?_
    refine WL.y rfl (Y.add64 rfl rfl (by omega)) ?_
    refine WL.y rfl (Y.assign) ?_
    refine WL.nil ?_
    refine WC.seq ?_
    refine WC.seqR rfl ?_
    refine WL.y rfl (Y.move) ?_
    refine WL.y rfl (Y.move) ?_
    refine WL.y rfl (Y.geq rfl rfl) ?_
    refine WL.nil ?_
    refine WC.condD rfl (fun h0 => ?_) (fun h0 => ?_)
    · have e0 : hi ≤ 2 * r + 1 := by simp only at h0; omega
      rw [sift_stop e0] at hR
      refine WC.exit (thenQ.exit (inBlockQ.miss rfl (thenQ.exit (inBlockQ.hit (endQ.zero (.inl rfl) ?_)))))
      rw [← hR]
      exact ⟨hL, kL⟩
    · have e0 : 2 * r + 1 < hi := by simp only at h0; omega
      rw [sift_step e0] at hR
      have hqq := chi_lt (first := first) (d := dL) e0
      obtain ⟨hc1, hc2⟩ := hqq
      have i1 : first + (2 * r + 1) < dL.size := by omega
      have i3 : first + r < dL.size := by omega
      have i4 : first + chi hi first r dL < dL.size := by omega
      refine WC.skip (thenQ.normal ?_)
      refine WC.seq ?_
      refine WC.cut (fun f ds w' => ds = [] ∧ Below wL.heap.size wL w' ∧ ∃ J, f = Go.Cx.ov J [(0, .slice (some ⟨bl, o, none⟩) N cap), (2, .int .i64 (hi : Int)), (3, .int .i64 (first : Int)), (8, .int .i64 (r : Int)), (9, .int .i64 ((chi hi first r dL : Nat) : Int))]) ?_ ?_
      · skip
        by_cases c1 : 2 * r + 2 < hi
        · have i2 : first + (2 * r + 2) < dL.size := by omega
          by_cases c2 : ltI dL[first + (2 * r + 1)]! dL[first + (2 * r + 2)]! = true
          · have ec : chi hi first r dL = 2 * r + 2 := by unfold chi; rw [if_pos ⟨c1, c2⟩]
            refine WC.seq ?_
            refine WC.regionB (fun i => Nat.beq i 18) [(0, .any), (1, .any), (2, .any), (3, .any), (4, .any), (5, .any), (6, .any), (7, .any), (8, .any), (9, .any), (10, .held), (11, .any), (12, .any), (13, .any), (14, .any), (15, .any), (16, .any), (17, .held), (18, .seq), (19, .any)] mixed (by kernel_rfl) (fun w3x hS3 hheap => ?_)
            refine RL.any rfl rfl (fun _ => Y.move) ?_
            refine RL.any rfl rfl (fun _ => Y.add64 rfl rfl (by omega)) ?_
            refine RL.any rfl rfl (fun _ => Y.move) ?_
            refine RL.any rfl rfl (fun _ => Y.dT (Y.lss rfl rfl) (by omega)) ?_
            refine RL.any rfl rfl (fun _ => Y.move) ?_
            refine RL.any rfl rfl (fun _ => Y.move) ?_
            refine RL.any rfl rfl (fun _ => Y.move) ?_
            refine RL.any rfl rfl (fun _ => Y.move) ?_
            refine RL.any rfl rfl (fun _ => Y.add64 rfl rfl (by omega)) ?_
            refine RL.yex rfl rfl (Y.idx Try.underlying37 ti22 (by decide) (hL.2.sl) rfl (by omega) (by omega)) ?_
            rintro _ ⟨b26, o26, rfl, hc26⟩
            refine RL.held rfl rfl hS3 (fun _ hb9 => Y.load1 Try.underlying22 rfl rfl (cell_bel (elemI (by omega) (sr_get i1) hc26) hb9)) ?_
            refine RL.any rfl rfl (fun _ => Y.move) ?_
            refine RL.any rfl rfl (fun _ => Y.move) ?_
            refine RL.any rfl rfl (fun _ => Y.move) ?_
            refine RL.any rfl rfl (fun _ => Y.add64 rfl rfl (by omega)) ?_
            refine RL.any rfl rfl (fun _ => Y.add64 rfl rfl (by omega)) ?_
            refine RL.yex rfl rfl (Y.idx Try.underlying37 ti22 (by decide) (hL.2.sl) rfl (by omega) (by omega)) ?_
            rintro _ ⟨b33, o33, rfl, hc33⟩
            refine RL.held rfl rfl hS3 (fun _ hb9 => Y.load1 Try.underlying22 rfl rfl (cell_bel (elemI (by omega) (sr_get i2) hc33) hb9)) ?_
            refine RL.call rfl rfl (C.func go52) (lessT _ _ _ c2) ?_
            rintro _ _ ⟨rfl, rfl⟩
            refine ⟨.inl rfl, ?_⟩
            refine RL.any rfl rfl (fun _ => Y.pickT rfl) ?_
            refine RL.nil (thenQ.normal ?_)
            refine WC.condT (rfl) ?_
            refine WC.region rfl ?_
            refine WL.y rfl (Y.move) ?_
            refine WL.y rfl (Y.add64 rfl rfl (by omega)) ?_
            refine WL.y rfl (Y.assign) ?_
            refine WL.nil (thenQ.normal ?_)
            exact ⟨rfl, hS3, _, ov_mk ⟨rfl, rfl, rfl, rfl, (show Value.int .i64 (2 * (r : Int) + 1 + 1) = _ by rw [ec]; congr 1), trivial⟩⟩
          · have ec : chi hi first r dL = 2 * r + 1 := by unfold chi; rw [if_neg (fun h => c2 h.2)]
            refine WC.seq ?_
            refine WC.regionB (fun i => Nat.beq i 18) [(0, .any), (1, .any), (2, .any), (3, .any), (4, .any), (5, .any), (6, .any), (7, .any), (8, .any), (9, .any), (10, .held), (11, .any), (12, .any), (13, .any), (14, .any), (15, .any), (16, .any), (17, .held), (18, .seq), (19, .any)] mixed (by kernel_rfl) (fun w3x hS3 hheap => ?_)
            refine RL.any rfl rfl (fun _ => Y.move) ?_
            refine RL.any rfl rfl (fun _ => Y.add64 rfl rfl (by omega)) ?_
            refine RL.any rfl rfl (fun _ => Y.move) ?_
            refine RL.any rfl rfl (fun _ => Y.dT (Y.lss rfl rfl) (by omega)) ?_
            refine RL.any rfl rfl (fun _ => Y.move) ?_
            refine RL.any rfl rfl (fun _ => Y.move) ?_
            refine RL.any rfl rfl (fun _ => Y.move) ?_
            refine RL.any rfl rfl (fun _ => Y.move) ?_
            refine RL.any rfl rfl (fun _ => Y.add64 rfl rfl (by omega)) ?_
            refine RL.yex rfl rfl (Y.idx Try.underlying37 ti22 (by decide) (hL.2.sl) rfl (by omega) (by omega)) ?_
            rintro _ ⟨b26, o26, rfl, hc26⟩
            refine RL.held rfl rfl hS3 (fun _ hb9 => Y.load1 Try.underlying22 rfl rfl (cell_bel (elemI (by omega) (sr_get i1) hc26) hb9)) ?_
            refine RL.any rfl rfl (fun _ => Y.move) ?_
            refine RL.any rfl rfl (fun _ => Y.move) ?_
            refine RL.any rfl rfl (fun _ => Y.move) ?_
            refine RL.any rfl rfl (fun _ => Y.add64 rfl rfl (by omega)) ?_
            refine RL.any rfl rfl (fun _ => Y.add64 rfl rfl (by omega)) ?_
            refine RL.yex rfl rfl (Y.idx Try.underlying37 ti22 (by decide) (hL.2.sl) rfl (by omega) (by omega)) ?_
            rintro _ ⟨b33, o33, rfl, hc33⟩
            refine RL.held rfl rfl hS3 (fun _ hb9 => Y.load1 Try.underlying22 rfl rfl (cell_bel (elemI (by omega) (sr_get i2) hc33) hb9)) ?_
            refine RL.call rfl rfl (C.func go52) (lessF _ _ _ c2) ?_
            rintro _ _ ⟨rfl, rfl⟩
            refine ⟨.inl rfl, ?_⟩
            refine RL.any rfl rfl (fun _ => Y.pickT rfl) ?_
            refine RL.nil (thenQ.normal ?_)
            refine WC.condF (rfl) ?_
            refine WC.skip (thenQ.normal ?_)
            exact ⟨rfl, hS3, _, ov_mk ⟨rfl, rfl, rfl, rfl, (show Value.int .i64 (2 * (r : Int) + 1) = _ by rw [ec]; congr 1), trivial⟩⟩
        · have ec : chi hi first r dL = 2 * r + 1 := by unfold chi; rw [if_neg (fun h => c1 h.1)]
          skip
          refine WC.seq ?_
          refine WC.regionB (fun _ => false) [(0, .any), (1, .any), (2, .any), (3, .any), (4, .any), (5, .any), (6, .any), (7, .any), (8, .any), (9, .any), (10, .held), (11, .any), (12, .any), (13, .any), (14, .any), (15, .any), (16, .any), (17, .held), (18, .any), (19, .any)] mixed (by kernel_rfl) (fun w3x hS3 hheap => ?_)
          refine RL.any rfl rfl (fun _ => Y.move) ?_
          refine RL.any rfl rfl (fun _ => Y.add64 rfl rfl (by omega)) ?_
          refine RL.any rfl rfl (fun _ => Y.move) ?_
          refine RL.any rfl rfl (fun _ => Y.dF (Y.lss rfl rfl) (by omega)) ?_
          refine RL.any rfl rfl (fun _ => Y.move) ?_
          refine RL.off rfl rfl ?_
          refine RL.off rfl rfl ?_
          refine RL.off rfl rfl ?_
          refine RL.off rfl rfl ?_
          refine RL.off rfl rfl ?_
          refine RL.offH rfl rfl hS3 ?_
          refine RL.off rfl rfl ?_
          refine RL.off rfl rfl ?_
          refine RL.off rfl rfl ?_
          refine RL.off rfl rfl ?_
          refine RL.off rfl rfl ?_
          refine RL.off rfl rfl ?_
          refine RL.offH rfl rfl hS3 ?_
          refine RL.off rfl rfl ?_
          refine RL.any rfl rfl (fun _ => Y.pickF rfl) ?_
          refine RL.nil (thenQ.normal ?_)
          refine WC.condF (rfl) ?_
          refine WC.skip (thenQ.normal ?_)
          exact ⟨rfl, hS3, _, ov_mk ⟨rfl, rfl, rfl, rfl, (show Value.int .i64 (2 * (r : Int) + 1) = _ by rw [ec]; congr 1), trivial⟩⟩
      · rintro _ _ wC ⟨rfl, kC, J2, rfl⟩
        have hC := hL.bel kC
        refine WC.seq ?_
        by_cases c3 : ltI dL[first + r]! dL[first + chi hi first r dL]! = true
        · rw [if_pos c3] at hR
          refine WC.seq ?_
          refine WC.regionB (fun i => Nat.beq i 12) [(0, .any), (1, .any), (2, .any), (3, .any), (4, .any), (5, .held), (6, .any), (7, .any), (8, .any), (9, .any), (10, .any), (11, .held), (12, .seq), (13, .any)] mixed (by kernel_rfl) (fun w5x hS5 hheap => ?_)
          refine RL.any rfl rfl (fun _ => Y.move) ?_
          refine RL.any rfl rfl (fun _ => Y.move) ?_
          refine RL.any rfl rfl (fun _ => Y.move) ?_
          refine RL.any rfl rfl (fun _ => Y.add64 rfl rfl (by omega)) ?_
          refine RL.yex rfl rfl (Y.idx Try.underlying37 ti22 (by decide) (hC.2.sl) rfl (by omega) (by omega)) ?_
          rintro _ ⟨b43, o43, rfl, hc43⟩
          refine RL.held rfl rfl hS5 (fun _ hb9 => Y.load1 Try.underlying22 rfl rfl (cell_bel (elemI (by omega) (sr_get i3) hc43) hb9)) ?_
          refine RL.any rfl rfl (fun _ => Y.move) ?_
          refine RL.any rfl rfl (fun _ => Y.move) ?_
          refine RL.any rfl rfl (fun _ => Y.move) ?_
          refine RL.any rfl rfl (fun _ => Y.add64 rfl rfl (by omega)) ?_
          refine RL.yex rfl rfl (Y.idx Try.underlying37 ti22 (by decide) (hC.2.sl) rfl (by omega) (by omega)) ?_
          rintro _ ⟨b49, o49, rfl, hc49⟩
          refine RL.held rfl rfl hS5 (fun _ hb9 => Y.load1 Try.underlying22 rfl rfl (cell_bel (elemI (by omega) (sr_get i4) hc49) hb9)) ?_
          refine RL.call rfl rfl (C.func go52) (lessT _ _ _ c3) ?_
          rintro _ _ ⟨rfl, rfl⟩
          refine ⟨.inl rfl, ?_⟩
          refine RL.any rfl rfl (fun _ => Y.not rfl) ?_
          refine RL.nil (thenQ.normal ?_)
          refine WC.condF (rfl) ?_
          refine WC.skip (thenQ.normal ?_)
          refine WC.seq ?_
          refine WC.regionB (fun i => Nat.beq i 21 || Nat.beq i 23) [(0, .any), (1, .any), (2, .any), (3, .any), (4, .any), (5, .any), (6, .any), (7, .any), (8, .any), (9, .any), (10, .any), (11, .any), (12, .any), (13, .held), (14, .any), (15, .any), (16, .any), (17, .any), (18, .any), (19, .held), (20, .any), (21, .seq), (22, .any), (23, .seq)] mixed (by kernel_rfl) (fun w6x hS6 hheap => ?_)
          refine RL.any rfl rfl (fun _ => Y.move) ?_
          refine RL.any rfl rfl (fun _ => Y.move) ?_
          refine RL.any rfl rfl (fun _ => Y.move) ?_
          refine RL.any rfl rfl (fun _ => Y.add64 rfl rfl (by omega)) ?_
          refine RL.any rfl rfl (fun _ => Y.move) ?_
          refine RL.any rfl rfl (fun _ => Y.move) ?_
          refine RL.any rfl rfl (fun _ => Y.move) ?_
          refine RL.any rfl rfl (fun _ => Y.add64 rfl rfl (by omega)) ?_
          refine RL.any rfl rfl (fun _ => Y.move) ?_
          refine RL.any rfl rfl (fun _ => Y.move) ?_
          refine RL.any rfl rfl (fun _ => Y.move) ?_
          refine RL.any rfl rfl (fun _ => Y.add64 rfl rfl (by omega)) ?_
          refine RL.yex rfl rfl (Y.idx Try.underlying37 ti22 (by decide) ((hC.2.bel hS5).sl) rfl (by omega) (by omega)) ?_
          rintro _ ⟨b65, o65, rfl, hc65⟩
          refine RL.held rfl rfl hS6 (fun _ hb9 => Y.load1 Try.underlying22 rfl rfl (cell_bel (elemI (by omega) (sr_get i4) hc65) hb9)) ?_
          refine RL.any rfl rfl (fun _ => Y.move) ?_
          refine RL.any rfl rfl (fun _ => Y.move) ?_
          refine RL.any rfl rfl (fun _ => Y.move) ?_
          refine RL.any rfl rfl (fun _ => Y.add64 rfl rfl (by omega)) ?_
          refine RL.yex rfl rfl (Y.idx Try.underlying37 ti22 (by decide) ((hC.2.bel hS5).sl) rfl (by omega) (by omega)) ?_
          rintro _ ⟨b71, o71, rfl, hc71⟩
          refine RL.held rfl rfl hS6 (fun _ hb9 => Y.load1 Try.underlying22 rfl rfl (cell_bel (elemI (by omega) (sr_get i3) hc71) hb9)) ?_
          refine RL.any rfl rfl (fun _ => Y.idxO (n := N) (cap := cap) (j := first + r) Try.underlying37 ti22 rfl rfl rfl (by omega) rfl _) ?_
          refine RL.eex rfl rfl (E.storeK1 (u := ku dL[first + chi hi first r dL]!) (i := first + r) ti22 rfl rfl rfl ((hC.2.bel hS5).bel hS6) (by omega) rfl) ?_ ?_
          · exact fun _ _ _ => .inl rfl
          rintro _ w61 ⟨ho61, hg61⟩
          refine RL.any rfl rfl (fun _ => Y.idxO (n := N) (cap := cap) (j := first + chi hi first r dL) Try.underlying37 ti22 rfl rfl rfl (by omega) rfl _) ?_
          refine RL.eex rfl rfl (E.storeK1 (u := ku dL[first + r]!) (i := first + chi hi first r dL) ti22 rfl rfl rfl ho61 (by omega) rfl) ?_ ?_
          · exact fun _ _ _ => .inl rfl
          rintro _ w62 ⟨ho62, hg62⟩
          refine RL.nil (thenQ.normal ?_)
          refine WC.region rfl ?_
          refine WL.y rfl (Y.move) ?_
          refine WL.y rfl (Y.assign) ?_
          refine WL.nil (inBlockQ.normal (thenQ.normal ?_))
          exact ⟨(chi hi first r dL, swp dL (first + r) (first + chi hi first r dL)), (show hi - chi hi first r dL < hi - r by omega), (show chi hi first r dL ≤ hi by omega), rfl, SR.swp _ _ hs ho62, hR, ((((kL.bel kC).bel hS5).bel hS6).trans (Kept.of_grown hg61 rfl)).trans (Kept.of_grown hg62 rfl), _, ov_mk ⟨rfl, rfl, rfl, rfl, trivial⟩⟩
        · rw [if_neg c3] at hR
          skip
          refine WC.seq ?_
          refine WC.regionB (fun i => Nat.beq i 12) [(0, .any), (1, .any), (2, .any), (3, .any), (4, .any), (5, .held), (6, .any), (7, .any), (8, .any), (9, .any), (10, .any), (11, .held), (12, .seq), (13, .any)] mixed (by kernel_rfl) (fun w5x hS5 hheap => ?_)
          refine RL.any rfl rfl (fun _ => Y.move) ?_
          refine RL.any rfl rfl (fun _ => Y.move) ?_
          refine RL.any rfl rfl (fun _ => Y.move) ?_
          refine RL.any rfl rfl (fun _ => Y.add64 rfl rfl (by omega)) ?_
          refine RL.yex rfl rfl (Y.idx Try.underlying37 ti22 (by decide) (hC.2.sl) rfl (by omega) (by omega)) ?_
          rintro _ ⟨b43, o43, rfl, hc43⟩
          refine RL.held rfl rfl hS5 (fun _ hb9 => Y.load1 Try.underlying22 rfl rfl (cell_bel (elemI (by omega) (sr_get i3) hc43) hb9)) ?_
          refine RL.any rfl rfl (fun _ => Y.move) ?_
          refine RL.any rfl rfl (fun _ => Y.move) ?_
          refine RL.any rfl rfl (fun _ => Y.move) ?_
          refine RL.any rfl rfl (fun _ => Y.add64 rfl rfl (by omega)) ?_
          refine RL.yex rfl rfl (Y.idx Try.underlying37 ti22 (by decide) (hC.2.sl) rfl (by omega) (by omega)) ?_
          rintro _ ⟨b49, o49, rfl, hc49⟩
          refine RL.held rfl rfl hS5 (fun _ hb9 => Y.load1 Try.underlying22 rfl rfl (cell_bel (elemI (by omega) (sr_get i4) hc49) hb9)) ?_
          refine RL.call rfl rfl (C.func go52) (lessF _ _ _ c3) ?_
          rintro _ _ ⟨rfl, rfl⟩
          refine ⟨.inl rfl, ?_⟩
          refine RL.any rfl rfl (fun _ => Y.not rfl) ?_
          refine RL.nil (thenQ.normal ?_)
          refine WC.condT (rfl) ?_
          refine WC.ret (thenQ.ret (inBlockQ.ret (thenQ.ret (inBlockQ.ret (endQ.zero (.inr rfl) ?_)))))
          rw [← hR]
          exact ⟨hC.bel hS5, (kL.bel kC).bel hS5⟩
end Go.Proofs.Ytlhhognabmnlmaa
