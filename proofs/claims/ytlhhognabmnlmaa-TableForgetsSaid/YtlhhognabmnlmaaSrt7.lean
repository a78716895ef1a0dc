/-
  slices.Sort at uint64: partialInsertionSort: walk (printed by wip/tools/gensort.py).
-/
import Derived.Test.YtlhhognabmnlmaaSrt6
namespace Go.Proofs.Ytlhhognabmnlmaa
open Go Go.RowKit Go.Cx
set_option linter.unusedVariables false
set_option maxHeartbeats 8000000
set_option maxRecDepth 20000
open Go.Sort
theorem ss_go {d : Array Int} {b i : Nat} (h1 : i < b) (h2 : ¬ ltI d[i]! d[i - 1]! = true) : scanSorted ltI d b i = scanSorted ltI d b (i + 1) := by
  rw [scanSorted, if_pos (by rw [Bool.and_eq_true, decide_eq_true_eq]; exact ⟨h1, by simpa using h2⟩)]
theorem ss_stop {d : Array Int} {b i : Nat} (h : ¬ (i < b ∧ ¬ ltI d[i]! d[i - 1]! = true)) : scanSorted ltI d b i = i := by
  rw [scanSorted, if_neg (by rw [Bool.and_eq_true, decide_eq_true_eq]; simpa using h)]
theorem ss_rng {d : Array Int} {b : Nat} : ∀ {n i : Nat}, b - i ≤ n → i ≤ b → i ≤ scanSorted ltI d b i ∧ scanSorted ltI d b i ≤ b := by
  intro n
  induction n with
  | zero => intro i h hb; rw [ss_stop (fun h => by omega)]; exact ⟨Nat.le_refl _, hb⟩
  | succ n ih =>
    intro i h hb
    by_cases c : i < b ∧ ¬ ltI d[i]! d[i - 1]! = true
    · rw [ss_go c.1 c.2]
      have := ih (i := i + 1) (by omega) (by omega)
      omega
    · rw [ss_stop c]; exact ⟨Nat.le_refl _, hb⟩
theorem shd_zero {d : Array Int} : shiftDown ltI 0 d = d := rfl
theorem shd_stop {j : Nat} {d : Array Int} (h : ¬ ltI d[j]! d[j - 1]! = true) : shiftDown ltI j d = d := by
  cases j with
  | zero => rfl
  | succ j => rw [shiftDown, if_pos (by simpa using h)]
theorem shd_go {j : Nat} {d : Array Int} (h0 : 0 < j) (h : ltI d[j]! d[j - 1]! = true) : shiftDown ltI j d = shiftDown ltI (j - 1) (swp d j (j - 1)) := by
  cases j with
  | zero => omega
  | succ j =>
    simp only [Nat.add_sub_cancel] at h ⊢
    rw [shiftDown, if_neg (by simp [h])]
theorem shu_end {b j : Nat} {d : Array Int} (h : ¬ j < b) : shiftUp ltI b j d = d := by rw [shiftUp, if_neg h]
theorem shu_stop {b j : Nat} {d : Array Int} (h : ¬ ltI d[j]! d[j - 1]! = true) : shiftUp ltI b j d = d := by
  rw [shiftUp]
  split
  · rw [if_pos (by simpa using h)]
  · rfl
theorem shu_go {b j : Nat} {d : Array Int} (h0 : j < b) (h : ltI d[j]! d[j - 1]! = true) : shiftUp ltI b j d = shiftUp ltI b (j + 1) (swp d j (j - 1)) := by
  rw [shiftUp, if_pos h0, if_neg (by simp [h])]
theorem pi_hit {a b t i i2 : Nat} {d : Array Int} (h1 : scanSorted ltI d b i = i2) (h : i2 = b) : partialIns ltI a b (t + 1) i d = (d, true) := by
  unfold partialIns
  simp only [h1, if_pos h]
theorem pi_short {a b t i i2 : Nat} {d : Array Int} (h1 : scanSorted ltI d b i = i2) (h : ¬ i2 = b) (h2 : b - a < 50) : partialIns ltI a b (t + 1) i d = (d, false) := by
  unfold partialIns
  simp only [h1, if_neg h, if_pos h2]
def pB (a i2 : Nat) (d : Array Int) : Array Int := if i2 - a ≥ 2 then shiftDown ltI (i2 - 1) d else d
def pC (b i2 : Nat) (d : Array Int) : Array Int := if b - i2 ≥ 2 then shiftUp ltI b (i2 + 1) d else d
theorem pi_go {a b t i i2 : Nat} {d : Array Int} (h1 : scanSorted ltI d b i = i2) (h : ¬ i2 = b) (h2 : ¬ b - a < 50) : partialIns ltI a b (t + 1) i d = partialIns ltI a b t i2 (pC b i2 (pB a i2 (swp d i2 (i2 - 1)))) := by
  rw [partialIns]
  simp only [h1, if_neg h, if_neg h2]
  rfl
theorem pis_ret {w : World} {bl o N cap : Nat} {d : Array Int} (a b : Nat) (h : SR w bl o N cap d) (hb : b ≤ N) (hN : N ≤ 60000) (hab : a + 1 ≤ b) : Ret Try.prog 51 [.slice (some ⟨bl, o, none⟩) N cap, .int .i64 (a : Int), .int .i64 (b : Int)].toArray w fun v w' => v = .bool (partialInsertionSort ltI d a b).2 ∧ SR w' bl o N cap (partialInsertionSort ltI d a b).1 ∧ Kept (fun x => x = bl) w w' := by
  refine Ret.of (n := 133) (rs := #[.tmp 6]) Try.func51 rfl rfl rfl (by simp) ?_
  refine WC.seqR rfl ?_
  refine WL.y rfl (Y.assign) ?_
  refine WL.nil ?_
  refine WC.seqR rfl ?_
  refine WL.y rfl (Y.move) ?_
  refine WL.y rfl (Y.add64 rfl rfl (by omega)) ?_
  refine WL.y rfl (Y.assign) ?_
  refine WL.nil ?_
  refine WC.seq ?_
  refine WC.seqR rfl ?_
  refine WL.y rfl (Y.assign) ?_
  refine WL.nil ?_
  refine WC.block ?_
  refine WC.loop (S := Nat × Nat × Array Int) (fun q => q.1) (fun q f ds w' => ∃ s i dL, q = (s, i, dL) ∧ s ≤ 5 ∧ a < i ∧ i ≤ b ∧ ds = [] ∧ SR w' bl o N cap dL ∧ partialIns ltI a b s i dL = partialInsertionSort ltI d a b ∧ Kept (fun x => x = bl) w w' ∧ ∃ J, f = Go.Cx.ov J [(0, .slice (some ⟨bl, o, none⟩) N cap), (1, .int .i64 (a : Int)), (2, .int .i64 (b : Int)), (7, .int .i64 (i : Int)), (8, .int .i64 ((5 - s : Nat) : Int))]) (5, a + 1, d) ?_ ?_
  · exact ⟨5, a + 1, d, rfl, Nat.le_refl _, Nat.lt_succ_self _, hab, rfl, h, rfl, Kept.refl _ _, _, ov_mk ⟨rfl, rfl, rfl, rfl, rfl, trivial⟩⟩
  · rintro _ _ _ wL ⟨s, i, dL, rfl, hs5, hai, hib, rfl, hL, hR, kL, J, rfl⟩
    have hsL := hL.1
    obtain ⟨i2, hi2⟩ : ∃ x, scanSorted ltI dL b i = x := ⟨_, rfl⟩
    have hqq := ss_rng (d := dL) (b := b) (i := i) (Nat.le_refl _) hib
    obtain ⟨r1, r2⟩ := hqq
    rw [hi2] at r1 r2
    refine WC.seq ?_
    refine WC.seqR rfl ?_
    refine WL.y rfl (Y.move) ?_
    refine WL.y rfl (Y.lss rfl rfl) ?_
    refine WL.nil ?_
    refine WC.condD rfl (fun h0 => ?_) (fun h0 => ?_)
    · obtain ⟨t, rfl⟩ : ∃ t, s = t + 1 := ⟨s - 1, by omega⟩
      refine WC.skip (thenQ.normal ?_)
      refine WC.seq ?_
      refine WC.block ?_
      refine WC.seq ?_
      refine WC.cut (fun f ds w' => ds = [] ∧ Below wL.heap.size wL w' ∧ ∃ J, f = Go.Cx.ov J [(0, .slice (some ⟨bl, o, none⟩) N cap), (1, .int .i64 (a : Int)), (2, .int .i64 (b : Int)), (7, .int .i64 (i2 : Int)), (8, .int .i64 ((5 - (t + 1) : Nat) : Int))]) ?_ ?_
      · refine WC.block ?_
        refine WC.loop (fun x => b - x) (fun x f ds w' => i ≤ x ∧ x ≤ b ∧ scanSorted ltI dL b x = i2 ∧ ds = [] ∧ Below wL.heap.size wL w' ∧ ∃ J, f = Go.Cx.ov J [(0, .slice (some ⟨bl, o, none⟩) N cap), (1, .int .i64 (a : Int)), (2, .int .i64 (b : Int)), (7, .int .i64 (x : Int)), (8, .int .i64 ((5 - (t + 1) : Nat) : Int))]) i ?_ ?_
        · exact ⟨Nat.le_refl _, hib, hi2, rfl, Below.refl _ _, _, ov_mk ⟨rfl, rfl, rfl, rfl, rfl, trivial⟩⟩
        · rintro x _ _ wY ⟨t1, t2, hF, rfl, kY, J, rfl⟩
          have hY := hL.bel kY
          refine WC.seq ?_
          by_cases c1 : x < b
          · have jt : x < dL.size := by omega
            have ja : x - 1 < dL.size := by omega
            by_cases c2 : ltI dL[x]! dL[x - 1]! = true
            · have hst := ss_stop (d := dL) (b := b) (i := x) (fun h => h.2 c2)
              refine WC.seq ?_
              refine WC.regionB (fun i => Nat.beq i 13) [(0, .any), (1, .any), (2, .any), (3, .any), (4, .any), (5, .any), (6, .any), (7, .held), (8, .any), (9, .any), (10, .any), (11, .any), (12, .held), (13, .seq), (14, .any), (15, .any)] mixed (by kernel_rfl) (fun wS hS hheap => ?_)
              refine RL.any rfl rfl (fun _ => Y.move) ?_
              refine RL.any rfl rfl (fun _ => Y.move) ?_
              refine RL.any rfl rfl (fun _ => Y.dT (Y.lss rfl rfl) (by omega)) ?_
              refine RL.any rfl rfl (fun _ => Y.move) ?_
              refine RL.any rfl rfl (fun _ => Y.move) ?_
              refine RL.any rfl rfl (fun _ => Y.move) ?_
              refine RL.yex rfl rfl (Y.idx Try.underlying37 ti22 (by decide) (hY.2.sl) rfl (by omega) (by omega)) ?_
              rintro _ ⟨b23, o23, rfl, hc23⟩
              refine RL.held rfl rfl hS (fun _ hb9 => Y.load1 Try.underlying22 rfl rfl (cell_bel (elemI (by omega) (sr_get jt) hc23) hb9)) ?_
              refine RL.any rfl rfl (fun _ => Y.move) ?_
              refine RL.any rfl rfl (fun _ => Y.move) ?_
              refine RL.any rfl rfl (fun _ => Y.sub64 rfl rfl (by omega)) ?_
              refine RL.yex rfl rfl (Y.idx Try.underlying37 ti22 (by decide) (hY.2.sl) rfl (by omega) (by omega)) ?_
              rintro _ ⟨b28, o28, rfl, hc28⟩
              refine RL.held rfl rfl hS (fun _ hb9 => Y.load1 Try.underlying22 rfl rfl (cell_bel (elemI (by omega) (sr_get ja) hc28) hb9)) ?_
              refine RL.call rfl rfl (C.func go52) (lessT _ _ _ c2) ?_
              rintro _ _ ⟨rfl, rfl⟩
              refine ⟨.inl rfl, ?_⟩
              refine RL.any rfl rfl (fun _ => Y.not rfl) ?_
              refine RL.any rfl rfl (fun _ => Y.pickT rfl) ?_
              refine RL.nil (thenQ.normal ?_)
              refine WC.condF (rfl) ?_
              refine WC.exit (thenQ.exit (thenQ.exit (inBlockQ.hit (thenQ.normal ?_))))
              exact ⟨rfl, Below.step kY hS, _, ov_mk ⟨rfl, rfl, rfl, congrArg (fun q : Nat => Value.int .i64 (q : Int)) (hst.symm.trans hF), rfl, trivial⟩⟩
            · refine WC.seq ?_
              refine WC.regionB (fun i => Nat.beq i 13) [(0, .any), (1, .any), (2, .any), (3, .any), (4, .any), (5, .any), (6, .any), (7, .held), (8, .any), (9, .any), (10, .any), (11, .any), (12, .held), (13, .seq), (14, .any), (15, .any)] mixed (by kernel_rfl) (fun wS hS hheap => ?_)
              refine RL.any rfl rfl (fun _ => Y.move) ?_
              refine RL.any rfl rfl (fun _ => Y.move) ?_
              refine RL.any rfl rfl (fun _ => Y.dT (Y.lss rfl rfl) (by omega)) ?_
              refine RL.any rfl rfl (fun _ => Y.move) ?_
              refine RL.any rfl rfl (fun _ => Y.move) ?_
              refine RL.any rfl rfl (fun _ => Y.move) ?_
              refine RL.yex rfl rfl (Y.idx Try.underlying37 ti22 (by decide) (hY.2.sl) rfl (by omega) (by omega)) ?_
              rintro _ ⟨b23, o23, rfl, hc23⟩
              refine RL.held rfl rfl hS (fun _ hb9 => Y.load1 Try.underlying22 rfl rfl (cell_bel (elemI (by omega) (sr_get jt) hc23) hb9)) ?_
              refine RL.any rfl rfl (fun _ => Y.move) ?_
              refine RL.any rfl rfl (fun _ => Y.move) ?_
              refine RL.any rfl rfl (fun _ => Y.sub64 rfl rfl (by omega)) ?_
              refine RL.yex rfl rfl (Y.idx Try.underlying37 ti22 (by decide) (hY.2.sl) rfl (by omega) (by omega)) ?_
              rintro _ ⟨b28, o28, rfl, hc28⟩
              refine RL.held rfl rfl hS (fun _ hb9 => Y.load1 Try.underlying22 rfl rfl (cell_bel (elemI (by omega) (sr_get ja) hc28) hb9)) ?_
              refine RL.call rfl rfl (C.func go52) (lessF _ _ _ c2) ?_
              rintro _ _ ⟨rfl, rfl⟩
              refine ⟨.inl rfl, ?_⟩
              refine RL.any rfl rfl (fun _ => Y.not rfl) ?_
              refine RL.any rfl rfl (fun _ => Y.pickT rfl) ?_
              refine RL.nil (thenQ.normal ?_)
              refine WC.condT (rfl) ?_
              refine WC.skip (thenQ.normal ?_)
              refine WC.block ?_
              refine WC.region rfl ?_
              refine WL.y rfl (Y.move) ?_
              refine WL.y rfl (Y.add64 rfl rfl (by omega)) ?_
              refine WL.y rfl (Y.assign) ?_
              refine WL.nil (inBlockQ.normal (thenQ.normal ?_))
              exact ⟨x + 1, by omega, by omega, by omega, (ss_go c1 c2).symm.trans hF, rfl, Below.step kY hS, _, ov_mk ⟨rfl, rfl, rfl, rfl, rfl, trivial⟩⟩
          · have hst := ss_stop (d := dL) (b := b) (i := x) (fun h => c1 h.1)
            skip
            refine WC.seq ?_
            refine WC.regionB (fun _ => false) [(0, .any), (1, .any), (2, .any), (3, .any), (4, .any), (5, .any), (6, .any), (7, .held), (8, .any), (9, .any), (10, .any), (11, .any), (12, .held), (13, .any), (14, .any), (15, .any)] mixed (by kernel_rfl) (fun wS hS hheap => ?_)
            refine RL.any rfl rfl (fun _ => Y.move) ?_
            refine RL.any rfl rfl (fun _ => Y.move) ?_
            refine RL.any rfl rfl (fun _ => Y.dF (Y.lss rfl rfl) (by omega)) ?_
            refine RL.any rfl rfl (fun _ => Y.move) ?_
            refine RL.off rfl rfl ?_
            refine RL.off rfl rfl ?_
            refine RL.off rfl rfl ?_
            refine RL.offH rfl rfl hS ?_
            refine RL.off rfl rfl ?_
            refine RL.off rfl rfl ?_
            refine RL.off rfl rfl ?_
            refine RL.off rfl rfl ?_
            refine RL.offH rfl rfl hS ?_
            refine RL.off rfl rfl ?_
            refine RL.off rfl rfl ?_
            refine RL.any rfl rfl (fun _ => Y.pickF rfl) ?_
            refine RL.nil (thenQ.normal ?_)
            refine WC.condF (rfl) ?_
            refine WC.exit (thenQ.exit (thenQ.exit (inBlockQ.hit (thenQ.normal ?_))))
            exact ⟨rfl, Below.step kY hS, _, ov_mk ⟨rfl, rfl, rfl, congrArg (fun q : Nat => Value.int .i64 (q : Int)) (hst.symm.trans hF), rfl, trivial⟩⟩
      · rintro _ _ wC ⟨rfl, kC, J2, rfl⟩
        have hC := hL.bel kC
        refine WC.seq ?_
        refine WC.seqR rfl ?_
        refine WL.y rfl (Y.move) ?_
        refine WL.y rfl (Y.move) ?_
        refine WL.y rfl (Y.eqi rfl rfl) ?_
        refine WL.nil ?_
        refine WC.condD rfl (fun h1 => ?_) (fun h1 => ?_)
        · have e1 : i2 = b := by omega
          rw [pi_hit hi2 e1] at hR
          refine WC.seqR rfl ?_
          refine WL.y rfl (Y.assign) ?_
          refine WL.nil ?_
          refine WC.ret (thenQ.ret (inBlockQ.ret (thenQ.ret (thenQ.ret (inBlockQ.ret (thenQ.ret (endQ.one (.inr rfl) ?_)))))))
          rw [← hR]
          exact ⟨rfl, hC, kL.bel kC⟩
        · have e1 : ¬ i2 = b := by omega
          refine WC.skip (thenQ.normal ?_)
          refine WC.seq ?_
          refine WC.seqR rfl ?_
          refine WL.y rfl (Y.move) ?_
          refine WL.y rfl (Y.move) ?_
          refine WL.y rfl (Y.sub64 rfl rfl (by omega)) ?_
          refine WL.y rfl (Y.lss rfl rfl) ?_
          refine WL.nil ?_
          refine WC.condD rfl (fun h2 => ?_) (fun h2 => ?_)
          · have e2 : b - a < 50 := by omega
            rw [pi_short hi2 e1 e2] at hR
            refine WC.seqR rfl ?_
            refine WL.y rfl (Y.assign) ?_
            refine WL.nil ?_
            refine WC.ret (thenQ.ret (inBlockQ.ret (thenQ.ret (thenQ.ret (inBlockQ.ret (thenQ.ret (endQ.one (.inr rfl) ?_)))))))
            rw [← hR]
            exact ⟨rfl, hC, kL.bel kC⟩
          · have e2 : ¬ b - a < 50 := by omega
            rw [pi_go hi2 e1 e2] at hR
            have gx : i2 < dL.size := by omega
            have gy : i2 - 1 < dL.size := by omega
            refine WC.skip (thenQ.normal ?_)
            refine WC.seq ?_
            refine WC.regionB (fun i => Nat.beq i 15 || Nat.beq i 17) [(0, .any), (1, .any), (2, .any), (3, .any), (4, .any), (5, .any), (6, .any), (7, .any), (8, .any), (9, .held), (10, .any), (11, .any), (12, .any), (13, .held), (14, .any), (15, .seq), (16, .any), (17, .seq)] mixed (by kernel_rfl) (fun wS11 hS11 hheap => ?_)
            refine RL.any rfl rfl (fun _ => Y.move) ?_
            refine RL.any rfl rfl (fun _ => Y.move) ?_
            refine RL.any rfl rfl (fun _ => Y.move) ?_
            refine RL.any rfl rfl (fun _ => Y.move) ?_
            refine RL.any rfl rfl (fun _ => Y.sub64 rfl rfl (by omega)) ?_
            refine RL.any rfl rfl (fun _ => Y.move) ?_
            refine RL.any rfl rfl (fun _ => Y.move) ?_
            refine RL.any rfl rfl (fun _ => Y.sub64 rfl rfl (by omega)) ?_
            refine RL.yex rfl rfl (Y.idx Try.underlying37 ti22 (by decide) (hC.2.sl) rfl (by omega) (by omega)) ?_
            rintro _ ⟨b50, o50, rfl, hc50⟩
            refine RL.held rfl rfl hS11 (fun _ hb9 => Y.load1 Try.underlying22 rfl rfl (cell_bel (elemI (by omega) (sr_get gy) hc50) hb9)) ?_
            refine RL.any rfl rfl (fun _ => Y.move) ?_
            refine RL.any rfl rfl (fun _ => Y.move) ?_
            refine RL.yex rfl rfl (Y.idx Try.underlying37 ti22 (by decide) (hC.2.sl) rfl (by omega) (by omega)) ?_
            rintro _ ⟨b54, o54, rfl, hc54⟩
            refine RL.held rfl rfl hS11 (fun _ hb9 => Y.load1 Try.underlying22 rfl rfl (cell_bel (elemI (by omega) (sr_get gx) hc54) hb9)) ?_
            refine RL.any rfl rfl (fun _ => Y.idxO (n := N) (cap := cap) (j := i2) Try.underlying37 ti22 rfl rfl rfl (by omega) rfl _) ?_
            refine RL.eex rfl rfl (E.storeK1 (u := ku dL[i2 - 1]!) (i := i2) ti22 rfl rfl rfl (hC.2.bel hS11) (by omega) rfl) ?_ ?_
            · exact fun _ _ _ => .inl rfl
            rintro _ wMa ⟨howMa, hgwMa⟩
            refine RL.any rfl rfl (fun _ => Y.idxO (n := N) (cap := cap) (j := i2 - 1) Try.underlying37 ti22 rfl rfl (z1 (by omega)) (by omega) rfl _) ?_
            refine RL.eex rfl rfl (E.storeK1 (u := ku dL[i2]!) (i := i2 - 1) ti22 rfl rfl rfl howMa (by omega) rfl) ?_ ?_
            · exact fun _ _ _ => .inl rfl
            rintro _ wM ⟨howM, hgwM⟩
            have hwM : SR wM bl o N cap (swp dL (i2) (i2 - 1)) := SR.swp (i2) (i2 - 1) hC.1 howM
            have kwM : Kept (fun x => x = bl) wC wM := ((Kept.of_bel (M := fun x => x = bl) hS11).trans (Kept.of_grown hgwMa rfl)).trans (Kept.of_grown hgwM rfl)
            refine RL.nil (thenQ.normal ?_)
            refine WC.seq ?_
            refine WC.seqR rfl ?_
            refine WL.y rfl (Y.move) ?_
            refine WL.y rfl (Y.move) ?_
            refine WL.y rfl (Y.sub64 rfl rfl (by omega)) ?_
            refine WL.y rfl (Y.geq rfl rfl) ?_
            refine WL.nil ?_
            have kM := (kL.bel kC).trans kwM
            clear gx gy hS11
            generalize swp dL i2 (i2 - 1) = dM at *
            refine WC.cut (fun f ds w' => ds = [] ∧ SR w' bl o N cap (pB a i2 dM) ∧ Kept (fun x => x = bl) w w' ∧ ∃ J, f = Go.Cx.ov J [(0, .slice (some ⟨bl, o, none⟩) N cap), (1, .int .i64 (a : Int)), (2, .int .i64 (b : Int)), (7, .int .i64 (i2 : Int)), (8, .int .i64 ((5 - (t + 1) : Nat) : Int))]) ?_ ?_
            · skip
              refine WC.condD rfl (fun h3 => ?_) (fun h3 => ?_)
              · have e3 : pB a i2 dM = shiftDown ltI (i2 - 1) dM := by unfold pB; rw [if_pos (by omega)]
                rw [e3]
                refine WC.seqR rfl ?_
                refine WL.y rfl (Y.move) ?_
                refine WL.y rfl (Y.sub64 rfl rfl (by omega)) ?_
                refine WL.y rfl (Y.assign) ?_
                refine WL.nil ?_
                refine WC.block ?_
                refine WC.loop (S := Nat × Array Int) (fun q => q.1) (fun q f ds w' => ∃ x dX, q = (x, dX) ∧ x < i2 ∧ ds = [] ∧ SR w' bl o N cap dX ∧ shiftDown ltI x dX = shiftDown ltI (i2 - 1) dM ∧ Kept (fun x => x = bl) w w' ∧ ∃ J, f = Go.Cx.ov J [(0, .slice (some ⟨bl, o, none⟩) N cap), (1, .int .i64 (a : Int)), (2, .int .i64 (b : Int)), (7, .int .i64 (i2 : Int)), (8, .int .i64 ((5 - (t + 1) : Nat) : Int)), (9, .int .i64 (x : Int))]) (i2 - 1, dM) ?_ ?_
                · exact ⟨i2 - 1, dM, rfl, (show i2 - 1 < i2 by omega), rfl, hwM, rfl, kM, _, ov_mk ⟨rfl, rfl, rfl, rfl, rfl, congrArg (Value.int .i64) (z1 (by omega)), trivial⟩⟩
                · rintro _ _ _ wX ⟨x, dX, rfl, hx, rfl, hX, hXR, kX, J, rfl⟩
                  have hsX := hX.1
                  refine WC.seq ?_
                  refine WC.seqR rfl ?_
                  refine WL.y rfl (Y.move) ?_
                  refine WL.y rfl (Y.geq rfl rfl) ?_
                  refine WL.nil ?_
                  refine WC.condD rfl (fun h4 => ?_) (fun h4 => ?_)
                  · have gx : x < dX.size := by omega
                    have gy : x - 1 < dX.size := by omega
                    refine WC.skip (thenQ.normal ?_)
                    refine WC.seq ?_
                    refine WC.block ?_
                    refine WC.seq ?_
                    by_cases c2 : ltI dX[x]! dX[x - 1]! = true
                    · refine WC.seq ?_
                      refine WC.regionB (fun i => Nat.beq i 9) [(0, .any), (1, .any), (2, .any), (3, .held), (4, .any), (5, .any), (6, .any), (7, .any), (8, .held), (9, .seq), (10, .any)] mixed (by kernel_rfl) (fun wS hS hheap => ?_)
                      refine RL.any rfl rfl (fun _ => Y.move) ?_
                      refine RL.any rfl rfl (fun _ => Y.move) ?_
                      refine RL.yex rfl rfl (Y.idx Try.underlying37 ti22 (by decide) (hX.2.sl) rfl (by omega) (by omega)) ?_
                      rintro _ ⟨b70, o70, rfl, hc70⟩
                      refine RL.held rfl rfl hS (fun _ hb9 => Y.load1 Try.underlying22 rfl rfl (cell_bel (elemI (by omega) (sr_get gx) hc70) hb9)) ?_
                      refine RL.any rfl rfl (fun _ => Y.move) ?_
                      refine RL.any rfl rfl (fun _ => Y.move) ?_
                      refine RL.any rfl rfl (fun _ => Y.sub64 rfl rfl (by omega)) ?_
                      refine RL.yex rfl rfl (Y.idx Try.underlying37 ti22 (by decide) (hX.2.sl) rfl (by omega) (by omega)) ?_
                      rintro _ ⟨b75, o75, rfl, hc75⟩
                      refine RL.held rfl rfl hS (fun _ hb9 => Y.load1 Try.underlying22 rfl rfl (cell_bel (elemI (by omega) (sr_get gy) hc75) hb9)) ?_
                      refine RL.call rfl rfl (C.func go52) (lessT _ _ _ c2) ?_
                      rintro _ _ ⟨rfl, rfl⟩
                      refine ⟨.inl rfl, ?_⟩
                      refine RL.any rfl rfl (fun _ => Y.not rfl) ?_
                      refine RL.nil (thenQ.normal ?_)
                      refine WC.condF (rfl) ?_
                      refine WC.skip (thenQ.normal ?_)
                      refine WC.regionB (fun i => Nat.beq i 15 || Nat.beq i 17) [(0, .any), (1, .any), (2, .any), (3, .any), (4, .any), (5, .any), (6, .any), (7, .any), (8, .any), (9, .held), (10, .any), (11, .any), (12, .any), (13, .held), (14, .any), (15, .seq), (16, .any), (17, .seq)] mixed (by kernel_rfl) (fun wS17 hS17 hheap => ?_)
                      refine RL.any rfl rfl (fun _ => Y.move) ?_
                      refine RL.any rfl rfl (fun _ => Y.move) ?_
                      refine RL.any rfl rfl (fun _ => Y.move) ?_
                      refine RL.any rfl rfl (fun _ => Y.move) ?_
                      refine RL.any rfl rfl (fun _ => Y.sub64 rfl rfl (by omega)) ?_
                      refine RL.any rfl rfl (fun _ => Y.move) ?_
                      refine RL.any rfl rfl (fun _ => Y.move) ?_
                      refine RL.any rfl rfl (fun _ => Y.sub64 rfl rfl (by omega)) ?_
                      refine RL.yex rfl rfl (Y.idx Try.underlying37 ti22 (by decide) ((hX.bel hS).2.sl) rfl (by omega) (by omega)) ?_
                      rintro _ ⟨b87, o87, rfl, hc87⟩
                      refine RL.held rfl rfl hS17 (fun _ hb9 => Y.load1 Try.underlying22 rfl rfl (cell_bel (elemI (by omega) (sr_get gy) hc87) hb9)) ?_
                      refine RL.any rfl rfl (fun _ => Y.move) ?_
                      refine RL.any rfl rfl (fun _ => Y.move) ?_
                      refine RL.yex rfl rfl (Y.idx Try.underlying37 ti22 (by decide) ((hX.bel hS).2.sl) rfl (by omega) (by omega)) ?_
                      rintro _ ⟨b91, o91, rfl, hc91⟩
                      refine RL.held rfl rfl hS17 (fun _ hb9 => Y.load1 Try.underlying22 rfl rfl (cell_bel (elemI (by omega) (sr_get gx) hc91) hb9)) ?_
                      refine RL.any rfl rfl (fun _ => Y.idxO (n := N) (cap := cap) (j := x) Try.underlying37 ti22 rfl rfl rfl (by omega) rfl _) ?_
                      refine RL.eex rfl rfl (E.storeK1 (u := ku dX[x - 1]!) (i := x) ti22 rfl rfl rfl ((hX.bel hS).2.bel hS17) (by omega) rfl) ?_ ?_
                      · exact fun _ _ _ => .inl rfl
                      rintro _ wNa ⟨howNa, hgwNa⟩
                      refine RL.any rfl rfl (fun _ => Y.idxO (n := N) (cap := cap) (j := x - 1) Try.underlying37 ti22 rfl rfl (z1 (by omega)) (by omega) rfl _) ?_
                      refine RL.eex rfl rfl (E.storeK1 (u := ku dX[x]!) (i := x - 1) ti22 rfl rfl rfl howNa (by omega) rfl) ?_ ?_
                      · exact fun _ _ _ => .inl rfl
                      rintro _ wN ⟨howN, hgwN⟩
                      have hwN : SR wN bl o N cap (swp dX (x) (x - 1)) := SR.swp (x) (x - 1) (hX.bel hS).1 howN
                      have kwN : Kept (fun x => x = bl) wS wN := ((Kept.of_bel (M := fun x => x = bl) hS17).trans (Kept.of_grown hgwNa rfl)).trans (Kept.of_grown hgwN rfl)
                      refine RL.nil (inBlockQ.normal (thenQ.normal ?_))
                      refine WC.region rfl ?_
                      refine WL.y rfl (Y.move) ?_
                      refine WL.y rfl (Y.sub64 rfl rfl (by omega)) ?_
                      refine WL.y rfl (Y.assign) ?_
                      refine WL.nil (thenQ.normal ?_)
                      exact ⟨(x - 1, swp dX x (x - 1)), (show x - 1 < x by omega), x - 1, swp dX x (x - 1), rfl, (by omega), rfl, hwN, (shd_go (by omega) c2).symm.trans hXR, (kX.bel hS).trans kwN, _, ov_mk ⟨rfl, rfl, rfl, rfl, rfl, congrArg (Value.int .i64) (z1 (by omega)), trivial⟩⟩
                    · skip
                      skip
                      refine WC.seq ?_
                      refine WC.regionB (fun i => Nat.beq i 9) [(0, .any), (1, .any), (2, .any), (3, .held), (4, .any), (5, .any), (6, .any), (7, .any), (8, .held), (9, .seq), (10, .any)] mixed (by kernel_rfl) (fun wS hS hheap => ?_)
                      refine RL.any rfl rfl (fun _ => Y.move) ?_
                      refine RL.any rfl rfl (fun _ => Y.move) ?_
                      refine RL.yex rfl rfl (Y.idx Try.underlying37 ti22 (by decide) (hX.2.sl) rfl (by omega) (by omega)) ?_
                      rintro _ ⟨b70, o70, rfl, hc70⟩
                      refine RL.held rfl rfl hS (fun _ hb9 => Y.load1 Try.underlying22 rfl rfl (cell_bel (elemI (by omega) (sr_get gx) hc70) hb9)) ?_
                      refine RL.any rfl rfl (fun _ => Y.move) ?_
                      refine RL.any rfl rfl (fun _ => Y.move) ?_
                      refine RL.any rfl rfl (fun _ => Y.sub64 rfl rfl (by omega)) ?_
                      refine RL.yex rfl rfl (Y.idx Try.underlying37 ti22 (by decide) (hX.2.sl) rfl (by omega) (by omega)) ?_
                      rintro _ ⟨b75, o75, rfl, hc75⟩
                      refine RL.held rfl rfl hS (fun _ hb9 => Y.load1 Try.underlying22 rfl rfl (cell_bel (elemI (by omega) (sr_get gy) hc75) hb9)) ?_
                      refine RL.call rfl rfl (C.func go52) (lessF _ _ _ c2) ?_
                      rintro _ _ ⟨rfl, rfl⟩
                      refine ⟨.inl rfl, ?_⟩
                      refine RL.any rfl rfl (fun _ => Y.not rfl) ?_
                      refine RL.nil (thenQ.normal ?_)
                      refine WC.condT (rfl) ?_
                      refine WC.exit (thenQ.exit (inBlockQ.miss rfl (thenQ.exit (thenQ.exit (inBlockQ.hit (thenQ.normal ?_))))))
                      rw [← hXR, shd_stop c2]
                      exact ⟨rfl, hX.bel hS, kX.bel hS, _, ov_mk ⟨rfl, rfl, rfl, rfl, rfl, trivial⟩⟩
                  · obtain rfl : x = 0 := by omega
                    refine WC.exit (thenQ.exit (thenQ.exit (inBlockQ.hit (thenQ.normal ?_))))
                    rw [← hXR]
                    exact ⟨rfl, hX, kX, _, ov_mk ⟨rfl, rfl, rfl, rfl, rfl, trivial⟩⟩
              · have e3 : pB a i2 dM = dM := by unfold pB; rw [if_neg (by omega)]
                rw [e3]
                refine WC.skip (thenQ.normal ?_)
                exact ⟨rfl, hwM, kM, _, ov_mk ⟨rfl, rfl, rfl, rfl, rfl, trivial⟩⟩
            · rintro _ _ wE ⟨rfl, hE, kE, J3, rfl⟩
              generalize pB a i2 dM = dE at *
              refine WC.seqR rfl ?_
              refine WL.y rfl (Y.move) ?_
              refine WL.y rfl (Y.move) ?_
              refine WL.y rfl (Y.sub64 rfl rfl (by omega)) ?_
              refine WL.y rfl (Y.geq rfl rfl) ?_
              refine WL.nil ?_
              refine WC.condD rfl (fun h3 => ?_) (fun h3 => ?_)
              · have e3 : pC b i2 dE = shiftUp ltI b (i2 + 1) dE := by unfold pC; rw [if_pos (by omega)]
                rw [e3] at hR
                refine WC.seqR rfl ?_
                refine WL.y rfl (Y.move) ?_
                refine WL.y rfl (Y.add64 rfl rfl (by omega)) ?_
                refine WL.y rfl (Y.assign) ?_
                refine WL.nil ?_
                refine WC.block ?_
                refine WC.loop (S := Nat × Array Int) (fun q => b - q.1) (fun q f ds w' => ∃ x dX, q = (x, dX) ∧ 0 < x ∧ x ≤ b ∧ ds = [] ∧ SR w' bl o N cap dX ∧ shiftUp ltI b x dX = shiftUp ltI b (i2 + 1) dE ∧ Kept (fun x => x = bl) w w' ∧ ∃ J, f = Go.Cx.ov J [(0, .slice (some ⟨bl, o, none⟩) N cap), (1, .int .i64 (a : Int)), (2, .int .i64 (b : Int)), (7, .int .i64 (i2 : Int)), (8, .int .i64 ((5 - (t + 1) : Nat) : Int)), (10, .int .i64 (x : Int))]) (i2 + 1, dE) ?_ ?_
                · exact ⟨i2 + 1, dE, rfl, Nat.succ_pos _, (show i2 + 1 ≤ b by omega), rfl, hE, rfl, kE, _, ov_mk ⟨rfl, rfl, rfl, rfl, rfl, rfl, trivial⟩⟩
                · rintro _ _ _ wX ⟨x, dX, rfl, hx0, hxb, rfl, hX, hXR, kX, J, rfl⟩
                  have hsX := hX.1
                  refine WC.seq ?_
                  refine WC.seqR rfl ?_
                  refine WL.y rfl (Y.move) ?_
                  refine WL.y rfl (Y.move) ?_
                  refine WL.y rfl (Y.lss rfl rfl) ?_
                  refine WL.nil ?_
                  refine WC.condD rfl (fun h4 => ?_) (fun h4 => ?_)
                  · have hxb' : x < b := by omega
                    have gx : x < dX.size := by omega
                    have gy : x - 1 < dX.size := by omega
                    refine WC.skip (thenQ.normal ?_)
                    refine WC.seq ?_
                    refine WC.block ?_
                    refine WC.seq ?_
                    by_cases c2 : ltI dX[x]! dX[x - 1]! = true
                    · refine WC.seq ?_
                      refine WC.regionB (fun i => Nat.beq i 9) [(0, .any), (1, .any), (2, .any), (3, .held), (4, .any), (5, .any), (6, .any), (7, .any), (8, .held), (9, .seq), (10, .any)] mixed (by kernel_rfl) (fun wS hS hheap => ?_)
                      refine RL.any rfl rfl (fun _ => Y.move) ?_
                      refine RL.any rfl rfl (fun _ => Y.move) ?_
                      refine RL.yex rfl rfl (Y.idx Try.underlying37 ti22 (by decide) (hX.2.sl) rfl (by omega) (by omega)) ?_
                      rintro _ ⟨b108, o108, rfl, hc108⟩
                      refine RL.held rfl rfl hS (fun _ hb9 => Y.load1 Try.underlying22 rfl rfl (cell_bel (elemI (by omega) (sr_get gx) hc108) hb9)) ?_
                      refine RL.any rfl rfl (fun _ => Y.move) ?_
                      refine RL.any rfl rfl (fun _ => Y.move) ?_
                      refine RL.any rfl rfl (fun _ => Y.sub64 rfl rfl (by omega)) ?_
                      refine RL.yex rfl rfl (Y.idx Try.underlying37 ti22 (by decide) (hX.2.sl) rfl (by omega) (by omega)) ?_
                      rintro _ ⟨b113, o113, rfl, hc113⟩
                      refine RL.held rfl rfl hS (fun _ hb9 => Y.load1 Try.underlying22 rfl rfl (cell_bel (elemI (by omega) (sr_get gy) hc113) hb9)) ?_
                      refine RL.call rfl rfl (C.func go52) (lessT _ _ _ c2) ?_
                      rintro _ _ ⟨rfl, rfl⟩
                      refine ⟨.inl rfl, ?_⟩
                      refine RL.any rfl rfl (fun _ => Y.not rfl) ?_
                      refine RL.nil (thenQ.normal ?_)
                      refine WC.condF (rfl) ?_
                      refine WC.skip (thenQ.normal ?_)
                      refine WC.regionB (fun i => Nat.beq i 15 || Nat.beq i 17) [(0, .any), (1, .any), (2, .any), (3, .any), (4, .any), (5, .any), (6, .any), (7, .any), (8, .any), (9, .held), (10, .any), (11, .any), (12, .any), (13, .held), (14, .any), (15, .seq), (16, .any), (17, .seq)] mixed (by kernel_rfl) (fun wS23 hS23 hheap => ?_)
                      refine RL.any rfl rfl (fun _ => Y.move) ?_
                      refine RL.any rfl rfl (fun _ => Y.move) ?_
                      refine RL.any rfl rfl (fun _ => Y.move) ?_
                      refine RL.any rfl rfl (fun _ => Y.move) ?_
                      refine RL.any rfl rfl (fun _ => Y.sub64 rfl rfl (by omega)) ?_
                      refine RL.any rfl rfl (fun _ => Y.move) ?_
                      refine RL.any rfl rfl (fun _ => Y.move) ?_
                      refine RL.any rfl rfl (fun _ => Y.sub64 rfl rfl (by omega)) ?_
                      refine RL.yex rfl rfl (Y.idx Try.underlying37 ti22 (by decide) ((hX.bel hS).2.sl) rfl (by omega) (by omega)) ?_
                      rintro _ ⟨b125, o125, rfl, hc125⟩
                      refine RL.held rfl rfl hS23 (fun _ hb9 => Y.load1 Try.underlying22 rfl rfl (cell_bel (elemI (by omega) (sr_get gy) hc125) hb9)) ?_
                      refine RL.any rfl rfl (fun _ => Y.move) ?_
                      refine RL.any rfl rfl (fun _ => Y.move) ?_
                      refine RL.yex rfl rfl (Y.idx Try.underlying37 ti22 (by decide) ((hX.bel hS).2.sl) rfl (by omega) (by omega)) ?_
                      rintro _ ⟨b129, o129, rfl, hc129⟩
                      refine RL.held rfl rfl hS23 (fun _ hb9 => Y.load1 Try.underlying22 rfl rfl (cell_bel (elemI (by omega) (sr_get gx) hc129) hb9)) ?_
                      refine RL.any rfl rfl (fun _ => Y.idxO (n := N) (cap := cap) (j := x) Try.underlying37 ti22 rfl rfl rfl (by omega) rfl _) ?_
                      refine RL.eex rfl rfl (E.storeK1 (u := ku dX[x - 1]!) (i := x) ti22 rfl rfl rfl ((hX.bel hS).2.bel hS23) (by omega) rfl) ?_ ?_
                      · exact fun _ _ _ => .inl rfl
                      rintro _ wNa ⟨howNa, hgwNa⟩
                      refine RL.any rfl rfl (fun _ => Y.idxO (n := N) (cap := cap) (j := x - 1) Try.underlying37 ti22 rfl rfl (z1 (by omega)) (by omega) rfl _) ?_
                      refine RL.eex rfl rfl (E.storeK1 (u := ku dX[x]!) (i := x - 1) ti22 rfl rfl rfl howNa (by omega) rfl) ?_ ?_
                      · exact fun _ _ _ => .inl rfl
                      rintro _ wN ⟨howN, hgwN⟩
                      have hwN : SR wN bl o N cap (swp dX (x) (x - 1)) := SR.swp (x) (x - 1) (hX.bel hS).1 howN
                      have kwN : Kept (fun x => x = bl) wS wN := ((Kept.of_bel (M := fun x => x = bl) hS23).trans (Kept.of_grown hgwNa rfl)).trans (Kept.of_grown hgwN rfl)
                      refine RL.nil (inBlockQ.normal (thenQ.normal ?_))
                      refine WC.region rfl ?_
                      refine WL.y rfl (Y.move) ?_
                      refine WL.y rfl (Y.add64 rfl rfl (by omega)) ?_
                      refine WL.y rfl (Y.assign) ?_
                      refine WL.nil (thenQ.normal ?_)
                      exact ⟨(x + 1, swp dX x (x - 1)), (show b - (x + 1) < b - x by omega), x + 1, swp dX x (x - 1), rfl, (by omega), (by omega), rfl, hwN, (shu_go hxb' c2).symm.trans hXR, (kX.bel hS).trans kwN, _, ov_mk ⟨rfl, rfl, rfl, rfl, rfl, rfl, trivial⟩⟩
                    · skip
                      skip
                      refine WC.seq ?_
                      refine WC.regionB (fun i => Nat.beq i 9) [(0, .any), (1, .any), (2, .any), (3, .held), (4, .any), (5, .any), (6, .any), (7, .any), (8, .held), (9, .seq), (10, .any)] mixed (by kernel_rfl) (fun wS hS hheap => ?_)
                      refine RL.any rfl rfl (fun _ => Y.move) ?_
                      refine RL.any rfl rfl (fun _ => Y.move) ?_
                      refine RL.yex rfl rfl (Y.idx Try.underlying37 ti22 (by decide) (hX.2.sl) rfl (by omega) (by omega)) ?_
                      rintro _ ⟨b108, o108, rfl, hc108⟩
                      refine RL.held rfl rfl hS (fun _ hb9 => Y.load1 Try.underlying22 rfl rfl (cell_bel (elemI (by omega) (sr_get gx) hc108) hb9)) ?_
                      refine RL.any rfl rfl (fun _ => Y.move) ?_
                      refine RL.any rfl rfl (fun _ => Y.move) ?_
                      refine RL.any rfl rfl (fun _ => Y.sub64 rfl rfl (by omega)) ?_
                      refine RL.yex rfl rfl (Y.idx Try.underlying37 ti22 (by decide) (hX.2.sl) rfl (by omega) (by omega)) ?_
                      rintro _ ⟨b113, o113, rfl, hc113⟩
                      refine RL.held rfl rfl hS (fun _ hb9 => Y.load1 Try.underlying22 rfl rfl (cell_bel (elemI (by omega) (sr_get gy) hc113) hb9)) ?_
                      refine RL.call rfl rfl (C.func go52) (lessF _ _ _ c2) ?_
                      rintro _ _ ⟨rfl, rfl⟩
                      refine ⟨.inl rfl, ?_⟩
                      refine RL.any rfl rfl (fun _ => Y.not rfl) ?_
                      refine RL.nil (thenQ.normal ?_)
                      refine WC.condT (rfl) ?_
                      refine WC.exit (thenQ.exit (inBlockQ.miss rfl (thenQ.exit (thenQ.exit (inBlockQ.hit (inBlockQ.normal (thenQ.normal ?_)))))))
                      refine WC.region rfl ?_
                      refine WL.y rfl (Y.move) ?_
                      refine WL.y rfl (Y.add64 rfl rfl (by omega)) ?_
                      refine WL.y rfl (Y.assign) ?_
                      refine WL.nil (thenQ.normal ?_)
                      rw [← hXR, shu_stop c2] at hR
                      exact ⟨(t, i2, dX), Nat.lt_succ_self _, t, i2, _, rfl, (by omega), (by omega), r2, rfl, hX.bel hS, hR, kX.bel hS, _, ov_mk ⟨rfl, rfl, rfl, rfl, congrArg (Value.int .i64) (show ((5 - (t + 1) : Nat) : Int) + 1 = ((5 - t : Nat) : Int) by omega), trivial⟩⟩
                  · refine WC.exit (thenQ.exit (thenQ.exit (inBlockQ.hit (inBlockQ.normal (thenQ.normal ?_)))))
                    refine WC.region rfl ?_
                    refine WL.y rfl (Y.move) ?_
                    refine WL.y rfl (Y.add64 rfl rfl (by omega)) ?_
                    refine WL.y rfl (Y.assign) ?_
                    refine WL.nil (thenQ.normal ?_)
                    rw [← hXR, shu_end (by omega)] at hR
                    exact ⟨(t, i2, dX), Nat.lt_succ_self _, t, i2, _, rfl, (by omega), (by omega), r2, rfl, hX, hR, kX, _, ov_mk ⟨rfl, rfl, rfl, rfl, congrArg (Value.int .i64) (show ((5 - (t + 1) : Nat) : Int) + 1 = ((5 - t : Nat) : Int) by omega), trivial⟩⟩
              · have e3 : pC b i2 dE = dE := by unfold pC; rw [if_neg (by omega)]
                rw [e3] at hR
                refine WC.skip (inBlockQ.normal (thenQ.normal ?_))
                refine WC.region rfl ?_
                refine WL.y rfl (Y.move) ?_
                refine WL.y rfl (Y.add64 rfl rfl (by omega)) ?_
                refine WL.y rfl (Y.assign) ?_
                refine WL.nil (thenQ.normal ?_)
                exact ⟨(t, i2, dE), Nat.lt_succ_self _, t, i2, _, rfl, (by omega), (by omega), r2, rfl, hE, hR, kE, _, ov_mk ⟨rfl, rfl, rfl, rfl, congrArg (Value.int .i64) (show ((5 - (t + 1) : Nat) : Int) + 1 = ((5 - t : Nat) : Int) by omega), trivial⟩⟩
    · obtain rfl : s = 0 := by omega
      have hR' : (dL, false) = partialInsertionSort ltI d a b := hR
      refine WC.exit (thenQ.exit (thenQ.exit (inBlockQ.hit (thenQ.normal ?_))))
      refine WC.seqR rfl ?_
      refine WL.y rfl (Y.assign) ?_
      refine WL.nil ?_
      refine WC.ret (endQ.one (.inr rfl) ?_)
      rw [← hR']
      exact ⟨rfl, hL, kL⟩
end Go.Proofs.Ytlhhognabmnlmaa
