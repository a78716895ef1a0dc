/-
  slices.Sort at uint64: breakPatterns: walk.
-/
import Derived.Test.YtlhhognabmnlmaaSrt3
namespace Go.Proofs.Ytlhhognabmnlmaa
open Go Go.RowKit Go.Cx
set_option linter.unusedVariables false
set_option maxHeartbeats 8000000
set_option maxRecDepth 20000
open Go.Sort
/-- behind so many rounds -/
def bs (a l m i0 : Nat) (d : Array Int) : Nat → UInt64 × Array Int
  | 0 => (UInt64.ofNat l, d)
  | t + 1 => breakStep a l m (bs a l m i0 d t) (i0 + t)
theorem bp_eq {d : Array Int} {a b : Nat} (h : 12 < b - a) : breakPatterns d a b = (bs a (b - a) (1 <<< bitsLen (b - a)) (a + (b - a) / 4 * 2 - 1) d 3).2 := by
  unfold breakPatterns
  simp only [if_pos (show b - a ≥ 8 by omega)]
  rfl
theorem pow_le {n : Nat} (h : 0 < n) : 1 <<< bitsLen n ≤ 2 * n ∧ 0 < 1 <<< bitsLen n := by
  rw [Nat.shiftLeft_eq, Nat.one_mul]
  unfold bitsLen
  rw [if_neg (by omega)]
  refine ⟨?_, Nat.pow_pos (by omega)⟩
  rw [Nat.pow_succ]
  have := Nat.log2_self_le (n := n) (by omega)
  omega
/-- the other place -/
def oth (l m : Nat) (u : UInt64) : Nat := if u.toNat &&& (m - 1) ≥ l then (u.toNat &&& (m - 1)) - l else u.toNat &&& (m - 1)
theorem oth_lt {l m : Nat} {u : UInt64} (h0 : 0 < l) (hm : m ≤ 2 * l) (hm0 : 0 < m) : oth l m u < l := by
  have : u.toNat &&& (m - 1) ≤ m - 1 := Nat.and_le_right
  unfold oth
  split <;> omega
theorem bs_step {a l m i0 t : Nat} {d : Array Int} : bs a l m i0 d (t + 1) = (xorNext (bs a l m i0 d t).1, swp (bs a l m i0 d t).2 (i0 + t) (a + oth l m (xorNext (bs a l m i0 d t).1))) := rfl
theorem bp_ret {w : World} {bl o N cap : Nat} {d : Array Int} (a b : Nat) (h : SR w bl o N cap d) (hb : b ≤ N) (hN : N ≤ 60000) (hab : 12 < b - a) : Ret Try.prog 48 [.slice (some ⟨bl, o, none⟩) N cap, .int .i64 (a : Int), .int .i64 (b : Int)].toArray w fun _ w' => SR w' bl o N cap (breakPatterns d a b) ∧ Kept (fun x => x = bl) w w' := by
  rw [bp_eq hab]
  have el : ((b : Int) - (a : Int)) = ((b - a : Nat) : Int) := by omega
  have ei : (a : Int) + ((b : Int) - (a : Int)) / 4 * 2 - 1 = ((a + (b - a) / 4 * 2 - 1 : Nat) : Int) := by omega
  have hqq := pow_le (n := b - a) (by omega)
  obtain ⟨hm1, hm0⟩ := hqq
  have hlN : b - a < 65536 := by omega
  have hms : (1 : Nat) <<< bitsLen (b - a) = (1#64 <<< bitsLen (b - a)).toNat := by
    rw [BitVec.toNat_shiftLeft]
    show _ = (1 % 2 ^ 64) <<< bitsLen (b - a) % 2 ^ 64
    rw [show (1 % 2 ^ 64 : Nat) = 1 by decide, Nat.mod_eq_of_lt]
    omega
  generalize hL : b - a = l at *
  generalize hI : a + l / 4 * 2 - 1 = i0 at *
  generalize hM : (1 : Nat) <<< bitsLen l = m at *
  refine Ret.of (n := 65) (rs := #[]) Try.func48 rfl rfl rfl (by simp) ?_
  refine WC.seqR rfl ?_
  refine WL.y rfl (Y.move) ?_
  refine WL.y rfl (Y.move) ?_
  refine WL.y rfl (Y.sub64 rfl rfl (by omega)) ?_
  refine WL.y rfl (Y.assign) ?_
  refine WL.nil ?_
  refine WC.seqR rfl ?_
  refine WL.y rfl (Y.move) ?_
  refine WL.y rfl (Y.dT (Y.geq rfl rfl) (by omega)) ?_
  refine WL.nil ?_
  refine WC.condT (rfl) ?_
  refine WC.seqR rfl ?_
  refine WL.y rfl (Y.move) ?_
  refine WL.y rfl (Y.conviR Try.underlying3 Try.underlying96 rfl (by simp only [IntKind.min, IntKind.max, IntKind.signed, IntKind.bits]; omega)) ?_
  refine WL.eex rfl (E.allocX ti96) ?_
  rintro _ w7 ⟨rfl, hB7, hb7⟩
  refine WL.eex rfl (E.storeX (u := u64w (BitVec.ofNat 64 l)) ti96 rfl (by show Value.int .u64 ((b : Int) - (a : Int)) = _; rw [el]; unfold u64w; rw [BitVec.toNat_ofNat, Nat.mod_eq_of_lt (by omega)]) rfl (show Blk w7 w.heap.size 96 [.int .u64 0] from hB7) Nat.one_pos) ?_
  rintro _ w7s ⟨hB7', hg7, -⟩
  refine WL.nil ?_
  refine WC.seqR rfl ?_
  refine WL.y rfl (Y.move) ?_
  refine WL.call rfl (C.func go58) (npt_ret _ l el hlN) ?_
  rintro _ _ ⟨rfl, rfl⟩
  refine WL.y rfl (Y.assign) ?_
  refine WL.nil ?_
  refine WC.seqR rfl ?_
  refine WL.y rfl (Y.move) ?_
  refine WL.y rfl (Y.move) ?_
  refine WL.y rfl (Y.quo64 rfl rfl (by omega) (by omega)) ?_
  refine WL.y rfl (Y.mul64 rfl rfl (by omega)) ?_
  refine WL.y rfl (Y.add64 rfl rfl (by omega)) ?_
  refine WL.y rfl (Y.sub64 rfl rfl (by omega)) ?_
  refine WL.y rfl (Y.assign) ?_
  refine WL.nil ?_
  refine WC.block ?_
  have hC : Blk w7s w.heap.size 96 [u64w (UInt64.ofNat l).toBitVec] := hB7'
  have lC := hC.lt
  have s7 := hb7.size
  have s7s := hg7.size
  have hO7 : bl < w.heap.size := by
    have hqq := h.2.form (by omega)
    obtain ⟨_, _, e, _, _, hlt⟩ := hqq
    cases e
    exact hlt
  have h7 : SR w7s bl o N cap d := (h.bel hb7).keep (Kept.of_grown (M := fun x => x = w.heap.size) hg7 rfl) (by omega)
  have k7 : Kept (fun x => x = bl) w w7s := Kept.of_bel (Below.stepG hb7 hg7 (Nat.le_refl _))
  refine WC.loop (fun t => 3 - t) (fun t f ds w' => t ≤ 3 ∧ ds = [] ∧ SR w' bl o N cap (bs a l m i0 d t).2 ∧ Blk w' w.heap.size 96 [u64w (bs a l m i0 d t).1.toBitVec] ∧ Kept (fun x => x = bl) w w' ∧ ∃ J, f = Go.Cx.ov J [(0, .slice (some ⟨bl, o, none⟩) N cap), (1, .int .i64 (a : Int)), (6, .int .i64 (l : Int)), (7, .pointer (some ⟨w.heap.size, 0, none⟩)), (8, .int .u64 (m : Int)), (9, .int .i64 ((i0 + t : Nat) : Int))]) 0 ?_ ?_
  · exact ⟨by omega, rfl, h7, hC, k7, _, ov_mk ⟨rfl, rfl, congrArg (Value.int .i64) el, rfl, (by rw [hms]; rfl), congrArg (Value.int .i64) ei, trivial⟩⟩
  · rintro t _ _ wL ⟨ht, rfl, hL, hCL, kL, J, rfl⟩
    have hsz := hL.1
    refine WC.seq ?_
    refine WC.seqR rfl ?_
    refine WL.y rfl (Y.move) ?_
    refine WL.y rfl (Y.move) ?_
    refine WL.y rfl (Y.move) ?_
    refine WL.y rfl (Y.quo64 rfl rfl (by omega) (by omega)) ?_
    refine WL.y rfl (Y.mul64 rfl rfl (by omega)) ?_
    refine WL.y rfl (Y.add64 rfl rfl (by omega)) ?_
    refine WL.y rfl (Y.add64 rfl rfl (by omega)) ?_
    refine WL.y rfl (Y.leq rfl rfl) ?_
    refine WL.nil ?_
    refine WC.condD rfl (fun h0 => ?_) (fun h0 => ?_)
    · have ht2 : t ≤ 2 := by omega
      have hst := bs_step (a := a) (l := l) (m := m) (i0 := i0) (t := t) (d := d)
      generalize (bs a l m i0 d t).1 = u at *
      generalize (bs a l m i0 d t).2 = dL at *
      have ho := oth_lt (l := l) (m := m) (u := xorNext u) (by omega) hm1 hm0
      have hX : (nx u.toBitVec &&& BitVec.ofNat 64 (m - 1)).toNat = (xorNext u).toNat &&& (m - 1) := by
        rw [BitVec.toNat_and, BitVec.toNat_ofNat, Nat.mod_eq_of_lt (by omega), ← nx_eq]
        rfl
      have hXle : (xorNext u).toNat &&& (m - 1) ≤ m - 1 := Nat.and_le_right
      have j1 : i0 + t < dL.size := by omega
      have j2 : a + oth l m (xorNext u) < dL.size := by omega
      refine WC.skip (thenQ.normal ?_)
      refine WC.seq ?_
      refine WC.block ?_
      refine WC.seqR rfl ?_
      refine WL.call rfl (C.func go59) (next_ret _ _ _ hCL) ?_
      rintro _ w36 ⟨rfl, hC36, k36⟩
      refine WL.y rfl (Y.move) ?_
      refine WL.y rfl (Y.subU64 rfl rfl (by omega)) ?_
      refine WL.y rfl (Y.andU64 (b := BitVec.ofNat 64 (m - 1)) rfl (by show Value.int .u64 ((m : Int) - 1) = _; unfold u64w; rw [BitVec.toNat_ofNat, Nat.mod_eq_of_lt (by omega)]; congr 1; omega)) ?_
      refine WL.y rfl (Y.conviR Try.underlying80 Try.underlying3 rfl (by rw [hX]; simp only [IntKind.min, IntKind.max, IntKind.signed, IntKind.bits]; omega)) ?_
      refine WL.y rfl (Y.assign) ?_
      refine WL.nil ?_
      refine WC.seq ?_
      refine WC.seqR rfl ?_
      refine WL.y rfl (Y.move) ?_
      refine WL.y rfl (Y.move) ?_
      refine WL.y rfl (Y.geq rfl rfl) ?_
      refine WL.nil ?_
      have h36 : SR w36 bl o N cap dL := hL.keep k36 (by omega)
      refine WC.cut (fun f ds w' => ds = [] ∧ w36 = w' ∧ ∃ J, f = Go.Cx.ov J [(0, .slice (some ⟨bl, o, none⟩) N cap), (1, .int .i64 (a : Int)), (6, .int .i64 (l : Int)), (7, .pointer (some ⟨w.heap.size, 0, none⟩)), (8, .int .u64 (m : Int)), (9, .int .i64 ((i0 + t : Nat) : Int)), (10, .int .i64 ((oth l m (xorNext u) : Nat) : Int))]) ?_ ?_
      · skip
        refine WC.condD rfl (fun h1 => ?_) (fun h1 => ?_)
        · have hge : (xorNext u).toNat &&& (m - 1) ≥ l := by omega
          have eo : oth l m (xorNext u) = ((xorNext u).toNat &&& (m - 1)) - l := by unfold oth; rw [if_pos hge]
          refine WC.region rfl ?_
          refine WL.y rfl (Y.move) ?_
          refine WL.y rfl (Y.move) ?_
          refine WL.y rfl (Y.sub64 rfl rfl (by omega)) ?_
          refine WL.y rfl (Y.assign) ?_
          refine WL.nil (thenQ.normal ?_)
          exact ⟨rfl, rfl, _, ov_mk ⟨rfl, rfl, rfl, rfl, rfl, rfl, (show Value.int .i64 ((((nx u.toBitVec &&& BitVec.ofNat 64 (m - 1)).toNat : Nat) : Int) - (l : Int)) = _ by rw [eo, hX]; congr 1; omega), trivial⟩⟩
        · have hge : ¬ (xorNext u).toNat &&& (m - 1) ≥ l := by omega
          have eo : oth l m (xorNext u) = ((xorNext u).toNat &&& (m - 1)) := by unfold oth; rw [if_neg hge]
          refine WC.skip (thenQ.normal ?_)
          exact ⟨rfl, rfl, _, ov_mk ⟨rfl, rfl, rfl, rfl, rfl, rfl, (show Value.int .i64 (((nx u.toBitVec &&& BitVec.ofNat 64 (m - 1)).toNat : Nat) : Int) = _ by rw [eo, hX]), trivial⟩⟩
      · rintro _ _ _ ⟨rfl, rfl, J2, rfl⟩
        refine WC.regionB (fun i => Nat.beq i 17 || Nat.beq i 19) [(0, .any), (1, .any), (2, .any), (3, .any), (4, .any), (5, .any), (6, .any), (7, .any), (8, .any), (9, .any), (10, .any), (11, .held), (12, .any), (13, .any), (14, .any), (15, .held), (16, .any), (17, .seq), (18, .any), (19, .seq)] mixed (by kernel_rfl) (fun w10x hS10 hheap => ?_)
        refine RL.any rfl rfl (fun _ => Y.move) ?_
        refine RL.any rfl rfl (fun _ => Y.move) ?_
        refine RL.any rfl rfl (fun _ => Y.move) ?_
        refine RL.any rfl rfl (fun _ => Y.move) ?_
        refine RL.any rfl rfl (fun _ => Y.move) ?_
        refine RL.any rfl rfl (fun _ => Y.add64 rfl rfl (by omega)) ?_
        refine RL.any rfl rfl (fun _ => Y.move) ?_
        refine RL.any rfl rfl (fun _ => Y.move) ?_
        refine RL.any rfl rfl (fun _ => Y.move) ?_
        refine RL.any rfl rfl (fun _ => Y.add64 rfl rfl (by omega)) ?_
        refine RL.yex rfl rfl (Y.idx Try.underlying37 ti22 (by decide) (h36.2.sl) rfl (by omega) (by omega)) ?_
        rintro _ ⟨b57, o57, rfl, hc57⟩
        refine RL.held rfl rfl hS10 (fun _ hb9 => Y.load1 Try.underlying22 rfl rfl (cell_bel (elemI (by omega) (sr_get j2) hc57) hb9)) ?_
        refine RL.any rfl rfl (fun _ => Y.move) ?_
        refine RL.any rfl rfl (fun _ => Y.move) ?_
        refine RL.yex rfl rfl (Y.idx Try.underlying37 ti22 (by decide) (h36.2.sl) rfl (by omega) (by omega)) ?_
        rintro _ ⟨b61, o61, rfl, hc61⟩
        refine RL.held rfl rfl hS10 (fun _ hb9 => Y.load1 Try.underlying22 rfl rfl (cell_bel (elemI (by omega) (sr_get j1) hc61) hb9)) ?_
        refine RL.any rfl rfl (fun _ => Y.idxO (n := N) (cap := cap) (j := i0 + t) Try.underlying37 ti22 rfl rfl rfl (by omega) rfl _) ?_
        refine RL.eex rfl rfl (E.storeK1 (u := ku dL[a + oth l m (xorNext u)]!) (i := i0 + t) ti22 rfl rfl rfl (h36.2.bel hS10) (by omega) rfl) ?_ ?_
        · exact fun _ _ _ => .inl rfl
        rintro _ w101 ⟨ho101, hg101⟩
        refine RL.any rfl rfl (fun _ => Y.idxO (n := N) (cap := cap) (j := a + oth l m (xorNext u)) Try.underlying37 ti22 rfl rfl rfl (by omega) rfl _) ?_
        refine RL.eex rfl rfl (E.storeK1 (u := ku dL[i0 + t]!) (i := a + oth l m (xorNext u)) ti22 rfl rfl rfl ho101 (by omega) rfl) ?_ ?_
        · exact fun _ _ _ => .inl rfl
        rintro _ w102 ⟨ho102, hg102⟩
        refine RL.nil (inBlockQ.normal (thenQ.normal ?_))
        refine WC.region rfl ?_
        refine WL.y rfl (Y.move) ?_
        refine WL.y rfl (Y.add64 rfl rfl (by omega)) ?_
        refine WL.y rfl (Y.assign) ?_
        refine WL.nil (thenQ.normal ?_)
        have hSW : SR w102 bl o N cap (swp dL (i0 + t) (a + oth l m (xorNext u))) := SR.swp _ _ hsz ho102
        have kk : Kept (fun x => x = bl) w36 w102 := ((Kept.of_bel (M := fun x => x = bl) hS10).trans (Kept.of_grown hg101 rfl)).trans (Kept.of_grown hg102 rfl)
        have kL2 : Kept (fun x => x = bl) w w102 := (kL.trans' k36 (fun c e h => by omega)).trans kk
        refine ⟨t + 1, by omega, by omega, rfl, by rw [hst]; exact hSW, by rw [hst]; show Blk _ _ _ [u64w (xorNext u).toBitVec]; rw [nx_eq]; exact hC36.kept kk (by omega), kL2, _, ov_mk ⟨rfl, rfl, rfl, rfl, rfl, rfl, trivial⟩⟩
    · have ht3 : t = 3 := by omega
      subst ht3
      refine WC.exit (thenQ.exit (thenQ.exit (inBlockQ.hit (endQ.zero (.inl rfl) ?_))))
      exact ⟨hL, kL⟩
end Go.Proofs.Ytlhhognabmnlmaa
