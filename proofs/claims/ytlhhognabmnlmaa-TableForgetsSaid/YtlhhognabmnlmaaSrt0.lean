/-
  slices.Sort at uint64: a row of numbers; cmp.Less, insertionSort: walks (each computes the kit's plain function).
-/
import Derived.Test.YtlhhognabmnlmaaTab14
import Derived.Sort.AssemblyPlain
namespace Go.Proofs.Ytlhhognabmnlmaa
open Go Go.RowKit Go.Cx
set_option linter.unusedVariables false
set_option maxHeartbeats 8000000
open Go.Sort
def ltI (x y : Int) : Bool := decide (x < y)
/-- a row of N numbers -/
def SR (w : World) (bl o N cap : Nat) (d : Array Int) : Prop := d.size = N ∧ OwnK w bl 22 1 (.slice (some ⟨bl, o, none⟩) N cap) N (d.toList.map ku)
theorem SR.bel {w w' : World} {bl o N cap : Nat} {d : Array Int} (h : SR w bl o N cap d) (hb : Below w.heap.size w w') : SR w' bl o N cap d := ⟨h.1, h.2.bel hb⟩
theorem sr_get {d : Array Int} {i : Nat} (h : i < d.size) : (d.toList.map ku)[i]? = some (ku d[i]!) := by
  rw [List.getElem?_map, Array.getElem?_toList, Array.getElem?_eq_getElem h, getElem!_pos d i h]
  rfl
theorem elemI {w : World} {b o i : Nat} {z : Int} {xs : List Value} {u : Value} (hz : z.toNat = i) (hx : xs[i]? = some u) (hc : Cells w b o ((xs.drop (z.toNat * 1)).take 1)) : w.cell? ⟨b, o, none⟩ = some u := by
  refine hc 0 u ?_
  rw [hz, Nat.mul_one, List.getElem?_take_of_lt (by omega), List.getElem?_drop, Nat.add_zero]
  exact hx
theorem swp_size (d : Array Int) (i j : Nat) : (swp d i j).size = d.size := by simp [swp]
theorem SR.swp {w : World} {bl o N cap : Nat} {d : Array Int} (i j : Nat) (h : d.size = N) (ho : OwnK w bl 22 1 (.slice (some ⟨bl, o, none⟩) N cap) N (((d.toList.map ku).set i (ku d[j]!)).set j (ku d[i]!))) : SR w bl o N cap (Go.Sort.swp d i j) := by
  refine ⟨by rw [swp_size]; exact h, ?_⟩
  have : (Go.Sort.swp d i j).toList.map ku = ((d.toList.map ku).set i (ku d[j]!)).set j (ku d[i]!) := by
    unfold Go.Sort.swp
    rw [Array.toList_setIfInBounds, Array.toList_setIfInBounds, List.map_set, List.map_set]
  rw [this]
  exact ho
theorem nan_ret (w : World) (x : Int) : Ret Try.prog 62 [.int .u64 x].toArray w fun v w' => v = .bool false ∧ w = w' := by
  refine Ret.of (n := 6) (rs := #[.tmp 2]) Try.func62 rfl rfl rfl (by simp) ?_
  refine WC.seqR rfl ?_
  refine WL.y rfl (Y.assign) ?_
  refine WL.nil ?_
  refine WC.seqR rfl ?_
  refine WL.y rfl (Y.move) ?_
  refine WL.y rfl (Y.move) ?_
  refine WL.y rfl (Y.nei rfl rfl) ?_
  refine WL.y rfl (Y.assign) ?_
  refine WL.nil ?_
  refine WC.ret (endQ.one (.inr rfl) ?_)
  exact ⟨show Value.bool (decide (x ≠ x)) = _ by simp, rfl⟩
theorem less_ret (w : World) (x y : Int) : Ret Try.prog 52 [.int .u64 x, .int .u64 y].toArray w fun v w' => v = .bool (ltI x y) ∧ w = w' := by
  refine Ret.of (n := 17) (rs := #[.tmp 4]) Try.func52 rfl rfl rfl (by simp) ?_
  refine WC.seqR rfl ?_
  refine WL.y rfl (Y.assign) ?_
  refine WL.nil ?_
  refine WC.seqR rfl ?_
  refine WL.y rfl (Y.move) ?_
  refine WL.call rfl (C.func go62) (nan_ret _ _) ?_
  rintro _ _ ⟨rfl, rfl⟩
  refine WL.y rfl (Y.move) ?_
  refine WL.off rfl ?_
  refine WL.off rfl ?_
  refine WL.off rfl ?_
  refine WL.y rfl (Y.pickF rfl) ?_
  refine WL.y rfl (Y.move) ?_
  refine WL.y rfl (Y.move) ?_
  refine WL.y rfl (Y.move) ?_
  refine WL.y rfl (Y.lss rfl rfl) ?_
  refine WL.y rfl (Y.pickF rfl) ?_
  refine WL.y rfl (Y.assign) ?_
  refine WL.nil ?_
  refine WC.ret (endQ.one (.inr rfl) ?_)
  exact ⟨rfl, rfl⟩
theorem lessT (w : World) (x y : Int) (h : ltI x y = true) : Ret Try.prog 52 [.int .u64 x, .int .u64 y].toArray w fun v w' => v = .bool true ∧ w = w' := (less_ret w x y).mono fun v w' ⟨a, b⟩ => ⟨by rw [a, h], b⟩
theorem lessF (w : World) (x y : Int) (h : ¬ ltI x y = true) : Ret Try.prog 52 [.int .u64 x, .int .u64 y].toArray w fun v w' => v = .bool false ∧ w = w' := (less_ret w x y).mono fun v w' ⟨a, b⟩ => ⟨by rw [a]; cases e : ltI x y with | false => rfl | true => exact absurd e h, b⟩
theorem insInner_go {a j : Nat} {d : Array Int} (h1 : a < j) (h2 : ltI d[j]! d[j - 1]! = true) : insInner ltI a j d = insInner ltI a (j - 1) (swp d j (j - 1)) := by
  cases j with
  | zero => omega
  | succ j =>
    rw [insInner, if_pos (by simp only [Nat.add_sub_cancel] at h2; rw [h2]; simpa using h1)]
    rfl
theorem insInner_stop {a j : Nat} {d : Array Int} (h : ¬ (a < j ∧ ltI d[j]! d[j - 1]! = true)) : insInner ltI a j d = d := by
  cases j with
  | zero => rfl
  | succ j =>
    rw [insInner, if_neg]
    simp only [Bool.and_eq_true, decide_eq_true_eq]
    exact h
theorem z1 {j : Nat} (h : 0 < j) : ((j : Int) - 1) = ((j - 1 : Nat) : Int) := by omega
theorem ins_ret {w : World} {bl o N cap : Nat} {d : Array Int} (a b : Nat) (h : SR w bl o N cap d) (hb : b ≤ N) (hN : N ≤ 100000) (hab : a ≤ b) : Ret Try.prog 46 [.slice (some ⟨bl, o, none⟩) N cap, .int .i64 (a : Int), .int .i64 (b : Int)].toArray w fun _ w' => SR w' bl o N cap (insertionSort ltI d a b) ∧ Kept (fun x => x = bl) w w' := by
  refine Ret.of (n := 49) (rs := #[]) Try.func46 rfl rfl rfl (by simp) ?_
  refine WC.seqR rfl ?_
  refine WL.y rfl (Y.move) ?_
  refine WL.y rfl (Y.add64 rfl rfl (by omega)) ?_
  refine WL.y rfl (Y.assign) ?_
  refine WL.nil ?_
  refine WC.block ?_
  refine WC.loop (S := Nat × Array Int) (fun q => b + 1 - q.1) (fun q f ds w' => a < q.1 ∧ ds = [] ∧ SR w' bl o N cap q.2 ∧ insOuter ltI a b q.1 q.2 = insertionSort ltI d a b ∧ Kept (fun x => x = bl) w w' ∧ ∃ J, f = Go.Cx.ov J [(0, .slice (some ⟨bl, o, none⟩) N cap), (1, .int .i64 (a : Int)), (2, .int .i64 (b : Int)), (6, .int .i64 (q.1 : Int))]) (a + 1, d) ?_ ?_
  · exact ⟨Nat.lt_succ_self _, rfl, h, rfl, Kept.refl _ _, _, ov_mk ⟨rfl, rfl, rfl, rfl, trivial⟩⟩
  · rintro ⟨i, dL⟩ _ _ wL ⟨hai, rfl, hL, hR, kL, J, rfl⟩
    simp only at hai hL hR
    refine WC.seq ?_
    refine WC.seqR rfl ?_
    refine WL.y rfl (Y.move) ?_
    refine WL.y rfl (Y.move) ?_
    refine WL.y rfl (Y.lss rfl rfl) ?_
    refine WL.nil ?_
    refine WC.condD rfl (fun h0 => ?_) (fun h0 => ?_)
    · have hib : i < b := by simp only at h0; omega
      rw [insOuter, if_pos hib] at hR
      refine WC.skip (thenQ.normal ?_)
      refine WC.seq ?_
      refine WC.block ?_
      refine WC.seqR rfl ?_
      refine WL.y rfl (Y.move) ?_
      refine WL.y rfl (Y.assign) ?_
      refine WL.nil ?_
      refine WC.block ?_
      refine WC.loop (S := Nat × Array Int) (fun q => q.1) (fun q f ds w' => q.1 ≤ i ∧ ds = [] ∧ SR w' bl o N cap q.2 ∧ insInner ltI a q.1 q.2 = insInner ltI a i dL ∧ Kept (fun x => x = bl) w w' ∧ ∃ J, f = Go.Cx.ov J [(0, .slice (some ⟨bl, o, none⟩) N cap), (1, .int .i64 (a : Int)), (2, .int .i64 (b : Int)), (6, .int .i64 (i : Int)), (7, .int .i64 (q.1 : Int))]) (i, dL) ?_ ?_
      · exact ⟨Nat.le_refl _, rfl, hL, rfl, kL, _, ov_mk ⟨rfl, rfl, rfl, rfl, rfl, trivial⟩⟩
      · rintro ⟨j, dM⟩ _ _ wM ⟨hji, rfl, hM, hRM, kM, J2, rfl⟩
        simp only at hji hM hRM
        have hMs := hM.1
        refine WC.seq ?_
        by_cases c1 : a < j
        · have hj1 : j - 1 < dM.size := by omega
          have hj2 : j < dM.size := by omega
          by_cases c2 : ltI dM[j]! dM[j - 1]! = true
          · refine WC.seq ?_
            refine WC.regionB (fun i => Nat.beq i 13) [(0, .any), (1, .any), (2, .any), (3, .any), (4, .any), (5, .any), (6, .any), (7, .held), (8, .any), (9, .any), (10, .any), (11, .any), (12, .held), (13, .seq), (14, .any)] mixed (by kernel_rfl) (fun w4x hS4 hheap => ?_)
            refine RL.any rfl rfl (fun _ => Y.move) ?_
            refine RL.any rfl rfl (fun _ => Y.move) ?_
            refine RL.any rfl rfl (fun _ => Y.dT (Y.gtr rfl rfl) (by omega)) ?_
            refine RL.any rfl rfl (fun _ => Y.move) ?_
            refine RL.any rfl rfl (fun _ => Y.move) ?_
            refine RL.any rfl rfl (fun _ => Y.move) ?_
            refine RL.yex rfl rfl (Y.idx Try.underlying37 ti22 (by decide) (hM.2.sl) rfl (by omega) (by omega)) ?_
            rintro _ ⟨b22, o22, rfl, hc22⟩
            refine RL.held rfl rfl hS4 (fun _ hb9 => Y.load1 Try.underlying22 rfl rfl (cell_bel (elemI (by omega) (sr_get hj2) hc22) hb9)) ?_
            refine RL.any rfl rfl (fun _ => Y.move) ?_
            refine RL.any rfl rfl (fun _ => Y.move) ?_
            refine RL.any rfl rfl (fun _ => Y.sub64 rfl rfl (by omega)) ?_
            refine RL.yex rfl rfl (Y.idx Try.underlying37 ti22 (by decide) (hM.2.sl) rfl (by omega) (by omega)) ?_
            rintro _ ⟨b27, o27, rfl, hc27⟩
            refine RL.held rfl rfl hS4 (fun _ hb9 => Y.load1 Try.underlying22 rfl rfl (cell_bel (elemI (by omega) (sr_get hj1) hc27) hb9)) ?_
            refine RL.call rfl rfl (C.func go52) (lessT _ _ _ c2) ?_
            rintro _ _ ⟨rfl, rfl⟩
            refine ⟨.inl rfl, ?_⟩
            refine RL.any rfl rfl (fun _ => Y.pickT rfl) ?_
            refine RL.nil (thenQ.normal ?_)
            refine WC.condT (rfl) ?_
            refine WC.skip (thenQ.normal ?_)
            refine WC.seq ?_
            refine WC.block ?_
            refine WC.regionB (fun i => Nat.beq i 15 || Nat.beq i 17) [(0, .any), (1, .any), (2, .any), (3, .any), (4, .any), (5, .any), (6, .any), (7, .any), (8, .any), (9, .held), (10, .any), (11, .any), (12, .any), (13, .held), (14, .any), (15, .seq), (16, .any), (17, .seq)] mixed (by kernel_rfl) (fun w6x hS6 hheap => ?_)
            refine RL.any rfl rfl (fun _ => Y.move) ?_
            refine RL.any rfl rfl (fun _ => Y.move) ?_
            refine RL.any rfl rfl (fun _ => Y.move) ?_
            refine RL.any rfl rfl (fun _ => Y.move) ?_
            refine RL.any rfl rfl (fun _ => Y.sub64 rfl rfl (by omega)) ?_
            refine RL.any rfl rfl (fun _ => Y.move) ?_
            refine RL.any rfl rfl (fun _ => Y.move) ?_
            refine RL.any rfl rfl (fun _ => Y.sub64 rfl rfl (by omega)) ?_
            refine RL.yex rfl rfl (Y.idx Try.underlying37 ti22 (by decide) ((hM.2.bel hS4).sl) rfl (by omega) (by omega)) ?_
            rintro _ ⟨b41, o41, rfl, hc41⟩
            refine RL.held rfl rfl hS6 (fun _ hb9 => Y.load1 Try.underlying22 rfl rfl (cell_bel (elemI (by omega) (sr_get hj1) hc41) hb9)) ?_
            refine RL.any rfl rfl (fun _ => Y.move) ?_
            refine RL.any rfl rfl (fun _ => Y.move) ?_
            refine RL.yex rfl rfl (Y.idx Try.underlying37 ti22 (by decide) ((hM.2.bel hS4).sl) rfl (by omega) (by omega)) ?_
            rintro _ ⟨b45, o45, rfl, hc45⟩
            refine RL.held rfl rfl hS6 (fun _ hb9 => Y.load1 Try.underlying22 rfl rfl (cell_bel (elemI (by omega) (sr_get hj2) hc45) hb9)) ?_
            refine RL.any rfl rfl (fun _ => Y.idxO (n := N) (cap := cap) (j := j) Try.underlying37 ti22 rfl rfl rfl (by omega) rfl _) ?_
            refine RL.eex rfl rfl (E.storeK1 (u := ku dM[j - 1]!) (i := j) ti22 rfl rfl rfl ((hM.2.bel hS4).bel hS6) (by omega) rfl) ?_ ?_
            · exact fun _ _ _ => .inl rfl
            rintro _ w61 ⟨ho61, hg61⟩
            refine RL.any rfl rfl (fun _ => Y.idxO (n := N) (cap := cap) (j := j - 1) Try.underlying37 ti22 rfl rfl (z1 (by omega)) (by omega) rfl _) ?_
            refine RL.eex rfl rfl (E.storeK1 (u := ku dM[j]!) (i := j - 1) ti22 rfl rfl rfl ho61 (by omega) rfl) ?_ ?_
            · exact fun _ _ _ => .inl rfl
            rintro _ w62 ⟨ho62, hg62⟩
            refine RL.nil (inBlockQ.normal (thenQ.normal ?_))
            refine WC.region rfl ?_
            refine WL.y rfl (Y.move) ?_
            refine WL.y rfl (Y.sub64 rfl rfl (by omega)) ?_
            refine WL.y rfl (Y.assign) ?_
            refine WL.nil (thenQ.normal ?_)
            have hSW : SR w62 bl o N cap (swp dM j (j - 1)) := SR.swp j (j - 1) hMs ho62
            exact ⟨(j - 1, swp dM j (j - 1)), (show j - 1 < j by omega), (show j - 1 ≤ i by omega), rfl, hSW, (insInner_go c1 c2).symm.trans hRM, (((kM.bel hS4).bel hS6).trans (Kept.of_grown hg61 rfl)).trans (Kept.of_grown hg62 rfl), _, ov_mk ⟨rfl, rfl, rfl, rfl, (congrArg (Value.int .i64) (z1 (show 0 < j by omega))), trivial⟩⟩
          · refine WC.seq ?_
            refine WC.regionB (fun i => Nat.beq i 13) [(0, .any), (1, .any), (2, .any), (3, .any), (4, .any), (5, .any), (6, .any), (7, .held), (8, .any), (9, .any), (10, .any), (11, .any), (12, .held), (13, .seq), (14, .any)] mixed (by kernel_rfl) (fun w4x hS4 hheap => ?_)
            refine RL.any rfl rfl (fun _ => Y.move) ?_
            refine RL.any rfl rfl (fun _ => Y.move) ?_
            refine RL.any rfl rfl (fun _ => Y.dT (Y.gtr rfl rfl) (by omega)) ?_
            refine RL.any rfl rfl (fun _ => Y.move) ?_
            refine RL.any rfl rfl (fun _ => Y.move) ?_
            refine RL.any rfl rfl (fun _ => Y.move) ?_
            refine RL.yex rfl rfl (Y.idx Try.underlying37 ti22 (by decide) (hM.2.sl) rfl (by omega) (by omega)) ?_
            rintro _ ⟨b22, o22, rfl, hc22⟩
            refine RL.held rfl rfl hS4 (fun _ hb9 => Y.load1 Try.underlying22 rfl rfl (cell_bel (elemI (by omega) (sr_get hj2) hc22) hb9)) ?_
            refine RL.any rfl rfl (fun _ => Y.move) ?_
            refine RL.any rfl rfl (fun _ => Y.move) ?_
            refine RL.any rfl rfl (fun _ => Y.sub64 rfl rfl (by omega)) ?_
            refine RL.yex rfl rfl (Y.idx Try.underlying37 ti22 (by decide) (hM.2.sl) rfl (by omega) (by omega)) ?_
            rintro _ ⟨b27, o27, rfl, hc27⟩
            refine RL.held rfl rfl hS4 (fun _ hb9 => Y.load1 Try.underlying22 rfl rfl (cell_bel (elemI (by omega) (sr_get hj1) hc27) hb9)) ?_
            refine RL.call rfl rfl (C.func go52) (lessF _ _ _ c2) ?_
            rintro _ _ ⟨rfl, rfl⟩
            refine ⟨.inl rfl, ?_⟩
            refine RL.any rfl rfl (fun _ => Y.pickT rfl) ?_
            refine RL.nil (thenQ.normal ?_)
            refine WC.condF (rfl) ?_
            refine WC.exit (thenQ.exit (thenQ.exit (inBlockQ.hit (inBlockQ.normal (thenQ.normal ?_)))))
            refine WC.region rfl ?_
            refine WL.y rfl (Y.move) ?_
            refine WL.y rfl (Y.add64 rfl rfl (by omega)) ?_
            refine WL.y rfl (Y.assign) ?_
            refine WL.nil (thenQ.normal ?_)
            exact ⟨(i + 1, dM), (show b + 1 - (i + 1) < b + 1 - i by omega), (show a < i + 1 by omega), rfl, hM.bel hS4, (by rw [← hR, ← hRM, insInner_stop (fun h => c2 h.2)]), kM.bel hS4, _, ov_mk ⟨rfl, rfl, rfl, rfl, trivial⟩⟩
        · skip
          skip
          refine WC.seq ?_
          refine WC.regionB (fun _ => false) [(0, .any), (1, .any), (2, .any), (3, .any), (4, .any), (5, .any), (6, .any), (7, .held), (8, .any), (9, .any), (10, .any), (11, .any), (12, .held), (13, .any), (14, .any)] mixed (by kernel_rfl) (fun w4x hS4 hheap => ?_)
          refine RL.any rfl rfl (fun _ => Y.move) ?_
          refine RL.any rfl rfl (fun _ => Y.move) ?_
          refine RL.any rfl rfl (fun _ => Y.dF (Y.gtr rfl rfl) (by omega)) ?_
          refine RL.any rfl rfl (fun _ => Y.move) ?_
          refine RL.off rfl rfl ?_
          refine RL.off rfl rfl ?_
          refine RL.off rfl rfl ?_
          refine RL.offH rfl rfl hS4 ?_
          refine RL.off rfl rfl ?_
          refine RL.off rfl rfl ?_
          refine RL.off rfl rfl ?_
          refine RL.off rfl rfl ?_
          refine RL.offH rfl rfl hS4 ?_
          refine RL.off rfl rfl ?_
          refine RL.any rfl rfl (fun _ => Y.pickF rfl) ?_
          refine RL.nil (thenQ.normal ?_)
          refine WC.condF (rfl) ?_
          refine WC.exit (thenQ.exit (thenQ.exit (inBlockQ.hit (inBlockQ.normal (thenQ.normal ?_)))))
          refine WC.region rfl ?_
          refine WL.y rfl (Y.move) ?_
          refine WL.y rfl (Y.add64 rfl rfl (by omega)) ?_
          refine WL.y rfl (Y.assign) ?_
          refine WL.nil (thenQ.normal ?_)
          exact ⟨(i + 1, dM), (show b + 1 - (i + 1) < b + 1 - i by omega), (show a < i + 1 by omega), rfl, hM.bel hS4, (by rw [← hR, ← hRM, insInner_stop (fun h => c1 h.1)]), kM.bel hS4, _, ov_mk ⟨rfl, rfl, rfl, rfl, trivial⟩⟩
    · have hib : ¬ i < b := by simp only at h0; omega
      rw [insOuter, if_neg hib] at hR
      refine WC.exit (thenQ.exit (thenQ.exit (inBlockQ.hit (endQ.zero (.inl rfl) ?_))))
      rw [← hR]
      exact ⟨hL, kL⟩
end Go.Proofs.Ytlhhognabmnlmaa
