/-
  table: Who: walk.
-/
import Derived.Test.YtlhhognabmnlmaaTab4
import Derived.Test.YtlhhognabmnlmaaBase11
namespace Go.Proofs.Ytlhhognabmnlmaa
open Go Go.RowKit Go.Cx
set_option linter.unusedVariables false
set_option maxHeartbeats 8000000
/-- what is told of whose a version is -/
def whoV (o : Option Nt) : Value := match o with
  | none => .tuple #[.int .u64 0, .int .u64 0, .bool false]
  | some n => .tuple #[.int .u64 n.c, .int .u64 n.i, .bool true]
theorem who_ret {w : World} {M : Nat → Prop} {b : Nat} {L : List Nt} {fl : Int} (v : Int) (h : TabW w M b L fl) (hg : Good L) (hL : L.length ≤ 50000) : Ret Try.prog 11 [.pointer (some ⟨b, 0, none⟩), .int .u64 v].toArray w fun r w' => r = whoV (whoL fl v L) ∧ Below w.heap.size w w' := by
  have h' := h
  have hqq := h'
  obtain ⟨mb, m, ov, hT⟩ := hqq
  have hr := ownOf_rise hg.rise fl
  have hol := ownOf_len fl L
  have hmx : maxLen = 9223372036854775807 := rfl
  have hm : ∀ i j, i ≤ j → j < (ownOf fl L).length → (if h : i < (ownOf fl L).length then decide (v ≤ (ownOf fl L)[i].1) else true) = true → (if h : j < (ownOf fl L).length then decide (v ≤ (ownOf fl L)[j].1) else true) = true := by
    intro i j hij hj h
    rw [dif_pos hj]
    rw [dif_pos (by omega)] at h
    simp only [decide_eq_true_eq] at h ⊢
    rcases Nat.lt_or_ge i j with e | e
    · have := List.pairwise_iff_getElem.1 hr i j (by omega) hj e
      omega
    · have : i = j := by omega
      subst this; exact h
  refine Ret.of (n := 57) (rs := #[.tmp 4, .tmp 5, .tmp 6]) Try.func11 rfl rfl rfl (by simp) ?_
  refine WC.seqR rfl ?_
  refine WL.eex rfl (E.boxX) ?_
  rintro _ w2 ⟨rfl, hB2, hb2⟩
  refine WL.eex rfl (E.boxX) ?_
  rintro _ w3 ⟨rfl, hB3, hb3⟩
  refine WL.y rfl (Y.assign) ?_
  refine WL.y rfl (Y.assign) ?_
  refine WL.y rfl (Y.assign) ?_
  refine WL.nil ?_
  refine WC.seq ?_
  have hA := (show Blk w2 w.heap.size 23 [.pointer (some ⟨b, 0, none⟩)] from hB2).bel hb3
  have hC := (show Blk w3 w2.heap.size 22 [.int .u64 v] from hB3)
  have k3 := Below.step hb2 hb3
  have hB := hT.blk.bel k3
  have hs := hT.own.sl.bel k3
  clear hB2 hB3
  refine WC.seqR rfl ?_
  refine WL.y rfl (Y.load1 Try.underlying23 rfl rfl (hA.cell 0)) ?_
  refine WL.y rfl (Y.eqpn Try.underlying23 rfl rfl) ?_
  refine WL.nil ?_
  refine WC.condF (rfl) ?_
  refine WC.skip (thenQ.normal ?_)
  refine WC.seqR rfl ?_
  refine WL.y rfl (Y.load1 Try.underlying23 rfl rfl (hA.cell 0)) ?_
  refine WL.y rfl (Y.nilCheck rfl) ?_
  refine WL.y rfl (Y.fieldAddr fi27f1 ti25 (by decide) rfl (rfl) _) ?_
  refine WL.y rfl (Y.load1 Try.underlying25 rfl rfl (hB.cell 1)) ?_
  refine WL.y rfl (Y.lenSl Try.underlying25 (hs) _) ?_
  refine WL.y rfl (Y.makeFunc) ?_
  refine WL.call rfl (C.func go26) (search_ret 27 [.pointer (some ⟨w.heap.size, 0, none⟩), .pointer (some ⟨w2.heap.size, 0, none⟩)] (ownOf fl L).length (fun i => if h : i < (ownOf fl L).length then decide (v ≤ (ownOf fl L)[i].1) else true) _ go27 (by omega) (fun w' hw i hi => (who1_ret w' _ _ _ _ _ _ _ v _ i (hA.bel hw) (hC.bel hw) (hB.bel hw) (hs.bel hw) hi).mono fun x w'' ⟨a, b⟩ => ⟨by rw [a, dif_pos hi], b⟩) hm) ?_
  rintro _ w19 ⟨⟨k, rfl, h1, h2, h3⟩, hb19⟩
  refine WL.y rfl (Y.assign) ?_
  refine WL.nil ?_
  refine WC.seq ?_
  have k19 := Below.step k3 hb19
  have hA19 := hA.bel hb19
  have hC19 := hC.bel hb19
  have hB19 := hB.bel hb19
  have hs19 := hs.bel hb19
  have lo : ∀ i (h : i < (ownOf fl L).length), i < k → (ownOf fl L)[i].1 < v := by
    intro i h hi
    have := h2 i hi
    rw [dif_pos h] at this
    simpa using this
  have hi : ∀ i (h : i < (ownOf fl L).length), k ≤ i → v ≤ (ownOf fl L)[i].1 := by
    intro i h hi
    have := h3 i hi h
    rw [dif_pos h] at this
    simpa using this
  have hnone : (k = (ownOf fl L).length ∨ ∃ h : k < (ownOf fl L).length, (ownOf fl L)[k].1 ≠ v) → whoL fl v L = none := by
    intro hk
    refine who_none fun n hn hnv => ?_
    have hqq := List.getElem_of_mem (mem_own.2 ⟨n, hn, hnv.2, rfl⟩)
    obtain ⟨i, hil, he⟩ := hqq
    have e1 : (ownOf fl L)[i].1 = v := by rw [he]; exact hnv.1
    have hki : k ≤ i := by
      rcases Nat.lt_or_ge i k with e | e
      · have := lo i hil e; omega
      · exact e
    rcases hk with e | ⟨e, e2⟩
    · omega
    · rcases Nat.lt_or_ge k i with e3 | e3
      · have := List.pairwise_iff_getElem.1 hr k i e hil e3
        have := hi k e (Nat.le_refl _)
        omega
      · have : k = i := by omega
        subst this
        exact e2 e1
  by_cases c1 : k = (ownOf fl L).length
  · rw [hnone (.inl c1)]
    have c1' : (k : Int) = ((ownOf fl L).length : Int) := by omega
    refine WC.seq ?_
    refine WC.regionB (fun _ => false) [(0, .any), (1, .held), (2, .any), (3, .any), (4, .held), (5, .any), (6, .any), (7, .any), (8, .held), (9, .any), (10, .any), (11, .held), (12, .any), (13, .any), (14, .any), (15, .held), (16, .held), (17, .any), (18, .any)] mixed (by kernel_rfl) (fun w4x hS4 hheap => ?_)
    refine RL.any rfl rfl (fun _ => Y.move) ?_
    refine RL.held rfl rfl hS4 (fun _ hb9 => Y.load1 Try.underlying23 rfl rfl (cell_bel (hA19.cell 0) hb9)) ?_
    refine RL.any rfl rfl (fun _ => Y.nilCheck rfl) ?_
    refine RL.any rfl rfl (fun _ => Y.fieldAddr fi27f1 ti25 (by decide) rfl (rfl) _) ?_
    refine RL.held rfl rfl hS4 (fun _ hb9 => Y.load1 Try.underlying25 rfl rfl (cell_bel (hB19.cell 1) hb9)) ?_
    refine RL.any rfl rfl (fun _ => Y.lenSl Try.underlying25 (hs19) _) ?_
    refine RL.any rfl rfl (fun _ => Y.dT (Y.eqi rfl rfl) (by omega)) ?_
    refine RL.any rfl rfl (fun _ => Y.move) ?_
    refine RL.offH rfl rfl hS4 ?_
    refine RL.off rfl rfl ?_
    refine RL.off rfl rfl ?_
    refine RL.offH rfl rfl hS4 ?_
    refine RL.off rfl rfl ?_
    refine RL.off rfl rfl ?_
    refine RL.off rfl rfl ?_
    refine RL.offH rfl rfl hS4 ?_
    refine RL.offH rfl rfl hS4 ?_
    refine RL.off rfl rfl ?_
    refine RL.any rfl rfl (fun _ => Y.pickT rfl) ?_
    refine RL.nil (thenQ.normal ?_)
    refine WC.condT (rfl) ?_
    refine WC.seqR rfl ?_
    refine WL.y rfl (Y.assign) ?_
    refine WL.y rfl (Y.assign) ?_
    refine WL.y rfl (Y.assign) ?_
    refine WL.nil ?_
    refine WC.ret (thenQ.ret (endQ.three (.inr rfl) ?_))
    exact ⟨rfl, Below.step k19 hS4⟩
  · have hk : k < (ownOf fl L).length := by omega
    by_cases c2 : (ownOf fl L)[k].1 ≠ v
    · rw [hnone (.inr ⟨hk, c2⟩)]
      refine WC.seq ?_
      refine WC.regionB (fun _ => false) [(0, .any), (1, .held), (2, .any), (3, .any), (4, .held), (5, .any), (6, .any), (7, .any), (8, .held), (9, .any), (10, .any), (11, .held), (12, .any), (13, .any), (14, .any), (15, .held), (16, .held), (17, .any), (18, .any)] mixed (by kernel_rfl) (fun w4x hS4 hheap => ?_)
      refine RL.any rfl rfl (fun _ => Y.move) ?_
      refine RL.held rfl rfl hS4 (fun _ hb9 => Y.load1 Try.underlying23 rfl rfl (cell_bel (hA19.cell 0) hb9)) ?_
      refine RL.any rfl rfl (fun _ => Y.nilCheck rfl) ?_
      refine RL.any rfl rfl (fun _ => Y.fieldAddr fi27f1 ti25 (by decide) rfl (rfl) _) ?_
      refine RL.held rfl rfl hS4 (fun _ hb9 => Y.load1 Try.underlying25 rfl rfl (cell_bel (hB19.cell 1) hb9)) ?_
      refine RL.any rfl rfl (fun _ => Y.lenSl Try.underlying25 (hs19) _) ?_
      refine RL.any rfl rfl (fun _ => Y.dF (Y.eqi rfl rfl) (by omega)) ?_
      refine RL.any rfl rfl (fun _ => Y.move) ?_
      refine RL.held rfl rfl hS4 (fun _ hb9 => Y.load1 Try.underlying23 rfl rfl (cell_bel (hA19.cell 0) hb9)) ?_
      refine RL.any rfl rfl (fun _ => Y.nilCheck rfl) ?_
      refine RL.any rfl rfl (fun _ => Y.fieldAddr fi27f1 ti25 (by decide) rfl (rfl) _) ?_
      refine RL.held rfl rfl hS4 (fun _ hb9 => Y.load1 Try.underlying25 rfl rfl (cell_bel (hB19.cell 1) hb9)) ?_
      refine RL.any rfl rfl (fun _ => Y.move) ?_
      refine RL.yex rfl rfl (Y.idx Try.underlying25 ti62 (by decide) (hs19) rfl (by omega) (by omega)) ?_
      rintro _ ⟨b33, o33, rfl, hc33⟩
      refine RL.any rfl rfl (fun _ => Y.fieldAddr fi62f0 ti22 (by decide) rfl (rfl) _) ?_
      refine RL.held rfl rfl hS4 (fun _ hb9 => Y.load1 Try.underlying22 rfl rfl (cell_bel (cells_hd (elem_pr hk hc33)) hb9)) ?_
      refine RL.held rfl rfl hS4 (fun _ hb9 => Y.load1 Try.underlying22 rfl rfl (cell_bel (hC19.cell 0) hb9)) ?_
      refine RL.any rfl rfl (fun _ => Y.dT (Y.nei rfl rfl) (by omega)) ?_
      refine RL.any rfl rfl (fun _ => Y.pickF rfl) ?_
      refine RL.nil (thenQ.normal ?_)
      refine WC.condT (rfl) ?_
      refine WC.seqR rfl ?_
      refine WL.y rfl (Y.assign) ?_
      refine WL.y rfl (Y.assign) ?_
      refine WL.y rfl (Y.assign) ?_
      refine WL.nil ?_
      refine WC.ret (thenQ.ret (endQ.three (.inr rfl) ?_))
      exact ⟨rfl, Below.step k19 hS4⟩
    · have c3 : (ownOf fl L)[k].1 = v := by omega
      have hqq := mem_own.1 (List.getElem_mem hk)
      obtain ⟨n, hn, hnf, hne⟩ := hqq
      have e1 : n.v = v := by rw [← c3, hne]
      have e2 : (ownOf fl L)[k].2 = n.c := by rw [hne]
      have ew : whoL fl v L = some n := by rw [← e1]; exact who_get hg.rise hn hnf
      have ea : (if fl ≤ v then atL n.c v L else 0) = n.i := by rw [← e1, if_pos hnf]; exact at_self hg.rise hn
      have ed : decide (fl ≤ v) = true := by rw [← e1]; exact decide_eq_true hnf
      rw [ew]
      skip
      refine WC.seq ?_
      refine WC.regionB (fun _ => false) [(0, .any), (1, .held), (2, .any), (3, .any), (4, .held), (5, .any), (6, .any), (7, .any), (8, .held), (9, .any), (10, .any), (11, .held), (12, .any), (13, .any), (14, .any), (15, .held), (16, .held), (17, .any), (18, .any)] mixed (by kernel_rfl) (fun w4x hS4 hheap => ?_)
      refine RL.any rfl rfl (fun _ => Y.move) ?_
      refine RL.held rfl rfl hS4 (fun _ hb9 => Y.load1 Try.underlying23 rfl rfl (cell_bel (hA19.cell 0) hb9)) ?_
      refine RL.any rfl rfl (fun _ => Y.nilCheck rfl) ?_
      refine RL.any rfl rfl (fun _ => Y.fieldAddr fi27f1 ti25 (by decide) rfl (rfl) _) ?_
      refine RL.held rfl rfl hS4 (fun _ hb9 => Y.load1 Try.underlying25 rfl rfl (cell_bel (hB19.cell 1) hb9)) ?_
      refine RL.any rfl rfl (fun _ => Y.lenSl Try.underlying25 (hs19) _) ?_
      refine RL.any rfl rfl (fun _ => Y.dF (Y.eqi rfl rfl) (by omega)) ?_
      refine RL.any rfl rfl (fun _ => Y.move) ?_
      refine RL.held rfl rfl hS4 (fun _ hb9 => Y.load1 Try.underlying23 rfl rfl (cell_bel (hA19.cell 0) hb9)) ?_
      refine RL.any rfl rfl (fun _ => Y.nilCheck rfl) ?_
      refine RL.any rfl rfl (fun _ => Y.fieldAddr fi27f1 ti25 (by decide) rfl (rfl) _) ?_
      refine RL.held rfl rfl hS4 (fun _ hb9 => Y.load1 Try.underlying25 rfl rfl (cell_bel (hB19.cell 1) hb9)) ?_
      refine RL.any rfl rfl (fun _ => Y.move) ?_
      refine RL.yex rfl rfl (Y.idx Try.underlying25 ti62 (by decide) (hs19) rfl (by omega) (by omega)) ?_
      rintro _ ⟨b33, o33, rfl, hc33⟩
      refine RL.any rfl rfl (fun _ => Y.fieldAddr fi62f0 ti22 (by decide) rfl (rfl) _) ?_
      refine RL.held rfl rfl hS4 (fun _ hb9 => Y.load1 Try.underlying22 rfl rfl (cell_bel (cells_hd (elem_pr hk hc33)) hb9)) ?_
      refine RL.held rfl rfl hS4 (fun _ hb9 => Y.load1 Try.underlying22 rfl rfl (cell_bel (hC19.cell 0) hb9)) ?_
      refine RL.any rfl rfl (fun _ => Y.dF (Y.nei rfl rfl) (by omega)) ?_
      refine RL.any rfl rfl (fun _ => Y.pickF rfl) ?_
      refine RL.nil (thenQ.normal ?_)
      refine WC.condF (rfl) ?_
      refine WC.skip (thenQ.normal ?_)
      refine WC.seqR rfl ?_
      refine WL.y rfl (Y.load1 Try.underlying23 rfl rfl ((hA19.bel hS4).cell 0)) ?_
      refine WL.y rfl (Y.nilCheck rfl) ?_
      refine WL.y rfl (Y.fieldAddr fi27f1 ti25 (by decide) rfl (rfl) _) ?_
      refine WL.y rfl (Y.load1 Try.underlying25 rfl rfl ((hB19.bel hS4).cell 1)) ?_
      refine WL.y rfl (Y.move) ?_
      refine WL.yex rfl (Y.idx Try.underlying25 ti62 (by decide) (hs19.bel hS4) rfl (by omega) (by omega)) ?_
      rintro _ ⟨b44, o44, rfl, hc44⟩
      refine WL.y rfl (Y.fieldAddr fi62f1 ti22 (by decide) rfl (rfl) _) ?_
      refine WL.y rfl (Y.load1 Try.underlying22 rfl rfl ((cells_2 (elem_pr hk hc44)).trans (by rw [e2]))) ?_
      refine WL.y rfl (Y.assign) ?_
      refine WL.nil ?_
      refine WC.seqR rfl ?_
      refine WL.y rfl (Y.load1 Try.underlying23 rfl rfl ((hA19.bel hS4).cell 0)) ?_
      refine WL.y rfl (Y.move) ?_
      refine WL.y rfl (Y.load1 Try.underlying22 rfl rfl ((hC19.bel hS4).cell 0)) ?_
      refine WL.call rfl (C.func go10) (at_ret n.c v (h.bel (Below.step k19 hS4)) hg (by omega)) ?_
      rintro _ w51 ⟨rfl, hb51⟩
      refine WL.y rfl (Y.move) ?_
      refine WL.y rfl (Y.extract rfl rfl) ?_
      refine WL.y rfl (Y.extract rfl rfl) ?_
      refine WL.y rfl (Y.assign) ?_
      refine WL.y rfl (Y.assign) ?_
      refine WL.nil ?_
      refine WC.seqR rfl ?_
      refine WL.y rfl (Y.move) ?_
      refine WL.y rfl (Y.move) ?_
      refine WL.y rfl (Y.move) ?_
      refine WL.y rfl (Y.assign) ?_
      refine WL.y rfl (Y.assign) ?_
      refine WL.y rfl (Y.assign) ?_
      refine WL.nil ?_
      refine WC.ret (endQ.three (.inr rfl) ?_)
      exact ⟨show Value.tuple #[.int .u64 n.c, .int .u64 (if fl ≤ v then atL n.c v L else 0), .bool (decide (fl ≤ v))] = _ by rw [ea, ed]; rfl, Below.step (Below.step k19 hS4) hb51⟩
end Go.Proofs.Ytlhhognabmnlmaa
