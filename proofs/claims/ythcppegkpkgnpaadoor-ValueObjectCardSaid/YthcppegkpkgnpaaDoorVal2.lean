/-
  ref02: Within, Size, Deep: walks.
-/
import Derived.Test.YthcppegkpkgnpaaDoorVal1
namespace Go.Proofs.YthcppegkpkgnpaaDoor
open Go Go.RowKit Go.Cx
set_option linter.unusedVariables false
set_option maxHeartbeats 4000000
/-- the values at once within one -/
def wV (v : V) : List V := if v.k = 5 then v.l else if v.k = 6 then v.vs else []
theorem flat_one {w : World} {l : List V} {lc : List VC} (h1 : lc.length = l.length) (h2 : ∀ j (h : j < l.length) (h' : j < lc.length), VAt w l[j] lc[j].c) : ∀ u ∈ lc.flatMap VC.c, One u = true := by
  intro u hu
  have hqq := List.mem_flatMap.1 hu
  obtain ⟨x, hx, hu2⟩ := hqq
  have hqq := List.mem_iff_getElem.1 hx
  obtain ⟨j, hj, rfl⟩ := hqq
  exact (h2 j (by omega) hj).one u hu2
/-- a list of values in memory -/
def LAt (w : World) (l : List V) (r : Value) : Prop := ∃ lc : List VC, lc.length = l.length ∧ SlK w 6 r l.length (lc.flatMap VC.c) ∧ ∀ j (h : j < l.length) (h' : j < lc.length), VAt w l[j] lc[j].c
theorem LAt.bel {w w' : World} {l : List V} {r : Value} (h : LAt w l r) (hb : Below w.heap.size w w') : LAt w' l r := by
  obtain ⟨lc, h1, h2, h3⟩ := h
  exact ⟨lc, h1, h2.bel hb, fun j h h' => (h3 j h h').bel hb⟩
theorem within_ret (v : V) (w : World) (c : List Value) (hv : VAt w v c) : Ret Tryd.prog 24 [.agg c.toArray].toArray w fun r w' => LAt w' (wV v) r ∧ Below w.heap.size w w' := by
  have hmx : maxLen = 9223372036854775807 := rfl
  cases hv with
  | @mk _ lv ov lc oc ok h1 h2 hs h3 h4 ho =>
  have hol := ok.l
  have hoo := ok.o
  have hok := ok.ks
  by_cases k5 : v.k = 5
  · have hw : wV v = v.l := if_pos k5
    rw [hw]
    refine Ret.of (n := 32) (rs := #[.tmp 2]) Tryd.func24 rfl rfl rfl (by simp) ?_
    refine WC.seqR rfl ?_
    refine WL.eex rfl (E.boxX) ?_
    rintro _ w1 ⟨rfl, hB1, hb1⟩
    refine WL.y rfl (Y.assign) ?_
    refine WL.nil ?_
    refine WC.seqR rfl ?_
    refine WL.y rfl (Y.assign) ?_
    refine WL.nil ?_
    refine WC.seq ?_
    refine WC.seqR rfl ?_
    refine WL.y rfl (Y.fieldAddr fi26f0 ti23 (by decide) rfl (rfl) _) ?_
    refine WL.y rfl (Y.load1 Tryd.underlying23 rfl rfl ((show Blk _ _ _ (vcell v lv ov) from hB1).cell 0)) ?_
    refine WL.y rfl (Y.dT (Y.eqi rfl rfl) (by omega)) ?_
    refine WL.nil ?_
    refine WC.condT (rfl) ?_
    refine WC.region rfl ?_
    refine WL.y rfl (Y.move) ?_
    refine WL.y rfl (Y.fieldAddr fi26f4 ti24 (by decide) rfl (rfl) _) ?_
    refine WL.y rfl (Y.load1 Tryd.underlying24 rfl rfl ((show Blk _ _ _ (vcell v lv ov) from hB1).cell 4)) ?_
    refine WL.eex rfl (E.append Tryd.underlying24 ti26 rfl (by decide) (World.ownsRow_nil w1 w1.heap.size _ _) (hs.bel hb1) (flat_one h1 h2) (by omega) (by omega) (Nat.le_refl _)) ?_
    rintro v11 w11 ⟨ho11, hg11', -⟩
    have hB11 : Blk w11 w.heap.size 26 (vcell v lv ov) := (show Blk _ _ _ (vcell v lv ov) from hB1).bel hg11'
    refine WL.y rfl (Y.assign) ?_
    refine WL.nil (thenQ.normal ?_)
    refine WC.seq ?_
    refine WC.seqR rfl ?_
    refine WL.y rfl (Y.fieldAddr fi26f0 ti23 (by decide) rfl (rfl) _) ?_
    refine WL.y rfl (Y.load1 Tryd.underlying23 rfl rfl (hB11.cell 0)) ?_
    refine WL.y rfl (Y.dF (Y.eqi rfl rfl) (by omega)) ?_
    refine WL.nil ?_
    refine WC.condF (rfl) ?_
    refine WC.skip (thenQ.normal ?_)
    refine WC.seqR rfl ?_
    refine WL.y rfl (Y.move) ?_
    refine WL.y rfl (Y.assign) ?_
    refine WL.nil ?_
    refine WC.ret (endQ.one (.inr rfl) ?_)
    have hbb := Below.step hb1 hg11'
    rw [Nat.zero_add, List.nil_append] at ho11
    exact ⟨⟨lc, h1, ownsRow_sl ho11, fun j h h' => (h2 j h h').bel hbb⟩, hbb⟩
  · by_cases k6 : v.k = 6
    · have hw : wV v = v.vs := by unfold wV; rw [if_neg k5, if_pos k6]
      rw [hw]
      refine Ret.of (n := 32) (rs := #[.tmp 2]) Tryd.func24 rfl rfl rfl (by simp) ?_
      refine WC.seqR rfl ?_
      refine WL.eex rfl (E.boxX) ?_
      rintro _ w1 ⟨rfl, hB1, hb1⟩
      refine WL.y rfl (Y.assign) ?_
      refine WL.nil ?_
      refine WC.seqR rfl ?_
      refine WL.y rfl (Y.assign) ?_
      refine WL.nil ?_
      refine WC.seq ?_
      refine WC.seqR rfl ?_
      refine WL.y rfl (Y.fieldAddr fi26f0 ti23 (by decide) rfl (rfl) _) ?_
      refine WL.y rfl (Y.load1 Tryd.underlying23 rfl rfl ((show Blk _ _ _ (vcell v lv ov) from hB1).cell 0)) ?_
      refine WL.y rfl (Y.dF (Y.eqi rfl rfl) (by omega)) ?_
      refine WL.nil ?_
      refine WC.condF (rfl) ?_
      refine WC.skip (thenQ.normal ?_)
      refine WC.seq ?_
      refine WC.seqR rfl ?_
      refine WL.y rfl (Y.fieldAddr fi26f0 ti23 (by decide) rfl (rfl) _) ?_
      refine WL.y rfl (Y.load1 Tryd.underlying23 rfl rfl ((show Blk _ _ _ (vcell v lv ov) from hB1).cell 0)) ?_
      refine WL.y rfl (Y.dT (Y.eqi rfl rfl) (by omega)) ?_
      refine WL.nil ?_
      refine WC.condT (rfl) ?_
      refine WC.seqR rfl ?_
      refine WL.y rfl (Y.assign) ?_
      refine WL.nil ?_
      refine WC.block ?_
      have hB : Blk w1 w.heap.size 26 (vcell v lv ov) := hB1
      clear hB1
      refine WC.loop (fun j => v.vs.length - j) (fun j f ds w' => j ≤ v.vs.length ∧ ds = [] ∧ Below w.heap.size w w' ∧ Blk w' w.heap.size 26 (vcell v lv ov) ∧ ∃ r J, w'.ownsRow (w.heap.size + 1) 26 6 r j ((oc.take j).flatMap VC.c) ∧ f = Go.Cx.ov J [(1, .pointer (some ⟨w.heap.size, 0, none⟩)), (3, r), (4, .int .i64 (j : Int))]) 0 ?_ ?_
      · exact ⟨by omega, rfl, hb1, hB, _, _, World.ownsRow_nil _ _ _ _, ov_mk ⟨rfl, rfl, rfl, trivial⟩⟩
      · rintro j _ _ w2 ⟨hj, rfl, hb2, hB2, r, J, hr, rfl⟩
        have hs2 := hb2.size
        have hl2 := hB2.lt
        refine WC.seq ?_
        refine WC.seqR rfl ?_
        refine WL.y rfl (Y.move) ?_
        refine WL.y rfl (Y.fieldAddr fi26f5 ti22 (by decide) rfl (rfl) _) ?_
        refine WL.y rfl (Y.load1 Tryd.underlying22 rfl rfl (hB2.cell 5)) ?_
        refine WL.y rfl (Y.lenSl Tryd.underlying22 (ho.bel hb2) _) ?_
        refine WL.y rfl (Y.lss rfl rfl) ?_
        refine WL.nil ?_
        refine WC.condD rfl (fun h0 => ?_) (fun h0 => ?_)
        · have hjl : j < v.vs.length := by omega
          have hjc : j < oc.length := by omega
          have hjk : j < v.ks.length := by omega
          have hte : (oc.take (j + 1)).flatMap VC.c = (oc.take j).flatMap VC.c ++ oc[j].c := by rw [List.take_succ_eq_append_getElem hjc, List.flatMap_append]; simp
          refine WC.skip (thenQ.normal ?_)
          refine WC.seq ?_
          refine WC.block ?_
          refine WC.region rfl ?_
          refine WL.y rfl (Y.move) ?_
          refine WL.y rfl (Y.fieldAddr fi26f5 ti22 (by decide) rfl (rfl) _) ?_
          refine WL.y rfl (Y.load1 Tryd.underlying22 rfl rfl (hB2.cell 5)) ?_
          refine WL.y rfl (Y.move) ?_
          refine WL.yex rfl (Y.idx Tryd.underlying22 ti38 (by decide) (ho.bel hb2) rfl (by omega) (by omega)) ?_
          rintro _ ⟨b26, o26, rfl, hc26⟩
          refine WL.y rfl (Y.fieldAddr fi38f1 ti26 (by decide) rfl (rfl) _) ?_
          refine WL.y rfl (Y.loadK Tryd.underlying26 rfl ti26 (oc[j].h) rfl (Cells.tl (mem_cells hjk hjc hc26))) ?_
          refine WL.eex rfl (E.build1A Tryd.underlying24 ti26 oc[j].h (by decide) (by decide) rfl) ?_
          rintro _ w29 ⟨rfl, ho29, hb29, -⟩
          refine WL.eex rfl (E.append Tryd.underlying24 ti26 rfl (by decide) (ownsRow_bel hr hb29) (ownsRow_sl ho29) (h4 j hjl hjc).one (by omega) (by omega) (by have := hb29.size; omega)) ?_
          rintro v30 w30 ⟨ho30, hb30, hg30⟩
          refine WL.y rfl (Y.assign) ?_
          refine WL.nil (inBlockQ.normal (thenQ.normal ?_))
          refine WC.region rfl ?_
          refine WL.y rfl (Y.move) ?_
          refine WL.y rfl (Y.add64 rfl rfl (by omega)) ?_
          refine WL.y rfl (Y.assign) ?_
          refine WL.nil (thenQ.normal ?_)
          have hbb := (Below.step hb2 hb29).trans (below_of_grown hg30 (by have := hb29.size; omega) (fun k e => by have := ownsRow_block hr k e; omega))
          exact ⟨j + 1, by omega, by omega, rfl, hbb, (hB2.bel hb29).belB hb30 (by omega), _, _, by rw [hte]; exact ho30, ov_mk ⟨rfl, rfl, rfl, trivial⟩⟩
        · have hje : j = v.vs.length := by omega
          subst hje
          rw [List.take_of_length_le (by omega)] at hr
          refine WC.exit (thenQ.exit (thenQ.exit (inBlockQ.hit (thenQ.normal ?_))))
          refine WC.seqR rfl ?_
          refine WL.y rfl (Y.move) ?_
          refine WL.y rfl (Y.assign) ?_
          refine WL.nil ?_
          refine WC.ret (endQ.one (.inr rfl) ?_)
          exact ⟨⟨oc, h3, ownsRow_sl hr, fun j h h' => (h4 j h h').bel hb2⟩, hb2⟩
    · have hw : wV v = [] := by unfold wV; rw [if_neg k5, if_neg k6]
      rw [hw]
      refine Ret.of (n := 32) (rs := #[.tmp 2]) Tryd.func24 rfl rfl rfl (by simp) ?_
      refine WC.seqR rfl ?_
      refine WL.eex rfl (E.boxX) ?_
      rintro _ w1 ⟨rfl, hB1, hb1⟩
      refine WL.y rfl (Y.assign) ?_
      refine WL.nil ?_
      refine WC.seqR rfl ?_
      refine WL.y rfl (Y.assign) ?_
      refine WL.nil ?_
      refine WC.seq ?_
      refine WC.seqR rfl ?_
      refine WL.y rfl (Y.fieldAddr fi26f0 ti23 (by decide) rfl (rfl) _) ?_
      refine WL.y rfl (Y.load1 Tryd.underlying23 rfl rfl ((show Blk _ _ _ (vcell v lv ov) from hB1).cell 0)) ?_
      refine WL.y rfl (Y.dF (Y.eqi rfl rfl) (by omega)) ?_
      refine WL.nil ?_
      refine WC.condF (rfl) ?_
      refine WC.skip (thenQ.normal ?_)
      refine WC.seq ?_
      refine WC.seqR rfl ?_
      refine WL.y rfl (Y.fieldAddr fi26f0 ti23 (by decide) rfl (rfl) _) ?_
      refine WL.y rfl (Y.load1 Tryd.underlying23 rfl rfl ((show Blk _ _ _ (vcell v lv ov) from hB1).cell 0)) ?_
      refine WL.y rfl (Y.dF (Y.eqi rfl rfl) (by omega)) ?_
      refine WL.nil ?_
      refine WC.condF (rfl) ?_
      refine WC.skip (thenQ.normal ?_)
      refine WC.seqR rfl ?_
      refine WL.y rfl (Y.move) ?_
      refine WL.y rfl (Y.assign) ?_
      refine WL.nil ?_
      refine WC.ret (endQ.one (.inr rfl) ?_)
      exact ⟨⟨[], rfl, SlK.nil, fun j h => absurd h (by simp)⟩, hb1⟩
theorem sizeV_w (v : V) : sizeV v = sumL 1 (wV v) := by
  rw [sizeV_eq]
  unfold wV
  split
  · rfl
  · split
    · rfl
    · rw [sumL]
theorem deepV_w (v : V) : deepV v = wr (1 + maxL 0 (wV v)) := by
  rw [deepV_eq]
  unfold wV
  split
  · rfl
  · split
    · rfl
    · rw [maxL]
theorem wV_mem {v x : V} (h : x ∈ wV v) : x ∈ v.l ∨ x ∈ v.vs := by
  unfold wV at h
  split at h
  · exact .inl h
  · split at h
    · exact .inr h
    · cases h
theorem wV_len {w : World} {v : V} {c : List Value} (h : VAt w v c) : (wV v).length ≤ 1599289640354 := by
  have hok := h.ok
  unfold wV
  split
  · exact hok.l
  · split
    · exact Nat.le_trans hok.o (by decide)
    · exact Nat.zero_le _
theorem vat_cells {w : World} {v : V} {c : List Value} (h : VAt w v c) : ∃ lv ov, c = vcell v lv ov := by cases h; exact ⟨_, _, rfl⟩
theorem rsize_ret (v : V) : ∀ (w : World) (c : List Value), VAt w v c → Ret Tryd.prog 23 [.agg c.toArray].toArray w fun r w' => r = .int .i64 (sizeV v) ∧ Below w.heap.size w w' := by
  induction v using V.ind with
  | h v ih1 ih2 =>
    intro w c hv
    have hse := sizeV_w v
    have hlen := wV_len hv
    have hih : ∀ x ∈ wV v, ∀ (w : World) (c : List Value), VAt w x c → Ret Tryd.prog 23 [.agg c.toArray].toArray w fun r w' => r = .int .i64 (sizeV x) ∧ Below w.heap.size w w' := fun x hx => (wV_mem hx).elim (ih1 x) (ih2 x)
    clear ih1 ih2
    refine Ret.of (n := 22) (rs := #[.tmp 2]) Tryd.func23 rfl rfl rfl (by simp) ?_
    refine WC.seqR rfl ?_
    refine WL.eex rfl (E.boxX) ?_
    rintro _ w1 ⟨rfl, hB1, hb1⟩
    refine WL.y rfl (Y.assign) ?_
    refine WL.nil ?_
    refine WC.seqR rfl ?_
    refine WL.y rfl (Y.assign) ?_
    refine WL.nil ?_
    refine WC.seqR rfl ?_
    refine WL.y rfl (Y.loadK Tryd.underlying26 rfl ti26 (hv.len) rfl ((show Blk _ _ _ c from hB1).cells)) ?_
    refine WL.call rfl (C.func go24) (within_ret v _ c (hv.bel hb1)) ?_
    rintro r7 w7 ⟨hl7, hb7⟩
    refine WL.y rfl (Y.assign) ?_
    refine WL.nil ?_
    refine WC.seq ?_
    refine WC.seqR rfl ?_
    refine WL.y rfl (Y.assign) ?_
    refine WL.nil ?_
    refine WC.block ?_
    have hb := Below.step hb1 hb7
    generalize wV v = l at *
    refine WC.loop (fun j => l.length - j) (fun j f ds w' => j ≤ l.length ∧ ds = [] ∧ Below w.heap.size w w' ∧ LAt w' l r7 ∧ ∃ a J, sumL a (l.drop j) = sumL 1 l ∧ f = Go.Cx.ov J [(3, .int .i64 a), (4, r7), (5, .int .i64 (j : Int))]) 0 ?_ ?_
    · exact ⟨by omega, rfl, hb, hl7, 1, _, rfl, ov_mk ⟨rfl, rfl, rfl, trivial⟩⟩
    · rintro j _ _ w2 ⟨hj, rfl, hb2, hl2, a, J, ha, rfl⟩
      have hl2' := hl2
      have hqq := hl2'
      obtain ⟨lc, q1, q2, q3⟩ := hqq
      refine WC.seq ?_
      refine WC.seqR rfl ?_
      refine WL.y rfl (Y.move) ?_
      refine WL.y rfl (Y.move) ?_
      refine WL.y rfl (Y.lenSl Tryd.underlying24 (q2) _) ?_
      refine WL.y rfl (Y.lss rfl rfl) ?_
      refine WL.nil ?_
      refine WC.condD rfl (fun h0 => ?_) (fun h0 => ?_)
      · have hjl : j < l.length := by omega
        have hjc : j < lc.length := by omega
        have hst := sumL_step a l j hjl
        refine WC.skip (thenQ.normal ?_)
        refine WC.seq ?_
        refine WC.block ?_
        refine WC.region rfl ?_
        refine WL.y rfl (Y.move) ?_
        refine WL.y rfl (Y.move) ?_
        refine WL.y rfl (Y.move) ?_
        refine WL.yex rfl (Y.idx Tryd.underlying24 ti26 (by decide) (q2) rfl (by omega) (by omega)) ?_
        rintro _ ⟨b17, o17, rfl, hc17⟩
        refine WL.y rfl (Y.loadK Tryd.underlying26 rfl ti26 (lc[j].h) rfl (elem_cells hjc hc17)) ?_
        refine WL.call rfl (C.func go23) (hih _ (List.getElem_mem hjl) _ _ (q3 j hjl hjc)) ?_
        rintro _ w19 ⟨rfl, hb19⟩
        refine WL.y rfl (Y.add rfl rfl) ?_
        refine WL.y rfl (Y.assign) ?_
        refine WL.nil (inBlockQ.normal (thenQ.normal ?_))
        refine WC.region rfl ?_
        refine WL.y rfl (Y.move) ?_
        refine WL.y rfl (Y.add64 rfl rfl (by omega)) ?_
        refine WL.y rfl (Y.assign) ?_
        refine WL.nil (thenQ.normal ?_)
        exact ⟨j + 1, by omega, by omega, rfl, Below.step hb2 hb19, hl2.bel hb19, _, _, by rw [← ha, hst]; rfl, ov_mk ⟨rfl, rfl, rfl, trivial⟩⟩
      · have hje : j = l.length := by omega
        subst hje
        rw [List.drop_length, sumL] at ha
        have e : Value.int .i64 a = .int .i64 (sizeV v) := by rw [hse, ha]
        refine WC.exit (thenQ.exit (thenQ.exit (inBlockQ.hit (thenQ.normal ?_))))
        refine WC.seqR rfl ?_
        refine WL.y rfl (Y.move) ?_
        refine WL.y rfl (Y.assign) ?_
        refine WL.nil ?_
        refine WC.ret (endQ.one (.inr rfl) ?_)
        exact ⟨e, hb2⟩
theorem rdeep_ret (v : V) : ∀ (w : World) (c : List Value), VAt w v c → Ret Tryd.prog 21 [.agg c.toArray].toArray w fun r w' => r = .int .i64 (deepV v) ∧ Below w.heap.size w w' := by
  induction v using V.ind with
  | h v ih1 ih2 =>
    intro w c hv
    have hse := deepV_w v
    have hlen := wV_len hv
    have hih : ∀ x ∈ wV v, ∀ (w : World) (c : List Value), VAt w x c → Ret Tryd.prog 21 [.agg c.toArray].toArray w fun r w' => r = .int .i64 (deepV x) ∧ Below w.heap.size w w' := fun x hx => (wV_mem hx).elim (ih1 x) (ih2 x)
    clear ih1 ih2
    refine Ret.of (n := 26) (rs := #[.tmp 2]) Tryd.func21 rfl rfl rfl (by simp) ?_
    refine WC.seqR rfl ?_
    refine WL.eex rfl (E.boxX) ?_
    rintro _ w1 ⟨rfl, hB1, hb1⟩
    refine WL.y rfl (Y.assign) ?_
    refine WL.nil ?_
    refine WC.seqR rfl ?_
    refine WL.y rfl (Y.assign) ?_
    refine WL.nil ?_
    refine WC.seqR rfl ?_
    refine WL.y rfl (Y.loadK Tryd.underlying26 rfl ti26 (hv.len) rfl ((show Blk _ _ _ c from hB1).cells)) ?_
    refine WL.call rfl (C.func go24) (within_ret v _ c (hv.bel hb1)) ?_
    rintro r7 w7 ⟨hl7, hb7⟩
    refine WL.y rfl (Y.assign) ?_
    refine WL.nil ?_
    refine WC.seq ?_
    refine WC.seqR rfl ?_
    refine WL.y rfl (Y.assign) ?_
    refine WL.nil ?_
    refine WC.block ?_
    have hb := Below.step hb1 hb7
    generalize wV v = l at *
    refine WC.loop (fun j => l.length - j) (fun j f ds w' => j ≤ l.length ∧ ds = [] ∧ Below w.heap.size w w' ∧ LAt w' l r7 ∧ ∃ a J, maxL a (l.drop j) = maxL 0 l ∧ f = Go.Cx.ov J [(3, .int .i64 a), (4, r7), (5, .int .i64 (j : Int))]) 0 ?_ ?_
    · exact ⟨by omega, rfl, hb, hl7, 0, _, rfl, ov_mk ⟨rfl, rfl, rfl, trivial⟩⟩
    · rintro j _ _ w2 ⟨hj, rfl, hb2, hl2, a, J, ha, rfl⟩
      have hl2' := hl2
      have hqq := hl2'
      obtain ⟨lc, q1, q2, q3⟩ := hqq
      refine WC.seq ?_
      refine WC.seqR rfl ?_
      refine WL.y rfl (Y.move) ?_
      refine WL.y rfl (Y.move) ?_
      refine WL.y rfl (Y.lenSl Tryd.underlying24 (q2) _) ?_
      refine WL.y rfl (Y.lss rfl rfl) ?_
      refine WL.nil ?_
      refine WC.condD rfl (fun h0 => ?_) (fun h0 => ?_)
      · have hjl : j < l.length := by omega
        have hjc : j < lc.length := by omega
        have hst := maxL_step a l j hjl
        refine WC.skip (thenQ.normal ?_)
        refine WC.seq ?_
        refine WC.block ?_
        refine WC.seqR rfl ?_
        refine WL.y rfl (Y.move) ?_
        refine WL.y rfl (Y.move) ?_
        refine WL.yex rfl (Y.idx Tryd.underlying24 ti26 (by decide) (q2) rfl (by omega) (by omega)) ?_
        rintro _ ⟨b17, o17, rfl, hc17⟩
        refine WL.y rfl (Y.loadK Tryd.underlying26 rfl ti26 (lc[j].h) rfl (elem_cells hjc hc17)) ?_
        refine WL.call rfl (C.func go21) (hih _ (List.getElem_mem hjl) _ _ (q3 j hjl hjc)) ?_
        rintro _ w19 ⟨rfl, hb19⟩
        refine WL.y rfl (Y.assign) ?_
        refine WL.nil ?_
        refine WC.seqR rfl ?_
        refine WL.y rfl (Y.move) ?_
        refine WL.y rfl (Y.move) ?_
        refine WL.y rfl (Y.gtr rfl rfl) ?_
        refine WL.nil ?_
        refine WC.condD rfl (fun h1 => ?_) (fun h1 => ?_)
        · rw [Int.max_eq_right (by omega)] at hst
          refine WC.region rfl ?_
          refine WL.y rfl (Y.move) ?_
          refine WL.y rfl (Y.assign) ?_
          refine WL.nil (inBlockQ.normal (thenQ.normal ?_))
          refine WC.region rfl ?_
          refine WL.y rfl (Y.move) ?_
          refine WL.y rfl (Y.add64 rfl rfl (by omega)) ?_
          refine WL.y rfl (Y.assign) ?_
          refine WL.nil (thenQ.normal ?_)
          exact ⟨j + 1, by omega, by omega, rfl, Below.step hb2 hb19, hl2.bel hb19, _, _, by rw [← ha, hst], ov_mk ⟨rfl, rfl, rfl, trivial⟩⟩
        · rw [Int.max_eq_left (by omega)] at hst
          refine WC.skip (inBlockQ.normal (thenQ.normal ?_))
          refine WC.region rfl ?_
          refine WL.y rfl (Y.move) ?_
          refine WL.y rfl (Y.add64 rfl rfl (by omega)) ?_
          refine WL.y rfl (Y.assign) ?_
          refine WL.nil (thenQ.normal ?_)
          exact ⟨j + 1, by omega, by omega, rfl, Below.step hb2 hb19, hl2.bel hb19, _, _, by rw [← ha, hst], ov_mk ⟨rfl, rfl, rfl, trivial⟩⟩
      · have hje : j = l.length := by omega
        subst hje
        rw [List.drop_length, maxL] at ha
        have e : Value.int .i64 (IntKind.i64.wrap (a + 1)) = .int .i64 (deepV v) := by rw [hse, ha, Int.add_comm]; rfl
        refine WC.exit (thenQ.exit (thenQ.exit (inBlockQ.hit (thenQ.normal ?_))))
        refine WC.seqR rfl ?_
        refine WL.y rfl (Y.move) ?_
        refine WL.y rfl (Y.add rfl rfl) ?_
        refine WL.y rfl (Y.assign) ?_
        refine WL.nil ?_
        refine WC.ret (endQ.one (.inr rfl) ?_)
        exact ⟨e, hb2⟩
end Go.Proofs.YthcppegkpkgnpaaDoor
