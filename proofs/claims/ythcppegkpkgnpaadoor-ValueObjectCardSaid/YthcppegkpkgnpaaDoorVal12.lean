/-
  ref02: Equal: walk.
-/
import Derived.Test.YthcppegkpkgnpaaDoorVal11
namespace Go.Proofs.YthcppegkpkgnpaaDoor
open Go Go.RowKit Go.Cx
set_option linter.unusedVariables false
set_option maxHeartbeats 4000000
theorem V.ext {v y : V} (h1 : v.k = y.k) (h2 : v.b = y.b) (h3 : v.i = y.i) (h4 : v.t = y.t) (h5 : v.l = y.l) (h6 : v.ks = y.ks) (h7 : v.vs = y.vs) : v = y := by
  cases v; cases y
  simp only [V.k, V.b, V.i, V.t, V.l, V.ks, V.vs] at h1 h2 h3 h4 h5 h6 h7
  subst h1 h2 h3 h4 h5 h6 h7
  rfl
theorem take_step {α : Type} {a b : List α} {j : Nat} (h : a.take j = b.take j) (h1 : j < a.length) (h2 : j < b.length) (he : a[j] = b[j]) : a.take (j + 1) = b.take (j + 1) := by
  rw [List.take_succ_eq_append_getElem h1, List.take_succ_eq_append_getElem h2, h, he]
theorem take_all {α : Type} {a b : List α} {j : Nat} (h : a.take j = b.take j) (h1 : a.length ≤ j) (h2 : b.length ≤ j) : a = b := by
  rwa [List.take_of_length_le h1, List.take_of_length_le h2] at h
theorem get_ne {α : Type} {a b : List α} {j : Nat} (h1 : j < a.length) (h2 : j < b.length) (he : ¬ a[j] = b[j]) : ¬ a = b := fun e => he (by subst e; rfl)
def REqOf (v : V) : Prop := ∀ (y : V) (w : World) (c d : List Value), VAt w v c → VAt w y d → Ret Tryd.prog 15 [.agg c.toArray, .agg d.toArray].toArray w fun r w' => (∃ e : Bool, r = .bool e ∧ (e = true ↔ v = y)) ∧ Below w.heap.size w w'
theorem requal_ret (v : V) : REqOf v := by
  induction v using V.ind with
  | h v ih1 ih2 =>
    intro y w c d hc hd
    have hqq := vat_parts hc
    obtain ⟨lv, ov, ⟨ca, a1, a2, a3⟩, ⟨ma, f1, f0, f2, f3⟩, ok1, rfl⟩ := hqq
    have hqq := vat_parts hd
    obtain ⟨lv2, ov2, ⟨cb, b1, b2, b3⟩, ⟨mb, g1, g0, g2, g3⟩, ok2, rfl⟩ := hqq
    clear hc hd
    have q1 := ok1.l
    have q2 := ok1.o
    have q3 := ok2.l
    have q4 := ok2.o
    have q5 := ok1.t
    have q6 := ok2.t
    refine Ret.of (n := 106) (rs := #[.tmp 4]) Tryd.func15 rfl rfl rfl (by simp) ?_
    refine WC.seqR rfl ?_
    refine WL.eex rfl (E.boxX) ?_
    rintro _ w2 ⟨rfl, hB2, hb2⟩
    refine WL.eex rfl (E.boxX) ?_
    rintro _ w3 ⟨rfl, hB3, hb3⟩
    refine WL.y rfl (Y.assign) ?_
    refine WL.nil ?_
    refine WC.seq ?_
    have hA : Blk w3 w.heap.size 26 (vcell v lv ov) := (show Blk _ _ _ (vcell v lv ov) from hB2).bel hb3
    have hB : Blk w3 w2.heap.size 26 (vcell y lv2 ov2) := hB3
    have hb := Below.step hb2 hb3
    have p2 := (show Blk w2 _ _ _ from hB2).lt
    have p3 := hB.lt
    clear hB2 hB3
    by_cases z0 : v.k = y.k
    · by_cases z1 : v.b = y.b
      · by_cases z2 : v.i = y.i
        · by_cases z3 : v.t = y.t
          · by_cases z4 : v.l.length = y.l.length
            · by_cases z5 : v.vs.length = y.vs.length
              · refine WC.seqR rfl ?_
                refine WL.y rfl (Y.fieldAddr fi26f0 ti23 (by decide) rfl (rfl) _) ?_
                refine WL.y rfl (Y.load1 Tryd.underlying23 rfl rfl (hA.cell 0)) ?_
                refine WL.y rfl (Y.fieldAddr fi26f0 ti23 (by decide) rfl (rfl) _) ?_
                refine WL.y rfl (Y.load1 Tryd.underlying23 rfl rfl (hB.cell 0)) ?_
                refine WL.y rfl (Y.dF (Y.nei rfl rfl) (by omega)) ?_
                refine WL.y rfl (Y.move) ?_
                refine WL.y rfl (Y.fieldAddr fi26f1 ti4 (by decide) rfl (rfl) _) ?_
                refine WL.y rfl (Y.load1 Tryd.underlying4 rfl rfl (hA.cell 1)) ?_
                refine WL.y rfl (Y.fieldAddr fi26f1 ti4 (by decide) rfl (rfl) _) ?_
                refine WL.y rfl (Y.load1 Tryd.underlying4 rfl rfl (hB.cell 1)) ?_
                refine WL.y rfl (Y.bF (Y.neb Tryd.underlying4 rfl rfl) (by simpa using z1)) ?_
                refine WL.y rfl (Y.pickF rfl) ?_
                refine WL.y rfl (Y.move) ?_
                refine WL.y rfl (Y.fieldAddr fi26f2 ti2 (by decide) rfl (rfl) _) ?_
                refine WL.y rfl (Y.load1 Tryd.underlying2 rfl rfl (hA.cell 2)) ?_
                refine WL.y rfl (Y.fieldAddr fi26f2 ti2 (by decide) rfl (rfl) _) ?_
                refine WL.y rfl (Y.load1 Tryd.underlying2 rfl rfl (hB.cell 2)) ?_
                refine WL.y rfl (Y.dF (Y.nei rfl rfl) (by omega)) ?_
                refine WL.y rfl (Y.pickF rfl) ?_
                refine WL.y rfl (Y.move) ?_
                refine WL.y rfl (Y.fieldAddr fi26f3 ti9 (by decide) rfl (rfl) _) ?_
                refine WL.y rfl (Y.load1 Tryd.underlying9 rfl rfl (hA.cell 3)) ?_
                refine WL.y rfl (Y.fieldAddr fi26f3 ti9 (by decide) rfl (rfl) _) ?_
                refine WL.y rfl (Y.load1 Tryd.underlying9 rfl rfl (hB.cell 3)) ?_
                refine WL.y rfl (Y.bF (Y.neS rfl rfl) (by simpa using z3)) ?_
                refine WL.y rfl (Y.pickF rfl) ?_
                refine WL.y rfl (Y.move) ?_
                refine WL.y rfl (Y.fieldAddr fi26f4 ti24 (by decide) rfl (rfl) _) ?_
                refine WL.y rfl (Y.load1 Tryd.underlying24 rfl rfl (hA.cell 4)) ?_
                refine WL.y rfl (Y.lenSl Tryd.underlying24 (a2.bel hb) _) ?_
                refine WL.y rfl (Y.fieldAddr fi26f4 ti24 (by decide) rfl (rfl) _) ?_
                refine WL.y rfl (Y.load1 Tryd.underlying24 rfl rfl (hB.cell 4)) ?_
                refine WL.y rfl (Y.lenSl Tryd.underlying24 (b2.bel hb) _) ?_
                refine WL.y rfl (Y.dF (Y.nei rfl rfl) (by omega)) ?_
                refine WL.y rfl (Y.pickF rfl) ?_
                refine WL.y rfl (Y.move) ?_
                refine WL.y rfl (Y.fieldAddr fi26f5 ti22 (by decide) rfl (rfl) _) ?_
                refine WL.y rfl (Y.load1 Tryd.underlying22 rfl rfl (hA.cell 5)) ?_
                refine WL.y rfl (Y.lenSl Tryd.underlying22 (f2.bel hb) _) ?_
                refine WL.y rfl (Y.fieldAddr fi26f5 ti22 (by decide) rfl (rfl) _) ?_
                refine WL.y rfl (Y.load1 Tryd.underlying22 rfl rfl (hB.cell 5)) ?_
                refine WL.y rfl (Y.lenSl Tryd.underlying22 (g2.bel hb) _) ?_
                refine WL.y rfl (Y.dF (Y.nei rfl rfl) (by omega)) ?_
                refine WL.y rfl (Y.pickF rfl) ?_
                refine WL.nil ?_
                refine WC.condF (rfl) ?_
                refine WC.skip (thenQ.normal ?_)
                refine WC.seq ?_
                refine WC.seqR rfl ?_
                refine WL.y rfl (Y.assign) ?_
                refine WL.nil ?_
                refine WC.block ?_
                refine WC.loop (fun j => v.l.length - j) (fun j f ds w' => j ≤ v.l.length ∧ ds = [] ∧ Below w.heap.size w w' ∧ (Blk w' w.heap.size 26 (vcell v lv ov) ∧ Blk w' w2.heap.size 26 (vcell y lv2 ov2)) ∧ v.l.take j = y.l.take j ∧ ∃ J, f = Go.Cx.ov J [(2, .pointer (some ⟨w.heap.size, 0, none⟩)), (3, .pointer (some ⟨w2.heap.size, 0, none⟩)), (5, .int .i64 (j : Int))]) 0 ?_ ?_
                · exact ⟨by omega, rfl, hb, ⟨hA, hB⟩, rfl, _, ov_mk ⟨rfl, rfl, rfl, trivial⟩⟩
                · rintro j _ _ w4 ⟨hj, rfl, hb4, ⟨hA4, hB4⟩, ht, J, rfl⟩
                  refine WC.seq ?_
                  refine WC.seqR rfl ?_
                  refine WL.y rfl (Y.move) ?_
                  refine WL.y rfl (Y.fieldAddr fi26f4 ti24 (by decide) rfl (rfl) _) ?_
                  refine WL.y rfl (Y.load1 Tryd.underlying24 rfl rfl (hA4.cell 4)) ?_
                  refine WL.y rfl (Y.lenSl Tryd.underlying24 (a2.bel hb4) _) ?_
                  refine WL.y rfl (Y.lss rfl rfl) ?_
                  refine WL.nil ?_
                  refine WC.condD rfl (fun h0 => ?_) (fun h0 => ?_)
                  · have h1 : j < v.l.length := by omega
                    have h2 : j < y.l.length := by omega
                    have hja : j < ca.length := by omega
                    have hjb : j < cb.length := by omega
                    refine WC.skip (thenQ.normal ?_)
                    refine WC.seq ?_
                    refine WC.block ?_
                    refine WC.seq ?_
                    refine WC.regionB (fun i => Nat.beq i 10) [(0, .any), (1, .held), (2, .any), (3, .any), (4, .held), (5, .any), (6, .held), (7, .any), (8, .any), (9, .held), (10, .seq), (11, .any)] mixed (by kernel_rfl) (fun w6 hS6 hheap => ?_)
                    refine RL.any rfl rfl (fun _ => Y.fieldAddr fi26f4 ti24 (by decide) rfl (rfl) _) ?_
                    refine RL.held rfl rfl hS6 (fun _ hb9 => Y.load1 Tryd.underlying24 rfl rfl (cell_bel (hA4.cell 4) hb9)) ?_
                    refine RL.any rfl rfl (fun _ => Y.move) ?_
                    refine RL.yex rfl rfl (Y.idx Tryd.underlying24 ti26 (by decide) (a2.bel hb4) rfl (by omega) (by omega)) ?_
                    rintro _ ⟨b61, o61, rfl, hc61⟩
                    refine RL.held rfl rfl hS6 (fun _ hb9 => Y.loadK Tryd.underlying26 rfl ti26 (ca[j].h) rfl (Cells.bel (elem_cells hja hc61) hb9)) ?_
                    refine RL.any rfl rfl (fun _ => Y.fieldAddr fi26f4 ti24 (by decide) rfl (rfl) _) ?_
                    refine RL.held rfl rfl hS6 (fun _ hb9 => Y.load1 Tryd.underlying24 rfl rfl (cell_bel (hB4.cell 4) hb9)) ?_
                    refine RL.any rfl rfl (fun _ => Y.move) ?_
                    refine RL.yex rfl rfl (Y.idx Tryd.underlying24 ti26 (by decide) (b2.bel hb4) rfl (by omega) (by omega)) ?_
                    rintro _ ⟨b66, o66, rfl, hc66⟩
                    refine RL.held rfl rfl hS6 (fun _ hb9 => Y.loadK Tryd.underlying26 rfl ti26 (cb[j].h) rfl (Cells.bel (elem_cells hjb hc66) hb9)) ?_
                    refine RL.call rfl rfl (C.func go15) (ih1 _ (List.getElem_mem h1) _ _ _ _ (((a3 j h1 hja).bel hb4).bel hS6) (((b3 j h2 hjb).bel hb4).bel hS6)) ?_
                    rintro _ w68 ⟨⟨e68, rfl, he68⟩, hb68⟩
                    refine ⟨.inl rfl, ?_⟩
                    refine RL.any rfl rfl (fun _ => Y.not rfl) ?_
                    refine RL.nil (thenQ.normal ?_)
                    have hbb := Below.step (Below.step hb4 hS6) hb68
                    cases e68 with
                    | false =>
                      have hne : ¬ v.l[j] = y.l[j] := fun e => Bool.noConfusion (he68.2 e)
                      have hne2 : ¬ v = y := fun e => hne (by subst e; rfl)
                      refine WC.condT (rfl) ?_
                      refine WC.seqR rfl ?_
                      refine WL.y rfl (Y.assign) ?_
                      refine WL.nil ?_
                      refine WC.ret (inBlockQ.ret (thenQ.ret (thenQ.ret (inBlockQ.ret (thenQ.ret (endQ.one (.inr rfl) ?_))))))
                      exact ⟨⟨false, rfl, ⟨fun e => Bool.noConfusion e, fun e => absurd e hne2⟩⟩, hbb⟩
                    | true =>
                      have heq : v.l[j] = y.l[j] := he68.1 rfl
                      skip
                      refine WC.condF (rfl) ?_
                      refine WC.skip (inBlockQ.normal (thenQ.normal ?_))
                      refine WC.region rfl ?_
                      refine WL.y rfl (Y.move) ?_
                      refine WL.y rfl (Y.add64 rfl rfl (by omega)) ?_
                      refine WL.y rfl (Y.assign) ?_
                      refine WL.nil (thenQ.normal ?_)
                      exact ⟨j + 1, by omega, by omega, rfl, hbb, ⟨(hA4.bel hS6).bel hb68, (hB4.bel hS6).bel hb68⟩, take_step ht h1 h2 heq, _, ov_mk ⟨rfl, rfl, rfl, trivial⟩⟩
                  · have z6 : v.l = y.l := take_all ht (by omega) (by omega)
                    refine WC.exit (thenQ.exit (thenQ.exit (inBlockQ.hit (thenQ.normal ?_))))
                    refine WC.seq ?_
                    refine WC.seqR rfl ?_
                    refine WL.y rfl (Y.assign) ?_
                    refine WL.nil ?_
                    refine WC.block ?_
                    clear hA hB hb ht
                    refine WC.loop (fun j => v.vs.length - j) (fun j f ds w' => j ≤ v.vs.length ∧ ds = [] ∧ Below w.heap.size w w' ∧ (Blk w' w.heap.size 26 (vcell v lv ov) ∧ Blk w' w2.heap.size 26 (vcell y lv2 ov2)) ∧ (v.vs.take j = y.vs.take j ∧ v.ks.take j = y.ks.take j) ∧ ∃ J, f = Go.Cx.ov J [(2, .pointer (some ⟨w.heap.size, 0, none⟩)), (3, .pointer (some ⟨w2.heap.size, 0, none⟩)), (6, .int .i64 (j : Int))]) 0 ?_ ?_
                    · exact ⟨by omega, rfl, hb4, ⟨hA4, hB4⟩, ⟨rfl, rfl⟩, _, ov_mk ⟨rfl, rfl, rfl, trivial⟩⟩
                    · clear hA4 hB4 hb4
                      rintro j _ _ w4 ⟨hj, rfl, hb4, ⟨hA4, hB4⟩, ⟨ht, hu⟩, J, rfl⟩
                      refine WC.seq ?_
                      refine WC.seqR rfl ?_
                      refine WL.y rfl (Y.move) ?_
                      refine WL.y rfl (Y.fieldAddr fi26f5 ti22 (by decide) rfl (rfl) _) ?_
                      refine WL.y rfl (Y.load1 Tryd.underlying22 rfl rfl (hA4.cell 5)) ?_
                      refine WL.y rfl (Y.lenSl Tryd.underlying22 (f2.bel hb4) _) ?_
                      refine WL.y rfl (Y.lss rfl rfl) ?_
                      refine WL.nil ?_
                      by_cases h0 : j < v.vs.length
                      · have h2 : j < y.vs.length := by omega
                        have hja : j < ma.length := by omega
                        have hjb : j < mb.length := by omega
                        have hk1 : j < v.ks.length := by omega
                        have hk2 : j < y.ks.length := by omega
                        by_cases hkk : v.ks[j] = y.ks[j]
                        · skip
                          refine WC.condT (congrArg Value.bool (decide_eq_true (by omega))) ?_
                          refine WC.skip (thenQ.normal ?_)
                          refine WC.seq ?_
                          refine WC.block ?_
                          refine WC.seq ?_
                          refine WC.regionB (fun i => Nat.beq i 26) [(0, .any), (1, .held), (2, .any), (3, .any), (4, .any), (5, .held), (6, .any), (7, .held), (8, .any), (9, .any), (10, .any), (11, .held), (12, .any), (13, .any), (14, .any), (15, .held), (16, .any), (17, .any), (18, .any), (19, .held), (20, .any), (21, .held), (22, .any), (23, .any), (24, .any), (25, .held), (26, .seq), (27, .any), (28, .any)] mixed (by kernel_rfl) (fun w6 hS6 hheap => ?_)
                          refine RL.any rfl rfl (fun _ => Y.fieldAddr fi26f5 ti22 (by decide) rfl (rfl) _) ?_
                          refine RL.held rfl rfl hS6 (fun _ hb9 => Y.load1 Tryd.underlying22 rfl rfl (cell_bel (hA4.cell 5) hb9)) ?_
                          refine RL.any rfl rfl (fun _ => Y.move) ?_
                          refine RL.yex rfl rfl (Y.idx Tryd.underlying22 ti38 (by decide) (f2.bel hb4) rfl (by omega) (by omega)) ?_
                          rintro _ ⟨b80, o80, rfl, hc80⟩
                          refine RL.any rfl rfl (fun _ => Y.fieldAddr fi38f0 ti9 (by decide) rfl (rfl) _) ?_
                          refine RL.held rfl rfl hS6 (fun _ hb9 => Y.load1 Tryd.underlying9 rfl rfl (cell_bel (Cells.hd (mem_cells hk1 hja hc80)) hb9)) ?_
                          refine RL.any rfl rfl (fun _ => Y.fieldAddr fi26f5 ti22 (by decide) rfl (rfl) _) ?_
                          refine RL.held rfl rfl hS6 (fun _ hb9 => Y.load1 Tryd.underlying22 rfl rfl (cell_bel (hB4.cell 5) hb9)) ?_
                          refine RL.any rfl rfl (fun _ => Y.move) ?_
                          refine RL.yex rfl rfl (Y.idx Tryd.underlying22 ti38 (by decide) (g2.bel hb4) rfl (by omega) (by omega)) ?_
                          rintro _ ⟨b86, o86, rfl, hc86⟩
                          refine RL.any rfl rfl (fun _ => Y.fieldAddr fi38f0 ti9 (by decide) rfl (rfl) _) ?_
                          refine RL.held rfl rfl hS6 (fun _ hb9 => Y.load1 Tryd.underlying9 rfl rfl (cell_bel (Cells.hd (mem_cells hk2 hjb hc86)) hb9)) ?_
                          refine RL.any rfl rfl (fun _ => Y.bF (Y.neS rfl rfl) (by simpa using hkk)) ?_
                          refine RL.any rfl rfl (fun _ => Y.move) ?_
                          refine RL.any rfl rfl (fun _ => Y.fieldAddr fi26f5 ti22 (by decide) rfl (rfl) _) ?_
                          refine RL.held rfl rfl hS6 (fun _ hb9 => Y.load1 Tryd.underlying22 rfl rfl (cell_bel (hA4.cell 5) hb9)) ?_
                          refine RL.any rfl rfl (fun _ => Y.move) ?_
                          refine RL.yex rfl rfl (Y.idx Tryd.underlying22 ti38 (by decide) (f2.bel hb4) rfl (by omega) (by omega)) ?_
                          rintro _ ⟨b94, o94, rfl, hc94⟩
                          refine RL.any rfl rfl (fun _ => Y.fieldAddr fi38f1 ti26 (by decide) rfl (rfl) _) ?_
                          refine RL.held rfl rfl hS6 (fun _ hb9 => Y.loadK Tryd.underlying26 rfl ti26 (ma[j].h) rfl (Cells.bel (Cells.tl (mem_cells hk1 hja hc94)) hb9)) ?_
                          refine RL.any rfl rfl (fun _ => Y.fieldAddr fi26f5 ti22 (by decide) rfl (rfl) _) ?_
                          refine RL.held rfl rfl hS6 (fun _ hb9 => Y.load1 Tryd.underlying22 rfl rfl (cell_bel (hB4.cell 5) hb9)) ?_
                          refine RL.any rfl rfl (fun _ => Y.move) ?_
                          refine RL.yex rfl rfl (Y.idx Tryd.underlying22 ti38 (by decide) (g2.bel hb4) rfl (by omega) (by omega)) ?_
                          rintro _ ⟨b100, o100, rfl, hc100⟩
                          refine RL.any rfl rfl (fun _ => Y.fieldAddr fi38f1 ti26 (by decide) rfl (rfl) _) ?_
                          refine RL.held rfl rfl hS6 (fun _ hb9 => Y.loadK Tryd.underlying26 rfl ti26 (mb[j].h) rfl (Cells.bel (Cells.tl (mem_cells hk2 hjb hc100)) hb9)) ?_
                          refine RL.call rfl rfl (C.func go15) (ih2 _ (List.getElem_mem h0) _ _ _ _ (((f3 j h0 hja).bel hb4).bel hS6) (((g3 j h2 hjb).bel hb4).bel hS6)) ?_
                          rintro _ w68 ⟨⟨e68, rfl, he68⟩, hb68⟩
                          refine ⟨.inl rfl, ?_⟩
                          refine RL.any rfl rfl (fun _ => Y.not rfl) ?_
                          refine RL.any rfl rfl (fun _ => Y.pickF rfl) ?_
                          refine RL.nil (thenQ.normal ?_)
                          have hbb := Below.step (Below.step hb4 hS6) hb68
                          cases e68 with
                          | false =>
                            have hne : ¬ v.vs[j] = y.vs[j] := fun e => Bool.noConfusion (he68.2 e)
                            have hne2 : ¬ v = y := fun e => hne (by subst e; rfl)
                            refine WC.condT (rfl) ?_
                            refine WC.seqR rfl ?_
                            refine WL.y rfl (Y.assign) ?_
                            refine WL.nil ?_
                            refine WC.ret (inBlockQ.ret (thenQ.ret (thenQ.ret (inBlockQ.ret (thenQ.ret (endQ.one (.inr rfl) ?_))))))
                            exact ⟨⟨false, rfl, ⟨fun e => Bool.noConfusion e, fun e => absurd e hne2⟩⟩, hbb⟩
                          | true =>
                            have heq : v.vs[j] = y.vs[j] := he68.1 rfl
                            skip
                            refine WC.condF (rfl) ?_
                            refine WC.skip (inBlockQ.normal (thenQ.normal ?_))
                            refine WC.region rfl ?_
                            refine WL.y rfl (Y.move) ?_
                            refine WL.y rfl (Y.add64 rfl rfl (by omega)) ?_
                            refine WL.y rfl (Y.assign) ?_
                            refine WL.nil (thenQ.normal ?_)
                            exact ⟨j + 1, by omega, by omega, rfl, hbb, ⟨(hA4.bel hS6).bel hb68, (hB4.bel hS6).bel hb68⟩, ⟨take_step ht h0 h2 heq, take_step hu hk1 hk2 hkk⟩, _, ov_mk ⟨rfl, rfl, rfl, trivial⟩⟩
                        · have hne2 : ¬ v = y := fun e => hkk (by subst e; rfl)
                          refine WC.condT (congrArg Value.bool (decide_eq_true (by omega))) ?_
                          refine WC.skip (thenQ.normal ?_)
                          refine WC.seq ?_
                          refine WC.block ?_
                          refine WC.seq ?_
                          refine WC.regionB (fun _ => false) [(0, .any), (1, .held), (2, .any), (3, .any), (4, .any), (5, .held), (6, .any), (7, .held), (8, .any), (9, .any), (10, .any), (11, .held), (12, .any), (13, .any), (14, .any), (15, .held), (16, .any), (17, .any), (18, .any), (19, .held), (20, .any), (21, .held), (22, .any), (23, .any), (24, .any), (25, .held), (26, .any), (27, .any), (28, .any)] mixed (by kernel_rfl) (fun w6 hS6 hheap => ?_)
                          refine RL.any rfl rfl (fun _ => Y.fieldAddr fi26f5 ti22 (by decide) rfl (rfl) _) ?_
                          refine RL.held rfl rfl hS6 (fun _ hb9 => Y.load1 Tryd.underlying22 rfl rfl (cell_bel (hA4.cell 5) hb9)) ?_
                          refine RL.any rfl rfl (fun _ => Y.move) ?_
                          refine RL.yex rfl rfl (Y.idx Tryd.underlying22 ti38 (by decide) (f2.bel hb4) rfl (by omega) (by omega)) ?_
                          rintro _ ⟨b80, o80, rfl, hc80⟩
                          refine RL.any rfl rfl (fun _ => Y.fieldAddr fi38f0 ti9 (by decide) rfl (rfl) _) ?_
                          refine RL.held rfl rfl hS6 (fun _ hb9 => Y.load1 Tryd.underlying9 rfl rfl (cell_bel (Cells.hd (mem_cells hk1 hja hc80)) hb9)) ?_
                          refine RL.any rfl rfl (fun _ => Y.fieldAddr fi26f5 ti22 (by decide) rfl (rfl) _) ?_
                          refine RL.held rfl rfl hS6 (fun _ hb9 => Y.load1 Tryd.underlying22 rfl rfl (cell_bel (hB4.cell 5) hb9)) ?_
                          refine RL.any rfl rfl (fun _ => Y.move) ?_
                          refine RL.yex rfl rfl (Y.idx Tryd.underlying22 ti38 (by decide) (g2.bel hb4) rfl (by omega) (by omega)) ?_
                          rintro _ ⟨b86, o86, rfl, hc86⟩
                          refine RL.any rfl rfl (fun _ => Y.fieldAddr fi38f0 ti9 (by decide) rfl (rfl) _) ?_
                          refine RL.held rfl rfl hS6 (fun _ hb9 => Y.load1 Tryd.underlying9 rfl rfl (cell_bel (Cells.hd (mem_cells hk2 hjb hc86)) hb9)) ?_
                          refine RL.any rfl rfl (fun _ => Y.bT (Y.neS rfl rfl) (by simpa using hkk)) ?_
                          refine RL.any rfl rfl (fun _ => Y.move) ?_
                          refine RL.off rfl rfl ?_
                          refine RL.offH rfl rfl hS6 ?_
                          refine RL.off rfl rfl ?_
                          refine RL.off rfl rfl ?_
                          refine RL.off rfl rfl ?_
                          refine RL.offH rfl rfl hS6 ?_
                          refine RL.off rfl rfl ?_
                          refine RL.offH rfl rfl hS6 ?_
                          refine RL.off rfl rfl ?_
                          refine RL.off rfl rfl ?_
                          refine RL.off rfl rfl ?_
                          refine RL.offH rfl rfl hS6 ?_
                          refine RL.off rfl rfl ?_
                          refine RL.off rfl rfl ?_
                          refine RL.any rfl rfl (fun _ => Y.pickT rfl) ?_
                          refine RL.nil (thenQ.normal ?_)
                          refine WC.condT (rfl) ?_
                          refine WC.seqR rfl ?_
                          refine WL.y rfl (Y.assign) ?_
                          refine WL.nil ?_
                          refine WC.ret (inBlockQ.ret (thenQ.ret (thenQ.ret (inBlockQ.ret (thenQ.ret (endQ.one (.inr rfl) ?_))))))
                          exact ⟨⟨false, rfl, ⟨fun e => Bool.noConfusion e, fun e => absurd e hne2⟩⟩, Below.step hb4 hS6⟩
                      · have z7 : v.vs = y.vs := take_all ht (by omega) (by omega)
                        have z8 : v.ks = y.ks := take_all hu (by omega) (by omega)
                        skip
                        refine WC.condF (congrArg Value.bool (decide_eq_false (by omega))) ?_
                        refine WC.exit (thenQ.exit (thenQ.exit (inBlockQ.hit (thenQ.normal ?_))))
                        refine WC.seqR rfl ?_
                        refine WL.y rfl (Y.assign) ?_
                        refine WL.nil ?_
                        refine WC.ret (endQ.one (.inr rfl) ?_)
                        exact ⟨⟨true, rfl, ⟨fun _ => V.ext z0 z1 z2 z3 z6 z8 z7, fun _ => rfl⟩⟩, hb4⟩
              · have hne2 : ¬ v = y := fun e => z5 (by subst e; rfl)
                refine WC.seqR rfl ?_
                refine WL.y rfl (Y.fieldAddr fi26f0 ti23 (by decide) rfl (rfl) _) ?_
                refine WL.y rfl (Y.load1 Tryd.underlying23 rfl rfl (hA.cell 0)) ?_
                refine WL.y rfl (Y.fieldAddr fi26f0 ti23 (by decide) rfl (rfl) _) ?_
                refine WL.y rfl (Y.load1 Tryd.underlying23 rfl rfl (hB.cell 0)) ?_
                refine WL.y rfl (Y.dF (Y.nei rfl rfl) (by omega)) ?_
                refine WL.y rfl (Y.move) ?_
                refine WL.y rfl (Y.fieldAddr fi26f1 ti4 (by decide) rfl (rfl) _) ?_
                refine WL.y rfl (Y.load1 Tryd.underlying4 rfl rfl (hA.cell 1)) ?_
                refine WL.y rfl (Y.fieldAddr fi26f1 ti4 (by decide) rfl (rfl) _) ?_
                refine WL.y rfl (Y.load1 Tryd.underlying4 rfl rfl (hB.cell 1)) ?_
                refine WL.y rfl (Y.bF (Y.neb Tryd.underlying4 rfl rfl) (by simpa using z1)) ?_
                refine WL.y rfl (Y.pickF rfl) ?_
                refine WL.y rfl (Y.move) ?_
                refine WL.y rfl (Y.fieldAddr fi26f2 ti2 (by decide) rfl (rfl) _) ?_
                refine WL.y rfl (Y.load1 Tryd.underlying2 rfl rfl (hA.cell 2)) ?_
                refine WL.y rfl (Y.fieldAddr fi26f2 ti2 (by decide) rfl (rfl) _) ?_
                refine WL.y rfl (Y.load1 Tryd.underlying2 rfl rfl (hB.cell 2)) ?_
                refine WL.y rfl (Y.dF (Y.nei rfl rfl) (by omega)) ?_
                refine WL.y rfl (Y.pickF rfl) ?_
                refine WL.y rfl (Y.move) ?_
                refine WL.y rfl (Y.fieldAddr fi26f3 ti9 (by decide) rfl (rfl) _) ?_
                refine WL.y rfl (Y.load1 Tryd.underlying9 rfl rfl (hA.cell 3)) ?_
                refine WL.y rfl (Y.fieldAddr fi26f3 ti9 (by decide) rfl (rfl) _) ?_
                refine WL.y rfl (Y.load1 Tryd.underlying9 rfl rfl (hB.cell 3)) ?_
                refine WL.y rfl (Y.bF (Y.neS rfl rfl) (by simpa using z3)) ?_
                refine WL.y rfl (Y.pickF rfl) ?_
                refine WL.y rfl (Y.move) ?_
                refine WL.y rfl (Y.fieldAddr fi26f4 ti24 (by decide) rfl (rfl) _) ?_
                refine WL.y rfl (Y.load1 Tryd.underlying24 rfl rfl (hA.cell 4)) ?_
                refine WL.y rfl (Y.lenSl Tryd.underlying24 (a2.bel hb) _) ?_
                refine WL.y rfl (Y.fieldAddr fi26f4 ti24 (by decide) rfl (rfl) _) ?_
                refine WL.y rfl (Y.load1 Tryd.underlying24 rfl rfl (hB.cell 4)) ?_
                refine WL.y rfl (Y.lenSl Tryd.underlying24 (b2.bel hb) _) ?_
                refine WL.y rfl (Y.dF (Y.nei rfl rfl) (by omega)) ?_
                refine WL.y rfl (Y.pickF rfl) ?_
                refine WL.y rfl (Y.move) ?_
                refine WL.y rfl (Y.fieldAddr fi26f5 ti22 (by decide) rfl (rfl) _) ?_
                refine WL.y rfl (Y.load1 Tryd.underlying22 rfl rfl (hA.cell 5)) ?_
                refine WL.y rfl (Y.lenSl Tryd.underlying22 (f2.bel hb) _) ?_
                refine WL.y rfl (Y.fieldAddr fi26f5 ti22 (by decide) rfl (rfl) _) ?_
                refine WL.y rfl (Y.load1 Tryd.underlying22 rfl rfl (hB.cell 5)) ?_
                refine WL.y rfl (Y.lenSl Tryd.underlying22 (g2.bel hb) _) ?_
                refine WL.y rfl (Y.dT (Y.nei rfl rfl) (by omega)) ?_
                refine WL.y rfl (Y.pickF rfl) ?_
                refine WL.nil ?_
                refine WC.condT (rfl) ?_
                refine WC.seqR rfl ?_
                refine WL.y rfl (Y.assign) ?_
                refine WL.nil ?_
                refine WC.ret (thenQ.ret (endQ.one (.inr rfl) ?_))
                exact ⟨⟨false, rfl, ⟨fun e => Bool.noConfusion e, fun e => absurd e hne2⟩⟩, hb⟩
            · have hne2 : ¬ v = y := fun e => z4 (by subst e; rfl)
              refine WC.seqR rfl ?_
              refine WL.y rfl (Y.fieldAddr fi26f0 ti23 (by decide) rfl (rfl) _) ?_
              refine WL.y rfl (Y.load1 Tryd.underlying23 rfl rfl (hA.cell 0)) ?_
              refine WL.y rfl (Y.fieldAddr fi26f0 ti23 (by decide) rfl (rfl) _) ?_
              refine WL.y rfl (Y.load1 Tryd.underlying23 rfl rfl (hB.cell 0)) ?_
              refine WL.y rfl (Y.dF (Y.nei rfl rfl) (by omega)) ?_
              refine WL.y rfl (Y.move) ?_
              refine WL.y rfl (Y.fieldAddr fi26f1 ti4 (by decide) rfl (rfl) _) ?_
              refine WL.y rfl (Y.load1 Tryd.underlying4 rfl rfl (hA.cell 1)) ?_
              refine WL.y rfl (Y.fieldAddr fi26f1 ti4 (by decide) rfl (rfl) _) ?_
              refine WL.y rfl (Y.load1 Tryd.underlying4 rfl rfl (hB.cell 1)) ?_
              refine WL.y rfl (Y.bF (Y.neb Tryd.underlying4 rfl rfl) (by simpa using z1)) ?_
              refine WL.y rfl (Y.pickF rfl) ?_
              refine WL.y rfl (Y.move) ?_
              refine WL.y rfl (Y.fieldAddr fi26f2 ti2 (by decide) rfl (rfl) _) ?_
              refine WL.y rfl (Y.load1 Tryd.underlying2 rfl rfl (hA.cell 2)) ?_
              refine WL.y rfl (Y.fieldAddr fi26f2 ti2 (by decide) rfl (rfl) _) ?_
              refine WL.y rfl (Y.load1 Tryd.underlying2 rfl rfl (hB.cell 2)) ?_
              refine WL.y rfl (Y.dF (Y.nei rfl rfl) (by omega)) ?_
              refine WL.y rfl (Y.pickF rfl) ?_
              refine WL.y rfl (Y.move) ?_
              refine WL.y rfl (Y.fieldAddr fi26f3 ti9 (by decide) rfl (rfl) _) ?_
              refine WL.y rfl (Y.load1 Tryd.underlying9 rfl rfl (hA.cell 3)) ?_
              refine WL.y rfl (Y.fieldAddr fi26f3 ti9 (by decide) rfl (rfl) _) ?_
              refine WL.y rfl (Y.load1 Tryd.underlying9 rfl rfl (hB.cell 3)) ?_
              refine WL.y rfl (Y.bF (Y.neS rfl rfl) (by simpa using z3)) ?_
              refine WL.y rfl (Y.pickF rfl) ?_
              refine WL.y rfl (Y.move) ?_
              refine WL.y rfl (Y.fieldAddr fi26f4 ti24 (by decide) rfl (rfl) _) ?_
              refine WL.y rfl (Y.load1 Tryd.underlying24 rfl rfl (hA.cell 4)) ?_
              refine WL.y rfl (Y.lenSl Tryd.underlying24 (a2.bel hb) _) ?_
              refine WL.y rfl (Y.fieldAddr fi26f4 ti24 (by decide) rfl (rfl) _) ?_
              refine WL.y rfl (Y.load1 Tryd.underlying24 rfl rfl (hB.cell 4)) ?_
              refine WL.y rfl (Y.lenSl Tryd.underlying24 (b2.bel hb) _) ?_
              refine WL.y rfl (Y.dT (Y.nei rfl rfl) (by omega)) ?_
              refine WL.y rfl (Y.pickF rfl) ?_
              refine WL.y rfl (Y.move) ?_
              refine WL.off rfl ?_
              refine WL.off rfl ?_
              refine WL.off rfl ?_
              refine WL.off rfl ?_
              refine WL.off rfl ?_
              refine WL.off rfl ?_
              refine WL.off rfl ?_
              refine WL.y rfl (Y.pickT rfl) ?_
              refine WL.nil ?_
              refine WC.condT (rfl) ?_
              refine WC.seqR rfl ?_
              refine WL.y rfl (Y.assign) ?_
              refine WL.nil ?_
              refine WC.ret (thenQ.ret (endQ.one (.inr rfl) ?_))
              exact ⟨⟨false, rfl, ⟨fun e => Bool.noConfusion e, fun e => absurd e hne2⟩⟩, hb⟩
          · have hne2 : ¬ v = y := fun e => z3 (by subst e; rfl)
            refine WC.seqR rfl ?_
            refine WL.y rfl (Y.fieldAddr fi26f0 ti23 (by decide) rfl (rfl) _) ?_
            refine WL.y rfl (Y.load1 Tryd.underlying23 rfl rfl (hA.cell 0)) ?_
            refine WL.y rfl (Y.fieldAddr fi26f0 ti23 (by decide) rfl (rfl) _) ?_
            refine WL.y rfl (Y.load1 Tryd.underlying23 rfl rfl (hB.cell 0)) ?_
            refine WL.y rfl (Y.dF (Y.nei rfl rfl) (by omega)) ?_
            refine WL.y rfl (Y.move) ?_
            refine WL.y rfl (Y.fieldAddr fi26f1 ti4 (by decide) rfl (rfl) _) ?_
            refine WL.y rfl (Y.load1 Tryd.underlying4 rfl rfl (hA.cell 1)) ?_
            refine WL.y rfl (Y.fieldAddr fi26f1 ti4 (by decide) rfl (rfl) _) ?_
            refine WL.y rfl (Y.load1 Tryd.underlying4 rfl rfl (hB.cell 1)) ?_
            refine WL.y rfl (Y.bF (Y.neb Tryd.underlying4 rfl rfl) (by simpa using z1)) ?_
            refine WL.y rfl (Y.pickF rfl) ?_
            refine WL.y rfl (Y.move) ?_
            refine WL.y rfl (Y.fieldAddr fi26f2 ti2 (by decide) rfl (rfl) _) ?_
            refine WL.y rfl (Y.load1 Tryd.underlying2 rfl rfl (hA.cell 2)) ?_
            refine WL.y rfl (Y.fieldAddr fi26f2 ti2 (by decide) rfl (rfl) _) ?_
            refine WL.y rfl (Y.load1 Tryd.underlying2 rfl rfl (hB.cell 2)) ?_
            refine WL.y rfl (Y.dF (Y.nei rfl rfl) (by omega)) ?_
            refine WL.y rfl (Y.pickF rfl) ?_
            refine WL.y rfl (Y.move) ?_
            refine WL.y rfl (Y.fieldAddr fi26f3 ti9 (by decide) rfl (rfl) _) ?_
            refine WL.y rfl (Y.load1 Tryd.underlying9 rfl rfl (hA.cell 3)) ?_
            refine WL.y rfl (Y.fieldAddr fi26f3 ti9 (by decide) rfl (rfl) _) ?_
            refine WL.y rfl (Y.load1 Tryd.underlying9 rfl rfl (hB.cell 3)) ?_
            refine WL.y rfl (Y.bT (Y.neS rfl rfl) (by simpa using z3)) ?_
            refine WL.y rfl (Y.pickF rfl) ?_
            refine WL.y rfl (Y.move) ?_
            refine WL.off rfl ?_
            refine WL.off rfl ?_
            refine WL.off rfl ?_
            refine WL.off rfl ?_
            refine WL.off rfl ?_
            refine WL.off rfl ?_
            refine WL.off rfl ?_
            refine WL.y rfl (Y.pickT rfl) ?_
            refine WL.y rfl (Y.move) ?_
            refine WL.off rfl ?_
            refine WL.off rfl ?_
            refine WL.off rfl ?_
            refine WL.off rfl ?_
            refine WL.off rfl ?_
            refine WL.off rfl ?_
            refine WL.off rfl ?_
            refine WL.y rfl (Y.pickT rfl) ?_
            refine WL.nil ?_
            refine WC.condT (rfl) ?_
            refine WC.seqR rfl ?_
            refine WL.y rfl (Y.assign) ?_
            refine WL.nil ?_
            refine WC.ret (thenQ.ret (endQ.one (.inr rfl) ?_))
            exact ⟨⟨false, rfl, ⟨fun e => Bool.noConfusion e, fun e => absurd e hne2⟩⟩, hb⟩
        · have hne2 : ¬ v = y := fun e => z2 (by subst e; rfl)
          refine WC.seqR rfl ?_
          refine WL.y rfl (Y.fieldAddr fi26f0 ti23 (by decide) rfl (rfl) _) ?_
          refine WL.y rfl (Y.load1 Tryd.underlying23 rfl rfl (hA.cell 0)) ?_
          refine WL.y rfl (Y.fieldAddr fi26f0 ti23 (by decide) rfl (rfl) _) ?_
          refine WL.y rfl (Y.load1 Tryd.underlying23 rfl rfl (hB.cell 0)) ?_
          refine WL.y rfl (Y.dF (Y.nei rfl rfl) (by omega)) ?_
          refine WL.y rfl (Y.move) ?_
          refine WL.y rfl (Y.fieldAddr fi26f1 ti4 (by decide) rfl (rfl) _) ?_
          refine WL.y rfl (Y.load1 Tryd.underlying4 rfl rfl (hA.cell 1)) ?_
          refine WL.y rfl (Y.fieldAddr fi26f1 ti4 (by decide) rfl (rfl) _) ?_
          refine WL.y rfl (Y.load1 Tryd.underlying4 rfl rfl (hB.cell 1)) ?_
          refine WL.y rfl (Y.bF (Y.neb Tryd.underlying4 rfl rfl) (by simpa using z1)) ?_
          refine WL.y rfl (Y.pickF rfl) ?_
          refine WL.y rfl (Y.move) ?_
          refine WL.y rfl (Y.fieldAddr fi26f2 ti2 (by decide) rfl (rfl) _) ?_
          refine WL.y rfl (Y.load1 Tryd.underlying2 rfl rfl (hA.cell 2)) ?_
          refine WL.y rfl (Y.fieldAddr fi26f2 ti2 (by decide) rfl (rfl) _) ?_
          refine WL.y rfl (Y.load1 Tryd.underlying2 rfl rfl (hB.cell 2)) ?_
          refine WL.y rfl (Y.dT (Y.nei rfl rfl) (by omega)) ?_
          refine WL.y rfl (Y.pickF rfl) ?_
          refine WL.y rfl (Y.move) ?_
          refine WL.off rfl ?_
          refine WL.off rfl ?_
          refine WL.off rfl ?_
          refine WL.off rfl ?_
          refine WL.off rfl ?_
          refine WL.y rfl (Y.pickT rfl) ?_
          refine WL.y rfl (Y.move) ?_
          refine WL.off rfl ?_
          refine WL.off rfl ?_
          refine WL.off rfl ?_
          refine WL.off rfl ?_
          refine WL.off rfl ?_
          refine WL.off rfl ?_
          refine WL.off rfl ?_
          refine WL.y rfl (Y.pickT rfl) ?_
          refine WL.y rfl (Y.move) ?_
          refine WL.off rfl ?_
          refine WL.off rfl ?_
          refine WL.off rfl ?_
          refine WL.off rfl ?_
          refine WL.off rfl ?_
          refine WL.off rfl ?_
          refine WL.off rfl ?_
          refine WL.y rfl (Y.pickT rfl) ?_
          refine WL.nil ?_
          refine WC.condT (rfl) ?_
          refine WC.seqR rfl ?_
          refine WL.y rfl (Y.assign) ?_
          refine WL.nil ?_
          refine WC.ret (thenQ.ret (endQ.one (.inr rfl) ?_))
          exact ⟨⟨false, rfl, ⟨fun e => Bool.noConfusion e, fun e => absurd e hne2⟩⟩, hb⟩
      · have hne2 : ¬ v = y := fun e => z1 (by subst e; rfl)
        refine WC.seqR rfl ?_
        refine WL.y rfl (Y.fieldAddr fi26f0 ti23 (by decide) rfl (rfl) _) ?_
        refine WL.y rfl (Y.load1 Tryd.underlying23 rfl rfl (hA.cell 0)) ?_
        refine WL.y rfl (Y.fieldAddr fi26f0 ti23 (by decide) rfl (rfl) _) ?_
        refine WL.y rfl (Y.load1 Tryd.underlying23 rfl rfl (hB.cell 0)) ?_
        refine WL.y rfl (Y.dF (Y.nei rfl rfl) (by omega)) ?_
        refine WL.y rfl (Y.move) ?_
        refine WL.y rfl (Y.fieldAddr fi26f1 ti4 (by decide) rfl (rfl) _) ?_
        refine WL.y rfl (Y.load1 Tryd.underlying4 rfl rfl (hA.cell 1)) ?_
        refine WL.y rfl (Y.fieldAddr fi26f1 ti4 (by decide) rfl (rfl) _) ?_
        refine WL.y rfl (Y.load1 Tryd.underlying4 rfl rfl (hB.cell 1)) ?_
        refine WL.y rfl (Y.bT (Y.neb Tryd.underlying4 rfl rfl) (by simpa using z1)) ?_
        refine WL.y rfl (Y.pickF rfl) ?_
        refine WL.y rfl (Y.move) ?_
        refine WL.off rfl ?_
        refine WL.off rfl ?_
        refine WL.off rfl ?_
        refine WL.off rfl ?_
        refine WL.off rfl ?_
        refine WL.y rfl (Y.pickT rfl) ?_
        refine WL.y rfl (Y.move) ?_
        refine WL.off rfl ?_
        refine WL.off rfl ?_
        refine WL.off rfl ?_
        refine WL.off rfl ?_
        refine WL.off rfl ?_
        refine WL.y rfl (Y.pickT rfl) ?_
        refine WL.y rfl (Y.move) ?_
        refine WL.off rfl ?_
        refine WL.off rfl ?_
        refine WL.off rfl ?_
        refine WL.off rfl ?_
        refine WL.off rfl ?_
        refine WL.off rfl ?_
        refine WL.off rfl ?_
        refine WL.y rfl (Y.pickT rfl) ?_
        refine WL.y rfl (Y.move) ?_
        refine WL.off rfl ?_
        refine WL.off rfl ?_
        refine WL.off rfl ?_
        refine WL.off rfl ?_
        refine WL.off rfl ?_
        refine WL.off rfl ?_
        refine WL.off rfl ?_
        refine WL.y rfl (Y.pickT rfl) ?_
        refine WL.nil ?_
        refine WC.condT (rfl) ?_
        refine WC.seqR rfl ?_
        refine WL.y rfl (Y.assign) ?_
        refine WL.nil ?_
        refine WC.ret (thenQ.ret (endQ.one (.inr rfl) ?_))
        exact ⟨⟨false, rfl, ⟨fun e => Bool.noConfusion e, fun e => absurd e hne2⟩⟩, hb⟩
    · have hne2 : ¬ v = y := fun e => z0 (by subst e; rfl)
      skip
      refine WC.seqR rfl ?_
      refine WL.y rfl (Y.fieldAddr fi26f0 ti23 (by decide) rfl (rfl) _) ?_
      refine WL.y rfl (Y.load1 Tryd.underlying23 rfl rfl (hA.cell 0)) ?_
      refine WL.y rfl (Y.fieldAddr fi26f0 ti23 (by decide) rfl (rfl) _) ?_
      refine WL.y rfl (Y.load1 Tryd.underlying23 rfl rfl (hB.cell 0)) ?_
      refine WL.y rfl (Y.dT (Y.nei rfl rfl) (by omega)) ?_
      refine WL.y rfl (Y.move) ?_
      refine WL.off rfl ?_
      refine WL.off rfl ?_
      refine WL.off rfl ?_
      refine WL.off rfl ?_
      refine WL.off rfl ?_
      refine WL.y rfl (Y.pickT rfl) ?_
      refine WL.y rfl (Y.move) ?_
      refine WL.off rfl ?_
      refine WL.off rfl ?_
      refine WL.off rfl ?_
      refine WL.off rfl ?_
      refine WL.off rfl ?_
      refine WL.y rfl (Y.pickT rfl) ?_
      refine WL.y rfl (Y.move) ?_
      refine WL.off rfl ?_
      refine WL.off rfl ?_
      refine WL.off rfl ?_
      refine WL.off rfl ?_
      refine WL.off rfl ?_
      refine WL.y rfl (Y.pickT rfl) ?_
      refine WL.y rfl (Y.move) ?_
      refine WL.off rfl ?_
      refine WL.off rfl ?_
      refine WL.off rfl ?_
      refine WL.off rfl ?_
      refine WL.off rfl ?_
      refine WL.off rfl ?_
      refine WL.off rfl ?_
      refine WL.y rfl (Y.pickT rfl) ?_
      refine WL.y rfl (Y.move) ?_
      refine WL.off rfl ?_
      refine WL.off rfl ?_
      refine WL.off rfl ?_
      refine WL.off rfl ?_
      refine WL.off rfl ?_
      refine WL.off rfl ?_
      refine WL.off rfl ?_
      refine WL.y rfl (Y.pickT rfl) ?_
      refine WL.nil ?_
      refine WC.condT (rfl) ?_
      refine WC.seqR rfl ?_
      refine WL.y rfl (Y.assign) ?_
      refine WL.nil ?_
      refine WC.ret (thenQ.ret (endQ.one (.inr rfl) ?_))
      exact ⟨⟨false, rfl, ⟨fun e => Bool.noConfusion e, fun e => absurd e hne2⟩⟩, hb⟩
end Go.Proofs.YthcppegkpkgnpaaDoor
