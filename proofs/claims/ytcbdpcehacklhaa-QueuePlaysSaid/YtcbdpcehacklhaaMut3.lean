/-
  ref11: Equal: walk.
-/
import Derived.Test.YtcbdpcehacklhaaMut2
namespace Go.Proofs.Ytcbdpcehacklhaa
open Go Go.RowKit Go.Cx
set_option linter.unusedVariables false
set_option maxHeartbeats 8000000
/-- equal to a value -/
theorem requalT_ret (v : V) (w : World) (c d : List Value) (hc : VAt w v c) (hd : VAt w v d) : Ret Try.prog 31 [.agg c.toArray, .agg d.toArray].toArray w fun r w' => r = .bool true ∧ Below w.heap.size w w' :=
  (requal_ret v v w c d hc hd).mono fun r w' ⟨⟨e, h1, h2⟩, h3⟩ => ⟨by rw [h1, h2.2 rfl], h3⟩
theorem requalF_ret {v y : V} (h : ¬ v = y) (w : World) (c d : List Value) (hc : VAt w v c) (hd : VAt w y d) : Ret Try.prog 31 [.agg c.toArray, .agg d.toArray].toArray w fun r w' => r = .bool false ∧ Below w.heap.size w w' :=
  (requal_ret v y w c d hc hd).mono fun r w' ⟨⟨e, h1, h2⟩, h3⟩ => ⟨by rw [h1]; cases e with | false => rfl | true => exact absurd (h2.1 rfl) h, h3⟩
def MEqOf (m : Mt) : Prop := ∀ (n : Mt) (w : World) (c d : List Value), MtAt w m c → MtAt w n d → Ret Try.prog 15 [.agg c.toArray, .agg d.toArray].toArray w fun r w' => (∃ e : Bool, r = .bool e ∧ (e = true ↔ m = n)) ∧ Below w.heap.size w w'
theorem not_eq_of {α : Type} (f : Mt → α) {m n : Mt} (h : ¬ f m = f n) : (false = true ↔ m = n) := ⟨fun e => Bool.noConfusion e, fun e => absurd (congrArg f e) h⟩
theorem rmequal_ret (m : Mt) : MEqOf m := by
  induction m using Mt.ind with
  | h m ih =>
    intro n w c d hc hd
    have hqq := hc.parts
    obtain ⟨w0, w1_, w2_, w3_, w4_, w5_, v0, v1_, v2_, v3_, v4_, v5_, lv, ca, ok1, hw, hv, a1, a2, a3, rfl⟩ := hqq
    have hqq := hd.parts
    obtain ⟨x0, x1_, x2_, x3_, x4_, x5_, y0, y1_, y2_, y3_, y4_, y5_, lv2, cb, ok2, xw, xv, b1, b2, b3, rfl⟩ := hqq
    clear hc hd
    have q1 := ok1.l
    have q2 := ok2.l
    refine Ret.of (n := 90) (rs := #[.tmp 4]) Try.func15 rfl rfl rfl (by simp) ?_
    refine WC.seqR rfl ?_
    refine WL.eex rfl (E.boxX) ?_
    rintro _ w2 ⟨rfl, hB2, hb2⟩
    refine WL.eex rfl (E.boxX) ?_
    rintro _ w3 ⟨rfl, hB3, hb3⟩
    refine WL.y rfl (Y.assign) ?_
    refine WL.nil ?_
    refine WC.seq ?_
    have hA : Blk w3 w.heap.size 30 (mtcell m [w0, w1_, w2_, w3_, w4_, w5_] [v0, v1_, v2_, v3_, v4_, v5_] lv) := (show Blk _ _ _ (mtcell m [w0, w1_, w2_, w3_, w4_, w5_] [v0, v1_, v2_, v3_, v4_, v5_] lv) from hB2).bel hb3
    have hB : Blk w3 w2.heap.size 30 (mtcell n [x0, x1_, x2_, x3_, x4_, x5_] [y0, y1_, y2_, y3_, y4_, y5_] lv2) := hB3
    have hb := Below.step hb2 hb3
    have p2 := (show Blk w2 _ _ _ from hB2).lt
    have p3 := hB.lt
    clear hB2 hB3
    by_cases z0 : m.k = n.k
    · skip
      by_cases z1 : m.key = n.key
      · skip
        by_cases z2 : m.to = n.to
        · skip
          by_cases z3 : m.i = n.i
          · skip
            by_cases z4 : m.had = n.had
            · skip
              by_cases z5 : m.has = n.has
              · skip
                by_cases z6 : m.l.length = n.l.length
                · skip
                  by_cases z7 : m.was = n.was
                  · skip
                    by_cases z8 : m.val = n.val
                    · skip
                      refine WC.seqR rfl ?_
                      refine WL.y rfl (Y.fieldAddr fi30f0 ti22 (by decide) rfl (rfl) _) ?_
                      refine WL.y rfl (Y.load1 Try.underlying22 rfl rfl (hA.cell 0)) ?_
                      refine WL.y rfl (Y.fieldAddr fi30f0 ti22 (by decide) rfl (rfl) _) ?_
                      refine WL.y rfl (Y.load1 Try.underlying22 rfl rfl (hB.cell 0)) ?_
                      refine WL.y rfl (Y.dF (Y.nei rfl rfl) (by omega)) ?_
                      refine WL.y rfl (Y.move) ?_
                      refine WL.y rfl (Y.fieldAddr fi30f1 ti9 (by decide) rfl (rfl) _) ?_
                      refine WL.y rfl (Y.load1 Try.underlying9 rfl rfl (hA.cell 1)) ?_
                      refine WL.y rfl (Y.fieldAddr fi30f1 ti9 (by decide) rfl (rfl) _) ?_
                      refine WL.y rfl (Y.load1 Try.underlying9 rfl rfl (hB.cell 1)) ?_
                      refine WL.y rfl (Y.bF (Y.neS rfl rfl) (by simpa using z1)) ?_
                      refine WL.y rfl (Y.pickF rfl) ?_
                      refine WL.y rfl (Y.move) ?_
                      refine WL.y rfl (Y.fieldAddr fi30f2 ti9 (by decide) rfl (rfl) _) ?_
                      refine WL.y rfl (Y.load1 Try.underlying9 rfl rfl (hA.cell 2)) ?_
                      refine WL.y rfl (Y.fieldAddr fi30f2 ti9 (by decide) rfl (rfl) _) ?_
                      refine WL.y rfl (Y.load1 Try.underlying9 rfl rfl (hB.cell 2)) ?_
                      refine WL.y rfl (Y.bF (Y.neS rfl rfl) (by simpa using z2)) ?_
                      refine WL.y rfl (Y.pickF rfl) ?_
                      refine WL.y rfl (Y.move) ?_
                      refine WL.y rfl (Y.fieldAddr fi30f3 ti2 (by decide) rfl (rfl) _) ?_
                      refine WL.y rfl (Y.load1 Try.underlying2 rfl rfl (hA.cell 3)) ?_
                      refine WL.y rfl (Y.fieldAddr fi30f3 ti2 (by decide) rfl (rfl) _) ?_
                      refine WL.y rfl (Y.load1 Try.underlying2 rfl rfl (hB.cell 3)) ?_
                      refine WL.y rfl (Y.dF (Y.nei rfl rfl) (by omega)) ?_
                      refine WL.y rfl (Y.pickF rfl) ?_
                      refine WL.y rfl (Y.move) ?_
                      refine WL.y rfl (Y.fieldAddr fi30f4 ti4 (by decide) rfl (rfl) _) ?_
                      refine WL.y rfl (Y.load1 Try.underlying4 rfl rfl (hA.cell 4)) ?_
                      refine WL.y rfl (Y.fieldAddr fi30f4 ti4 (by decide) rfl (rfl) _) ?_
                      refine WL.y rfl (Y.load1 Try.underlying4 rfl rfl (hB.cell 4)) ?_
                      refine WL.y rfl (Y.bF (Y.neb Try.underlying4 rfl rfl) (by simpa using z4)) ?_
                      refine WL.y rfl (Y.pickF rfl) ?_
                      refine WL.y rfl (Y.move) ?_
                      refine WL.y rfl (Y.fieldAddr fi30f6 ti4 (by decide) rfl (rfl) _) ?_
                      refine WL.y rfl (Y.load1 Try.underlying4 rfl rfl (hA.cell 11)) ?_
                      refine WL.y rfl (Y.fieldAddr fi30f6 ti4 (by decide) rfl (rfl) _) ?_
                      refine WL.y rfl (Y.load1 Try.underlying4 rfl rfl (hB.cell 11)) ?_
                      refine WL.y rfl (Y.bF (Y.neb Try.underlying4 rfl rfl) (by simpa using z5)) ?_
                      refine WL.y rfl (Y.pickF rfl) ?_
                      refine WL.y rfl (Y.move) ?_
                      refine WL.y rfl (Y.fieldAddr fi30f8 ti28 (by decide) rfl (rfl) _) ?_
                      refine WL.y rfl (Y.load1 Try.underlying28 rfl rfl (hA.cell 18)) ?_
                      refine WL.y rfl (Y.lenSl Try.underlying28 (a3.bel hb) _) ?_
                      refine WL.y rfl (Y.fieldAddr fi30f8 ti28 (by decide) rfl (rfl) _) ?_
                      refine WL.y rfl (Y.load1 Try.underlying28 rfl rfl (hB.cell 18)) ?_
                      refine WL.y rfl (Y.lenSl Try.underlying28 (b3.bel hb) _) ?_
                      refine WL.y rfl (Y.dF (Y.nei rfl rfl) (by omega)) ?_
                      refine WL.y rfl (Y.pickF rfl) ?_
                      refine WL.y rfl (Y.move) ?_
                      refine WL.y rfl (Y.fieldAddr fi30f5 ti27 (by decide) rfl (rfl) _) ?_
                      refine WL.y rfl (Y.loadK Try.underlying27 rfl ti27 ((show [w0, w1_, w2_, w3_, w4_, w5_].length = 6 from rfl)) rfl ((hA.cells).sub 5 6)) ?_
                      refine WL.y rfl (Y.fieldAddr fi30f5 ti27 (by decide) rfl (rfl) _) ?_
                      refine WL.y rfl (Y.loadK Try.underlying27 rfl ti27 ((show [x0, x1_, x2_, x3_, x4_, x5_].length = 6 from rfl)) rfl ((hB.cells).sub 5 6)) ?_
                      refine WL.call rfl (C.func go31) (requalT_ret m.was _ _ _ ((hw.bel hb)) (((z7 ▸ xw).bel hb))) ?_
                      rintro _ w60 ⟨rfl, hb60⟩
                      refine WL.y rfl (Y.bF (Y.not rfl) (rfl)) ?_
                      refine WL.y rfl (Y.pickF rfl) ?_
                      refine WL.y rfl (Y.move) ?_
                      refine WL.y rfl (Y.fieldAddr fi30f7 ti27 (by decide) rfl (rfl) _) ?_
                      refine WL.y rfl (Y.loadK Try.underlying27 rfl ti27 ((show [v0, v1_, v2_, v3_, v4_, v5_].length = 6 from rfl)) rfl ((hA.cells.bel hb60).sub 12 6)) ?_
                      refine WL.y rfl (Y.fieldAddr fi30f7 ti27 (by decide) rfl (rfl) _) ?_
                      refine WL.y rfl (Y.loadK Try.underlying27 rfl ti27 ((show [y0, y1_, y2_, y3_, y4_, y5_].length = 6 from rfl)) rfl ((hB.cells.bel hb60).sub 12 6)) ?_
                      refine WL.call rfl (C.func go31) (requalT_ret m.val _ _ _ ((hv.bel hb).bel hb60) (((z8 ▸ xv).bel hb).bel hb60)) ?_
                      rintro _ w68 ⟨rfl, hb68⟩
                      refine WL.y rfl (Y.bF (Y.not rfl) (rfl)) ?_
                      refine WL.y rfl (Y.pickF rfl) ?_
                      refine WL.nil ?_
                      refine WC.condF (rfl) ?_
                      refine WC.skip (thenQ.normal ?_)
                      refine WC.seq ?_
                      refine WC.seqR rfl ?_
                      refine WL.y rfl (Y.assign) ?_
                      refine WL.nil ?_
                      refine WC.block ?_
                      have hbb := Below.step (Below.step hb hb60) hb68
                      have hA' := (hA.bel hb60).bel hb68
                      have hB' := (hB.bel hb60).bel hb68
                      refine WC.loop (fun j => m.l.length - j) (fun j f ds w' => j ≤ m.l.length ∧ ds = [] ∧ Below w.heap.size w w' ∧ (Blk w' w.heap.size 30 (mtcell m [w0, w1_, w2_, w3_, w4_, w5_] [v0, v1_, v2_, v3_, v4_, v5_] lv) ∧ Blk w' w2.heap.size 30 (mtcell n [x0, x1_, x2_, x3_, x4_, x5_] [y0, y1_, y2_, y3_, y4_, y5_] lv2)) ∧ m.l.take j = n.l.take j ∧ ∃ J, f = Go.Cx.ov J [(2, .pointer (some ⟨w.heap.size, 0, none⟩)), (3, .pointer (some ⟨w2.heap.size, 0, none⟩)), (5, .int .i64 (j : Int))]) 0 ?_ ?_
                      · exact ⟨by omega, rfl, hbb, ⟨hA', hB'⟩, rfl, _, ov_mk ⟨rfl, rfl, rfl, trivial⟩⟩
                      · rintro j _ _ w4 ⟨hj, rfl, hb4, ⟨hA4, hB4⟩, ht, J, rfl⟩
                        refine WC.seq ?_
                        refine WC.seqR rfl ?_
                        refine WL.y rfl (Y.move) ?_
                        refine WL.y rfl (Y.fieldAddr fi30f8 ti28 (by decide) rfl (rfl) _) ?_
                        refine WL.y rfl (Y.load1 Try.underlying28 rfl rfl (hA4.cell 18)) ?_
                        refine WL.y rfl (Y.lenSl Try.underlying28 (a3.bel hb4) _) ?_
                        refine WL.y rfl (Y.lss rfl rfl) ?_
                        refine WL.nil ?_
                        refine WC.condD rfl (fun h0 => ?_) (fun h0 => ?_)
                        · have h1 : j < m.l.length := by omega
                          have h2 : j < n.l.length := by omega
                          have hja : j < ca.length := by omega
                          have hjb : j < cb.length := by omega
                          refine WC.skip (thenQ.normal ?_)
                          refine WC.seq ?_
                          refine WC.block ?_
                          refine WC.seq ?_
                          refine WC.regionB (fun i => Nat.beq i 10) [(0, .any), (1, .held), (2, .any), (3, .any), (4, .held), (5, .any), (6, .held), (7, .any), (8, .any), (9, .held), (10, .seq), (11, .any)] mixed (by kernel_rfl) (fun w6 hS6 hheap => ?_)
                          refine RL.any rfl rfl (fun _ => Y.fieldAddr fi30f8 ti28 (by decide) rfl (rfl) _) ?_
                          refine RL.held rfl rfl hS6 (fun _ hb9 => Y.load1 Try.underlying28 rfl rfl (cell_bel (hA4.cell 18) hb9)) ?_
                          refine RL.any rfl rfl (fun _ => Y.move) ?_
                          refine RL.yex rfl rfl (Y.idx Try.underlying28 ti30 (by decide) (a3.bel hb4) rfl (by omega) (by omega)) ?_
                          rintro _ ⟨b81, o81, rfl, hc81⟩
                          refine RL.held rfl rfl hS6 (fun _ hb9 => Y.loadK Try.underlying30 rfl ti30 (ca[j].h) rfl (Cells.bel (elem_mt hja hc81) hb9)) ?_
                          refine RL.any rfl rfl (fun _ => Y.fieldAddr fi30f8 ti28 (by decide) rfl (rfl) _) ?_
                          refine RL.held rfl rfl hS6 (fun _ hb9 => Y.load1 Try.underlying28 rfl rfl (cell_bel (hB4.cell 18) hb9)) ?_
                          refine RL.any rfl rfl (fun _ => Y.move) ?_
                          refine RL.yex rfl rfl (Y.idx Try.underlying28 ti30 (by decide) (b3.bel hb4) rfl (by omega) (by omega)) ?_
                          rintro _ ⟨b86, o86, rfl, hc86⟩
                          refine RL.held rfl rfl hS6 (fun _ hb9 => Y.loadK Try.underlying30 rfl ti30 (cb[j].h) rfl (Cells.bel (elem_mt hjb hc86) hb9)) ?_
                          refine RL.call rfl rfl (C.func go15) (ih _ (List.getElem_mem h1) _ _ _ _ (((a2 j h1 hja).bel hb4).bel hS6) (((b2 j h2 hjb).bel hb4).bel hS6)) ?_
                          rintro _ w88 ⟨⟨e88, rfl, he88⟩, hb88⟩
                          refine ⟨.inl rfl, ?_⟩
                          refine RL.any rfl rfl (fun _ => Y.not rfl) ?_
                          refine RL.nil (thenQ.normal ?_)
                          have hbd := Below.step (Below.step hb4 hS6) hb88
                          cases e88 with
                          | false =>
                            have hne : ¬ m.l[j] = n.l[j] := fun e => Bool.noConfusion (he88.2 e)
                            have hne2 : ¬ m = n := fun e => hne (by subst e; rfl)
                            refine WC.condT (rfl) ?_
                            refine WC.seqR rfl ?_
                            refine WL.y rfl (Y.assign) ?_
                            refine WL.nil ?_
                            refine WC.ret (inBlockQ.ret (thenQ.ret (thenQ.ret (inBlockQ.ret (thenQ.ret (endQ.one (.inr rfl) ?_))))))
                            exact ⟨⟨false, rfl, ⟨fun e => Bool.noConfusion e, fun e => absurd e hne2⟩⟩, hbd⟩
                          | true =>
                            have heq : m.l[j] = n.l[j] := he88.1 rfl
                            skip
                            refine WC.condF (rfl) ?_
                            refine WC.skip (inBlockQ.normal (thenQ.normal ?_))
                            refine WC.region rfl ?_
                            refine WL.y rfl (Y.move) ?_
                            refine WL.y rfl (Y.add64 rfl rfl (by omega)) ?_
                            refine WL.y rfl (Y.assign) ?_
                            refine WL.nil (thenQ.normal ?_)
                            exact ⟨j + 1, by omega, by omega, rfl, hbd, ⟨(hA4.bel hS6).bel hb88, (hB4.bel hS6).bel hb88⟩, take_step ht h1 h2 heq, _, ov_mk ⟨rfl, rfl, rfl, trivial⟩⟩
                        · have z9 : m.l = n.l := take_all ht (by omega) (by omega)
                          refine WC.exit (thenQ.exit (thenQ.exit (inBlockQ.hit (thenQ.normal ?_))))
                          refine WC.seqR rfl ?_
                          refine WL.y rfl (Y.assign) ?_
                          refine WL.nil ?_
                          refine WC.ret (endQ.one (.inr rfl) ?_)
                          exact ⟨⟨true, rfl, fun _ => Mt.ext z0 z1 z2 z3 z4 z7 z5 z8 z9, fun _ => rfl⟩, hb4⟩
                    · skip
                      refine WC.seqR rfl ?_
                      refine WL.y rfl (Y.fieldAddr fi30f0 ti22 (by decide) rfl (rfl) _) ?_
                      refine WL.y rfl (Y.load1 Try.underlying22 rfl rfl (hA.cell 0)) ?_
                      refine WL.y rfl (Y.fieldAddr fi30f0 ti22 (by decide) rfl (rfl) _) ?_
                      refine WL.y rfl (Y.load1 Try.underlying22 rfl rfl (hB.cell 0)) ?_
                      refine WL.y rfl (Y.dF (Y.nei rfl rfl) (by omega)) ?_
                      refine WL.y rfl (Y.move) ?_
                      refine WL.y rfl (Y.fieldAddr fi30f1 ti9 (by decide) rfl (rfl) _) ?_
                      refine WL.y rfl (Y.load1 Try.underlying9 rfl rfl (hA.cell 1)) ?_
                      refine WL.y rfl (Y.fieldAddr fi30f1 ti9 (by decide) rfl (rfl) _) ?_
                      refine WL.y rfl (Y.load1 Try.underlying9 rfl rfl (hB.cell 1)) ?_
                      refine WL.y rfl (Y.bF (Y.neS rfl rfl) (by simpa using z1)) ?_
                      refine WL.y rfl (Y.pickF rfl) ?_
                      refine WL.y rfl (Y.move) ?_
                      refine WL.y rfl (Y.fieldAddr fi30f2 ti9 (by decide) rfl (rfl) _) ?_
                      refine WL.y rfl (Y.load1 Try.underlying9 rfl rfl (hA.cell 2)) ?_
                      refine WL.y rfl (Y.fieldAddr fi30f2 ti9 (by decide) rfl (rfl) _) ?_
                      refine WL.y rfl (Y.load1 Try.underlying9 rfl rfl (hB.cell 2)) ?_
                      refine WL.y rfl (Y.bF (Y.neS rfl rfl) (by simpa using z2)) ?_
                      refine WL.y rfl (Y.pickF rfl) ?_
                      refine WL.y rfl (Y.move) ?_
                      refine WL.y rfl (Y.fieldAddr fi30f3 ti2 (by decide) rfl (rfl) _) ?_
                      refine WL.y rfl (Y.load1 Try.underlying2 rfl rfl (hA.cell 3)) ?_
                      refine WL.y rfl (Y.fieldAddr fi30f3 ti2 (by decide) rfl (rfl) _) ?_
                      refine WL.y rfl (Y.load1 Try.underlying2 rfl rfl (hB.cell 3)) ?_
                      refine WL.y rfl (Y.dF (Y.nei rfl rfl) (by omega)) ?_
                      refine WL.y rfl (Y.pickF rfl) ?_
                      refine WL.y rfl (Y.move) ?_
                      refine WL.y rfl (Y.fieldAddr fi30f4 ti4 (by decide) rfl (rfl) _) ?_
                      refine WL.y rfl (Y.load1 Try.underlying4 rfl rfl (hA.cell 4)) ?_
                      refine WL.y rfl (Y.fieldAddr fi30f4 ti4 (by decide) rfl (rfl) _) ?_
                      refine WL.y rfl (Y.load1 Try.underlying4 rfl rfl (hB.cell 4)) ?_
                      refine WL.y rfl (Y.bF (Y.neb Try.underlying4 rfl rfl) (by simpa using z4)) ?_
                      refine WL.y rfl (Y.pickF rfl) ?_
                      refine WL.y rfl (Y.move) ?_
                      refine WL.y rfl (Y.fieldAddr fi30f6 ti4 (by decide) rfl (rfl) _) ?_
                      refine WL.y rfl (Y.load1 Try.underlying4 rfl rfl (hA.cell 11)) ?_
                      refine WL.y rfl (Y.fieldAddr fi30f6 ti4 (by decide) rfl (rfl) _) ?_
                      refine WL.y rfl (Y.load1 Try.underlying4 rfl rfl (hB.cell 11)) ?_
                      refine WL.y rfl (Y.bF (Y.neb Try.underlying4 rfl rfl) (by simpa using z5)) ?_
                      refine WL.y rfl (Y.pickF rfl) ?_
                      refine WL.y rfl (Y.move) ?_
                      refine WL.y rfl (Y.fieldAddr fi30f8 ti28 (by decide) rfl (rfl) _) ?_
                      refine WL.y rfl (Y.load1 Try.underlying28 rfl rfl (hA.cell 18)) ?_
                      refine WL.y rfl (Y.lenSl Try.underlying28 (a3.bel hb) _) ?_
                      refine WL.y rfl (Y.fieldAddr fi30f8 ti28 (by decide) rfl (rfl) _) ?_
                      refine WL.y rfl (Y.load1 Try.underlying28 rfl rfl (hB.cell 18)) ?_
                      refine WL.y rfl (Y.lenSl Try.underlying28 (b3.bel hb) _) ?_
                      refine WL.y rfl (Y.dF (Y.nei rfl rfl) (by omega)) ?_
                      refine WL.y rfl (Y.pickF rfl) ?_
                      refine WL.y rfl (Y.move) ?_
                      refine WL.y rfl (Y.fieldAddr fi30f5 ti27 (by decide) rfl (rfl) _) ?_
                      refine WL.y rfl (Y.loadK Try.underlying27 rfl ti27 ((show [w0, w1_, w2_, w3_, w4_, w5_].length = 6 from rfl)) rfl ((hA.cells).sub 5 6)) ?_
                      refine WL.y rfl (Y.fieldAddr fi30f5 ti27 (by decide) rfl (rfl) _) ?_
                      refine WL.y rfl (Y.loadK Try.underlying27 rfl ti27 ((show [x0, x1_, x2_, x3_, x4_, x5_].length = 6 from rfl)) rfl ((hB.cells).sub 5 6)) ?_
                      refine WL.call rfl (C.func go31) (requalT_ret m.was _ _ _ ((hw.bel hb)) (((z7 ▸ xw).bel hb))) ?_
                      rintro _ w60 ⟨rfl, hb60⟩
                      refine WL.y rfl (Y.bF (Y.not rfl) (rfl)) ?_
                      refine WL.y rfl (Y.pickF rfl) ?_
                      refine WL.y rfl (Y.move) ?_
                      refine WL.y rfl (Y.fieldAddr fi30f7 ti27 (by decide) rfl (rfl) _) ?_
                      refine WL.y rfl (Y.loadK Try.underlying27 rfl ti27 ((show [v0, v1_, v2_, v3_, v4_, v5_].length = 6 from rfl)) rfl ((hA.cells.bel hb60).sub 12 6)) ?_
                      refine WL.y rfl (Y.fieldAddr fi30f7 ti27 (by decide) rfl (rfl) _) ?_
                      refine WL.y rfl (Y.loadK Try.underlying27 rfl ti27 ((show [y0, y1_, y2_, y3_, y4_, y5_].length = 6 from rfl)) rfl ((hB.cells.bel hb60).sub 12 6)) ?_
                      refine WL.call rfl (C.func go31) (requalF_ret z8 _ _ _ ((hv.bel hb).bel hb60) ((xv.bel hb).bel hb60)) ?_
                      rintro _ w68 ⟨rfl, hb68⟩
                      refine WL.y rfl (Y.bT (Y.not rfl) (rfl)) ?_
                      refine WL.y rfl (Y.pickF rfl) ?_
                      refine WL.nil ?_
                      refine WC.condT (rfl) ?_
                      refine WC.seqR rfl ?_
                      refine WL.y rfl (Y.assign) ?_
                      refine WL.nil ?_
                      refine WC.ret (thenQ.ret (endQ.one (.inr rfl) ?_))
                      exact ⟨⟨false, rfl, not_eq_of Mt.val z8⟩, Below.step (Below.step hb hb60) hb68⟩
                  · skip
                    refine WC.seqR rfl ?_
                    refine WL.y rfl (Y.fieldAddr fi30f0 ti22 (by decide) rfl (rfl) _) ?_
                    refine WL.y rfl (Y.load1 Try.underlying22 rfl rfl (hA.cell 0)) ?_
                    refine WL.y rfl (Y.fieldAddr fi30f0 ti22 (by decide) rfl (rfl) _) ?_
                    refine WL.y rfl (Y.load1 Try.underlying22 rfl rfl (hB.cell 0)) ?_
                    refine WL.y rfl (Y.dF (Y.nei rfl rfl) (by omega)) ?_
                    refine WL.y rfl (Y.move) ?_
                    refine WL.y rfl (Y.fieldAddr fi30f1 ti9 (by decide) rfl (rfl) _) ?_
                    refine WL.y rfl (Y.load1 Try.underlying9 rfl rfl (hA.cell 1)) ?_
                    refine WL.y rfl (Y.fieldAddr fi30f1 ti9 (by decide) rfl (rfl) _) ?_
                    refine WL.y rfl (Y.load1 Try.underlying9 rfl rfl (hB.cell 1)) ?_
                    refine WL.y rfl (Y.bF (Y.neS rfl rfl) (by simpa using z1)) ?_
                    refine WL.y rfl (Y.pickF rfl) ?_
                    refine WL.y rfl (Y.move) ?_
                    refine WL.y rfl (Y.fieldAddr fi30f2 ti9 (by decide) rfl (rfl) _) ?_
                    refine WL.y rfl (Y.load1 Try.underlying9 rfl rfl (hA.cell 2)) ?_
                    refine WL.y rfl (Y.fieldAddr fi30f2 ti9 (by decide) rfl (rfl) _) ?_
                    refine WL.y rfl (Y.load1 Try.underlying9 rfl rfl (hB.cell 2)) ?_
                    refine WL.y rfl (Y.bF (Y.neS rfl rfl) (by simpa using z2)) ?_
                    refine WL.y rfl (Y.pickF rfl) ?_
                    refine WL.y rfl (Y.move) ?_
                    refine WL.y rfl (Y.fieldAddr fi30f3 ti2 (by decide) rfl (rfl) _) ?_
                    refine WL.y rfl (Y.load1 Try.underlying2 rfl rfl (hA.cell 3)) ?_
                    refine WL.y rfl (Y.fieldAddr fi30f3 ti2 (by decide) rfl (rfl) _) ?_
                    refine WL.y rfl (Y.load1 Try.underlying2 rfl rfl (hB.cell 3)) ?_
                    refine WL.y rfl (Y.dF (Y.nei rfl rfl) (by omega)) ?_
                    refine WL.y rfl (Y.pickF rfl) ?_
                    refine WL.y rfl (Y.move) ?_
                    refine WL.y rfl (Y.fieldAddr fi30f4 ti4 (by decide) rfl (rfl) _) ?_
                    refine WL.y rfl (Y.load1 Try.underlying4 rfl rfl (hA.cell 4)) ?_
                    refine WL.y rfl (Y.fieldAddr fi30f4 ti4 (by decide) rfl (rfl) _) ?_
                    refine WL.y rfl (Y.load1 Try.underlying4 rfl rfl (hB.cell 4)) ?_
                    refine WL.y rfl (Y.bF (Y.neb Try.underlying4 rfl rfl) (by simpa using z4)) ?_
                    refine WL.y rfl (Y.pickF rfl) ?_
                    refine WL.y rfl (Y.move) ?_
                    refine WL.y rfl (Y.fieldAddr fi30f6 ti4 (by decide) rfl (rfl) _) ?_
                    refine WL.y rfl (Y.load1 Try.underlying4 rfl rfl (hA.cell 11)) ?_
                    refine WL.y rfl (Y.fieldAddr fi30f6 ti4 (by decide) rfl (rfl) _) ?_
                    refine WL.y rfl (Y.load1 Try.underlying4 rfl rfl (hB.cell 11)) ?_
                    refine WL.y rfl (Y.bF (Y.neb Try.underlying4 rfl rfl) (by simpa using z5)) ?_
                    refine WL.y rfl (Y.pickF rfl) ?_
                    refine WL.y rfl (Y.move) ?_
                    refine WL.y rfl (Y.fieldAddr fi30f8 ti28 (by decide) rfl (rfl) _) ?_
                    refine WL.y rfl (Y.load1 Try.underlying28 rfl rfl (hA.cell 18)) ?_
                    refine WL.y rfl (Y.lenSl Try.underlying28 (a3.bel hb) _) ?_
                    refine WL.y rfl (Y.fieldAddr fi30f8 ti28 (by decide) rfl (rfl) _) ?_
                    refine WL.y rfl (Y.load1 Try.underlying28 rfl rfl (hB.cell 18)) ?_
                    refine WL.y rfl (Y.lenSl Try.underlying28 (b3.bel hb) _) ?_
                    refine WL.y rfl (Y.dF (Y.nei rfl rfl) (by omega)) ?_
                    refine WL.y rfl (Y.pickF rfl) ?_
                    refine WL.y rfl (Y.move) ?_
                    refine WL.y rfl (Y.fieldAddr fi30f5 ti27 (by decide) rfl (rfl) _) ?_
                    refine WL.y rfl (Y.loadK Try.underlying27 rfl ti27 ((show [w0, w1_, w2_, w3_, w4_, w5_].length = 6 from rfl)) rfl ((hA.cells).sub 5 6)) ?_
                    refine WL.y rfl (Y.fieldAddr fi30f5 ti27 (by decide) rfl (rfl) _) ?_
                    refine WL.y rfl (Y.loadK Try.underlying27 rfl ti27 ((show [x0, x1_, x2_, x3_, x4_, x5_].length = 6 from rfl)) rfl ((hB.cells).sub 5 6)) ?_
                    refine WL.call rfl (C.func go31) (requalF_ret z7 _ _ _ ((hw.bel hb)) ((xw.bel hb))) ?_
                    rintro _ w60 ⟨rfl, hb60⟩
                    refine WL.y rfl (Y.bT (Y.not rfl) (rfl)) ?_
                    refine WL.y rfl (Y.pickF rfl) ?_
                    refine WL.y rfl (Y.move) ?_
                    refine WL.off rfl ?_
                    refine WL.off rfl ?_
                    refine WL.off rfl ?_
                    refine WL.off rfl ?_
                    refine WL.off rfl ?_
                    refine WL.off rfl ?_
                    refine WL.y rfl (Y.pickT rfl) ?_
                    refine WL.nil ?_
                    refine WC.condT (rfl) ?_
                    refine WC.seqR rfl ?_
                    refine WL.y rfl (Y.assign) ?_
                    refine WL.nil ?_
                    refine WC.ret (thenQ.ret (endQ.one (.inr rfl) ?_))
                    exact ⟨⟨false, rfl, not_eq_of Mt.was z7⟩, Below.step hb hb60⟩
                · skip
                  refine WC.seqR rfl ?_
                  refine WL.y rfl (Y.fieldAddr fi30f0 ti22 (by decide) rfl (rfl) _) ?_
                  refine WL.y rfl (Y.load1 Try.underlying22 rfl rfl (hA.cell 0)) ?_
                  refine WL.y rfl (Y.fieldAddr fi30f0 ti22 (by decide) rfl (rfl) _) ?_
                  refine WL.y rfl (Y.load1 Try.underlying22 rfl rfl (hB.cell 0)) ?_
                  refine WL.y rfl (Y.dF (Y.nei rfl rfl) (by omega)) ?_
                  refine WL.y rfl (Y.move) ?_
                  refine WL.y rfl (Y.fieldAddr fi30f1 ti9 (by decide) rfl (rfl) _) ?_
                  refine WL.y rfl (Y.load1 Try.underlying9 rfl rfl (hA.cell 1)) ?_
                  refine WL.y rfl (Y.fieldAddr fi30f1 ti9 (by decide) rfl (rfl) _) ?_
                  refine WL.y rfl (Y.load1 Try.underlying9 rfl rfl (hB.cell 1)) ?_
                  refine WL.y rfl (Y.bF (Y.neS rfl rfl) (by simpa using z1)) ?_
                  refine WL.y rfl (Y.pickF rfl) ?_
                  refine WL.y rfl (Y.move) ?_
                  refine WL.y rfl (Y.fieldAddr fi30f2 ti9 (by decide) rfl (rfl) _) ?_
                  refine WL.y rfl (Y.load1 Try.underlying9 rfl rfl (hA.cell 2)) ?_
                  refine WL.y rfl (Y.fieldAddr fi30f2 ti9 (by decide) rfl (rfl) _) ?_
                  refine WL.y rfl (Y.load1 Try.underlying9 rfl rfl (hB.cell 2)) ?_
                  refine WL.y rfl (Y.bF (Y.neS rfl rfl) (by simpa using z2)) ?_
                  refine WL.y rfl (Y.pickF rfl) ?_
                  refine WL.y rfl (Y.move) ?_
                  refine WL.y rfl (Y.fieldAddr fi30f3 ti2 (by decide) rfl (rfl) _) ?_
                  refine WL.y rfl (Y.load1 Try.underlying2 rfl rfl (hA.cell 3)) ?_
                  refine WL.y rfl (Y.fieldAddr fi30f3 ti2 (by decide) rfl (rfl) _) ?_
                  refine WL.y rfl (Y.load1 Try.underlying2 rfl rfl (hB.cell 3)) ?_
                  refine WL.y rfl (Y.dF (Y.nei rfl rfl) (by omega)) ?_
                  refine WL.y rfl (Y.pickF rfl) ?_
                  refine WL.y rfl (Y.move) ?_
                  refine WL.y rfl (Y.fieldAddr fi30f4 ti4 (by decide) rfl (rfl) _) ?_
                  refine WL.y rfl (Y.load1 Try.underlying4 rfl rfl (hA.cell 4)) ?_
                  refine WL.y rfl (Y.fieldAddr fi30f4 ti4 (by decide) rfl (rfl) _) ?_
                  refine WL.y rfl (Y.load1 Try.underlying4 rfl rfl (hB.cell 4)) ?_
                  refine WL.y rfl (Y.bF (Y.neb Try.underlying4 rfl rfl) (by simpa using z4)) ?_
                  refine WL.y rfl (Y.pickF rfl) ?_
                  refine WL.y rfl (Y.move) ?_
                  refine WL.y rfl (Y.fieldAddr fi30f6 ti4 (by decide) rfl (rfl) _) ?_
                  refine WL.y rfl (Y.load1 Try.underlying4 rfl rfl (hA.cell 11)) ?_
                  refine WL.y rfl (Y.fieldAddr fi30f6 ti4 (by decide) rfl (rfl) _) ?_
                  refine WL.y rfl (Y.load1 Try.underlying4 rfl rfl (hB.cell 11)) ?_
                  refine WL.y rfl (Y.bF (Y.neb Try.underlying4 rfl rfl) (by simpa using z5)) ?_
                  refine WL.y rfl (Y.pickF rfl) ?_
                  refine WL.y rfl (Y.move) ?_
                  refine WL.y rfl (Y.fieldAddr fi30f8 ti28 (by decide) rfl (rfl) _) ?_
                  refine WL.y rfl (Y.load1 Try.underlying28 rfl rfl (hA.cell 18)) ?_
                  refine WL.y rfl (Y.lenSl Try.underlying28 (a3.bel hb) _) ?_
                  refine WL.y rfl (Y.fieldAddr fi30f8 ti28 (by decide) rfl (rfl) _) ?_
                  refine WL.y rfl (Y.load1 Try.underlying28 rfl rfl (hB.cell 18)) ?_
                  refine WL.y rfl (Y.lenSl Try.underlying28 (b3.bel hb) _) ?_
                  refine WL.y rfl (Y.dT (Y.nei rfl rfl) (by omega)) ?_
                  refine WL.y rfl (Y.pickF rfl) ?_
                  refine WL.y rfl (Y.move) ?_
                  refine WL.off rfl ?_
                  refine WL.off rfl ?_
                  refine WL.off rfl ?_
                  refine WL.off rfl ?_
                  refine WL.off rfl ?_
                  refine WL.off rfl ?_
                  refine WL.y rfl (Y.pickT rfl) ?_
                  refine WL.y rfl (Y.move) ?_
                  refine WL.off rfl ?_
                  refine WL.off rfl ?_
                  refine WL.off rfl ?_
                  refine WL.off rfl ?_
                  refine WL.off rfl ?_
                  refine WL.off rfl ?_
                  refine WL.y rfl (Y.pickT rfl) ?_
                  refine WL.nil ?_
                  refine WC.condT (rfl) ?_
                  refine WC.seqR rfl ?_
                  refine WL.y rfl (Y.assign) ?_
                  refine WL.nil ?_
                  refine WC.ret (thenQ.ret (endQ.one (.inr rfl) ?_))
                  exact ⟨⟨false, rfl, not_eq_of (fun x => x.l.length) z6⟩, hb⟩
              · skip
                refine WC.seqR rfl ?_
                refine WL.y rfl (Y.fieldAddr fi30f0 ti22 (by decide) rfl (rfl) _) ?_
                refine WL.y rfl (Y.load1 Try.underlying22 rfl rfl (hA.cell 0)) ?_
                refine WL.y rfl (Y.fieldAddr fi30f0 ti22 (by decide) rfl (rfl) _) ?_
                refine WL.y rfl (Y.load1 Try.underlying22 rfl rfl (hB.cell 0)) ?_
                refine WL.y rfl (Y.dF (Y.nei rfl rfl) (by omega)) ?_
                refine WL.y rfl (Y.move) ?_
                refine WL.y rfl (Y.fieldAddr fi30f1 ti9 (by decide) rfl (rfl) _) ?_
                refine WL.y rfl (Y.load1 Try.underlying9 rfl rfl (hA.cell 1)) ?_
                refine WL.y rfl (Y.fieldAddr fi30f1 ti9 (by decide) rfl (rfl) _) ?_
                refine WL.y rfl (Y.load1 Try.underlying9 rfl rfl (hB.cell 1)) ?_
                refine WL.y rfl (Y.bF (Y.neS rfl rfl) (by simpa using z1)) ?_
                refine WL.y rfl (Y.pickF rfl) ?_
                refine WL.y rfl (Y.move) ?_
                refine WL.y rfl (Y.fieldAddr fi30f2 ti9 (by decide) rfl (rfl) _) ?_
                refine WL.y rfl (Y.load1 Try.underlying9 rfl rfl (hA.cell 2)) ?_
                refine WL.y rfl (Y.fieldAddr fi30f2 ti9 (by decide) rfl (rfl) _) ?_
                refine WL.y rfl (Y.load1 Try.underlying9 rfl rfl (hB.cell 2)) ?_
                refine WL.y rfl (Y.bF (Y.neS rfl rfl) (by simpa using z2)) ?_
                refine WL.y rfl (Y.pickF rfl) ?_
                refine WL.y rfl (Y.move) ?_
                refine WL.y rfl (Y.fieldAddr fi30f3 ti2 (by decide) rfl (rfl) _) ?_
                refine WL.y rfl (Y.load1 Try.underlying2 rfl rfl (hA.cell 3)) ?_
                refine WL.y rfl (Y.fieldAddr fi30f3 ti2 (by decide) rfl (rfl) _) ?_
                refine WL.y rfl (Y.load1 Try.underlying2 rfl rfl (hB.cell 3)) ?_
                refine WL.y rfl (Y.dF (Y.nei rfl rfl) (by omega)) ?_
                refine WL.y rfl (Y.pickF rfl) ?_
                refine WL.y rfl (Y.move) ?_
                refine WL.y rfl (Y.fieldAddr fi30f4 ti4 (by decide) rfl (rfl) _) ?_
                refine WL.y rfl (Y.load1 Try.underlying4 rfl rfl (hA.cell 4)) ?_
                refine WL.y rfl (Y.fieldAddr fi30f4 ti4 (by decide) rfl (rfl) _) ?_
                refine WL.y rfl (Y.load1 Try.underlying4 rfl rfl (hB.cell 4)) ?_
                refine WL.y rfl (Y.bF (Y.neb Try.underlying4 rfl rfl) (by simpa using z4)) ?_
                refine WL.y rfl (Y.pickF rfl) ?_
                refine WL.y rfl (Y.move) ?_
                refine WL.y rfl (Y.fieldAddr fi30f6 ti4 (by decide) rfl (rfl) _) ?_
                refine WL.y rfl (Y.load1 Try.underlying4 rfl rfl (hA.cell 11)) ?_
                refine WL.y rfl (Y.fieldAddr fi30f6 ti4 (by decide) rfl (rfl) _) ?_
                refine WL.y rfl (Y.load1 Try.underlying4 rfl rfl (hB.cell 11)) ?_
                refine WL.y rfl (Y.bT (Y.neb Try.underlying4 rfl rfl) (by simpa using z5)) ?_
                refine WL.y rfl (Y.pickF rfl) ?_
                refine WL.y rfl (Y.move) ?_
                refine WL.off rfl ?_
                refine WL.off rfl ?_
                refine WL.off rfl ?_
                refine WL.off rfl ?_
                refine WL.off rfl ?_
                refine WL.off rfl ?_
                refine WL.off rfl ?_
                refine WL.y rfl (Y.pickT rfl) ?_
                refine WL.y rfl (Y.move) ?_
                refine WL.off rfl ?_
                refine WL.off rfl ?_
                refine WL.off rfl ?_
                refine WL.off rfl ?_
                refine WL.off rfl ?_
                refine WL.off rfl ?_
                refine WL.y rfl (Y.pickT rfl) ?_
                refine WL.y rfl (Y.move) ?_
                refine WL.off rfl ?_
                refine WL.off rfl ?_
                refine WL.off rfl ?_
                refine WL.off rfl ?_
                refine WL.off rfl ?_
                refine WL.off rfl ?_
                refine WL.y rfl (Y.pickT rfl) ?_
                refine WL.nil ?_
                refine WC.condT (rfl) ?_
                refine WC.seqR rfl ?_
                refine WL.y rfl (Y.assign) ?_
                refine WL.nil ?_
                refine WC.ret (thenQ.ret (endQ.one (.inr rfl) ?_))
                exact ⟨⟨false, rfl, not_eq_of Mt.has z5⟩, hb⟩
            · skip
              refine WC.seqR rfl ?_
              refine WL.y rfl (Y.fieldAddr fi30f0 ti22 (by decide) rfl (rfl) _) ?_
              refine WL.y rfl (Y.load1 Try.underlying22 rfl rfl (hA.cell 0)) ?_
              refine WL.y rfl (Y.fieldAddr fi30f0 ti22 (by decide) rfl (rfl) _) ?_
              refine WL.y rfl (Y.load1 Try.underlying22 rfl rfl (hB.cell 0)) ?_
              refine WL.y rfl (Y.dF (Y.nei rfl rfl) (by omega)) ?_
              refine WL.y rfl (Y.move) ?_
              refine WL.y rfl (Y.fieldAddr fi30f1 ti9 (by decide) rfl (rfl) _) ?_
              refine WL.y rfl (Y.load1 Try.underlying9 rfl rfl (hA.cell 1)) ?_
              refine WL.y rfl (Y.fieldAddr fi30f1 ti9 (by decide) rfl (rfl) _) ?_
              refine WL.y rfl (Y.load1 Try.underlying9 rfl rfl (hB.cell 1)) ?_
              refine WL.y rfl (Y.bF (Y.neS rfl rfl) (by simpa using z1)) ?_
              refine WL.y rfl (Y.pickF rfl) ?_
              refine WL.y rfl (Y.move) ?_
              refine WL.y rfl (Y.fieldAddr fi30f2 ti9 (by decide) rfl (rfl) _) ?_
              refine WL.y rfl (Y.load1 Try.underlying9 rfl rfl (hA.cell 2)) ?_
              refine WL.y rfl (Y.fieldAddr fi30f2 ti9 (by decide) rfl (rfl) _) ?_
              refine WL.y rfl (Y.load1 Try.underlying9 rfl rfl (hB.cell 2)) ?_
              refine WL.y rfl (Y.bF (Y.neS rfl rfl) (by simpa using z2)) ?_
              refine WL.y rfl (Y.pickF rfl) ?_
              refine WL.y rfl (Y.move) ?_
              refine WL.y rfl (Y.fieldAddr fi30f3 ti2 (by decide) rfl (rfl) _) ?_
              refine WL.y rfl (Y.load1 Try.underlying2 rfl rfl (hA.cell 3)) ?_
              refine WL.y rfl (Y.fieldAddr fi30f3 ti2 (by decide) rfl (rfl) _) ?_
              refine WL.y rfl (Y.load1 Try.underlying2 rfl rfl (hB.cell 3)) ?_
              refine WL.y rfl (Y.dF (Y.nei rfl rfl) (by omega)) ?_
              refine WL.y rfl (Y.pickF rfl) ?_
              refine WL.y rfl (Y.move) ?_
              refine WL.y rfl (Y.fieldAddr fi30f4 ti4 (by decide) rfl (rfl) _) ?_
              refine WL.y rfl (Y.load1 Try.underlying4 rfl rfl (hA.cell 4)) ?_
              refine WL.y rfl (Y.fieldAddr fi30f4 ti4 (by decide) rfl (rfl) _) ?_
              refine WL.y rfl (Y.load1 Try.underlying4 rfl rfl (hB.cell 4)) ?_
              refine WL.y rfl (Y.bT (Y.neb Try.underlying4 rfl rfl) (by simpa using z4)) ?_
              refine WL.y rfl (Y.pickF rfl) ?_
              refine WL.y rfl (Y.move) ?_
              refine WL.off rfl ?_
              refine WL.off rfl ?_
              refine WL.off rfl ?_
              refine WL.off rfl ?_
              refine WL.off rfl ?_
              refine WL.y rfl (Y.pickT rfl) ?_
              refine WL.y rfl (Y.move) ?_
              refine WL.off rfl ?_
              refine WL.off rfl ?_
              refine WL.off rfl ?_
              refine WL.off rfl ?_
              refine WL.off rfl ?_
              refine WL.off rfl ?_
              refine WL.off rfl ?_
              refine WL.y rfl (Y.pickT rfl) ?_
              refine WL.y rfl (Y.move) ?_
              refine WL.off rfl ?_
              refine WL.off rfl ?_
              refine WL.off rfl ?_
              refine WL.off rfl ?_
              refine WL.off rfl ?_
              refine WL.off rfl ?_
              refine WL.y rfl (Y.pickT rfl) ?_
              refine WL.y rfl (Y.move) ?_
              refine WL.off rfl ?_
              refine WL.off rfl ?_
              refine WL.off rfl ?_
              refine WL.off rfl ?_
              refine WL.off rfl ?_
              refine WL.off rfl ?_
              refine WL.y rfl (Y.pickT rfl) ?_
              refine WL.nil ?_
              refine WC.condT (rfl) ?_
              refine WC.seqR rfl ?_
              refine WL.y rfl (Y.assign) ?_
              refine WL.nil ?_
              refine WC.ret (thenQ.ret (endQ.one (.inr rfl) ?_))
              exact ⟨⟨false, rfl, not_eq_of Mt.had z4⟩, hb⟩
          · skip
            refine WC.seqR rfl ?_
            refine WL.y rfl (Y.fieldAddr fi30f0 ti22 (by decide) rfl (rfl) _) ?_
            refine WL.y rfl (Y.load1 Try.underlying22 rfl rfl (hA.cell 0)) ?_
            refine WL.y rfl (Y.fieldAddr fi30f0 ti22 (by decide) rfl (rfl) _) ?_
            refine WL.y rfl (Y.load1 Try.underlying22 rfl rfl (hB.cell 0)) ?_
            refine WL.y rfl (Y.dF (Y.nei rfl rfl) (by omega)) ?_
            refine WL.y rfl (Y.move) ?_
            refine WL.y rfl (Y.fieldAddr fi30f1 ti9 (by decide) rfl (rfl) _) ?_
            refine WL.y rfl (Y.load1 Try.underlying9 rfl rfl (hA.cell 1)) ?_
            refine WL.y rfl (Y.fieldAddr fi30f1 ti9 (by decide) rfl (rfl) _) ?_
            refine WL.y rfl (Y.load1 Try.underlying9 rfl rfl (hB.cell 1)) ?_
            refine WL.y rfl (Y.bF (Y.neS rfl rfl) (by simpa using z1)) ?_
            refine WL.y rfl (Y.pickF rfl) ?_
            refine WL.y rfl (Y.move) ?_
            refine WL.y rfl (Y.fieldAddr fi30f2 ti9 (by decide) rfl (rfl) _) ?_
            refine WL.y rfl (Y.load1 Try.underlying9 rfl rfl (hA.cell 2)) ?_
            refine WL.y rfl (Y.fieldAddr fi30f2 ti9 (by decide) rfl (rfl) _) ?_
            refine WL.y rfl (Y.load1 Try.underlying9 rfl rfl (hB.cell 2)) ?_
            refine WL.y rfl (Y.bF (Y.neS rfl rfl) (by simpa using z2)) ?_
            refine WL.y rfl (Y.pickF rfl) ?_
            refine WL.y rfl (Y.move) ?_
            refine WL.y rfl (Y.fieldAddr fi30f3 ti2 (by decide) rfl (rfl) _) ?_
            refine WL.y rfl (Y.load1 Try.underlying2 rfl rfl (hA.cell 3)) ?_
            refine WL.y rfl (Y.fieldAddr fi30f3 ti2 (by decide) rfl (rfl) _) ?_
            refine WL.y rfl (Y.load1 Try.underlying2 rfl rfl (hB.cell 3)) ?_
            refine WL.y rfl (Y.dT (Y.nei rfl rfl) (by omega)) ?_
            refine WL.y rfl (Y.pickF rfl) ?_
            refine WL.y rfl (Y.move) ?_
            refine WL.off rfl ?_
            refine WL.off rfl ?_
            refine WL.off rfl ?_
            refine WL.off rfl ?_
            refine WL.off rfl ?_
            refine WL.y rfl (Y.pickT rfl) ?_
            refine WL.y rfl (Y.move) ?_
            refine WL.off rfl ?_
            refine WL.off rfl ?_
            refine WL.off rfl ?_
            refine WL.off rfl ?_
            refine WL.off rfl ?_
            refine WL.y rfl (Y.pickT rfl) ?_
            refine WL.y rfl (Y.move) ?_
            refine WL.off rfl ?_
            refine WL.off rfl ?_
            refine WL.off rfl ?_
            refine WL.off rfl ?_
            refine WL.off rfl ?_
            refine WL.off rfl ?_
            refine WL.off rfl ?_
            refine WL.y rfl (Y.pickT rfl) ?_
            refine WL.y rfl (Y.move) ?_
            refine WL.off rfl ?_
            refine WL.off rfl ?_
            refine WL.off rfl ?_
            refine WL.off rfl ?_
            refine WL.off rfl ?_
            refine WL.off rfl ?_
            refine WL.y rfl (Y.pickT rfl) ?_
            refine WL.y rfl (Y.move) ?_
            refine WL.off rfl ?_
            refine WL.off rfl ?_
            refine WL.off rfl ?_
            refine WL.off rfl ?_
            refine WL.off rfl ?_
            refine WL.off rfl ?_
            refine WL.y rfl (Y.pickT rfl) ?_
            refine WL.nil ?_
            refine WC.condT (rfl) ?_
            refine WC.seqR rfl ?_
            refine WL.y rfl (Y.assign) ?_
            refine WL.nil ?_
            refine WC.ret (thenQ.ret (endQ.one (.inr rfl) ?_))
            exact ⟨⟨false, rfl, not_eq_of Mt.i z3⟩, hb⟩
        · skip
          refine WC.seqR rfl ?_
          refine WL.y rfl (Y.fieldAddr fi30f0 ti22 (by decide) rfl (rfl) _) ?_
          refine WL.y rfl (Y.load1 Try.underlying22 rfl rfl (hA.cell 0)) ?_
          refine WL.y rfl (Y.fieldAddr fi30f0 ti22 (by decide) rfl (rfl) _) ?_
          refine WL.y rfl (Y.load1 Try.underlying22 rfl rfl (hB.cell 0)) ?_
          refine WL.y rfl (Y.dF (Y.nei rfl rfl) (by omega)) ?_
          refine WL.y rfl (Y.move) ?_
          refine WL.y rfl (Y.fieldAddr fi30f1 ti9 (by decide) rfl (rfl) _) ?_
          refine WL.y rfl (Y.load1 Try.underlying9 rfl rfl (hA.cell 1)) ?_
          refine WL.y rfl (Y.fieldAddr fi30f1 ti9 (by decide) rfl (rfl) _) ?_
          refine WL.y rfl (Y.load1 Try.underlying9 rfl rfl (hB.cell 1)) ?_
          refine WL.y rfl (Y.bF (Y.neS rfl rfl) (by simpa using z1)) ?_
          refine WL.y rfl (Y.pickF rfl) ?_
          refine WL.y rfl (Y.move) ?_
          refine WL.y rfl (Y.fieldAddr fi30f2 ti9 (by decide) rfl (rfl) _) ?_
          refine WL.y rfl (Y.load1 Try.underlying9 rfl rfl (hA.cell 2)) ?_
          refine WL.y rfl (Y.fieldAddr fi30f2 ti9 (by decide) rfl (rfl) _) ?_
          refine WL.y rfl (Y.load1 Try.underlying9 rfl rfl (hB.cell 2)) ?_
          refine WL.y rfl (Y.bT (Y.neS rfl rfl) (by simpa using z2)) ?_
          refine WL.y rfl (Y.pickF rfl) ?_
          refine WL.y rfl (Y.move) ?_
          refine WL.off rfl ?_
          refine WL.off rfl ?_
          refine WL.off rfl ?_
          refine WL.off rfl ?_
          refine WL.off rfl ?_
          refine WL.y rfl (Y.pickT rfl) ?_
          refine WL.y rfl (Y.move) ?_
          refine WL.off rfl ?_
          refine WL.off rfl ?_
          refine WL.off rfl ?_
          refine WL.off rfl ?_
          refine WL.off rfl ?_
          refine WL.y rfl (Y.pickT rfl) ?_
          refine WL.y rfl (Y.move) ?_
          refine WL.off rfl ?_
          refine WL.off rfl ?_
          refine WL.off rfl ?_
          refine WL.off rfl ?_
          refine WL.off rfl ?_
          refine WL.y rfl (Y.pickT rfl) ?_
          refine WL.y rfl (Y.move) ?_
          refine WL.off rfl ?_
          refine WL.off rfl ?_
          refine WL.off rfl ?_
          refine WL.off rfl ?_
          refine WL.off rfl ?_
          refine WL.off rfl ?_
          refine WL.off rfl ?_
          refine WL.y rfl (Y.pickT rfl) ?_
          refine WL.y rfl (Y.move) ?_
          refine WL.off rfl ?_
          refine WL.off rfl ?_
          refine WL.off rfl ?_
          refine WL.off rfl ?_
          refine WL.off rfl ?_
          refine WL.off rfl ?_
          refine WL.y rfl (Y.pickT rfl) ?_
          refine WL.y rfl (Y.move) ?_
          refine WL.off rfl ?_
          refine WL.off rfl ?_
          refine WL.off rfl ?_
          refine WL.off rfl ?_
          refine WL.off rfl ?_
          refine WL.off rfl ?_
          refine WL.y rfl (Y.pickT rfl) ?_
          refine WL.nil ?_
          refine WC.condT (rfl) ?_
          refine WC.seqR rfl ?_
          refine WL.y rfl (Y.assign) ?_
          refine WL.nil ?_
          refine WC.ret (thenQ.ret (endQ.one (.inr rfl) ?_))
          exact ⟨⟨false, rfl, not_eq_of Mt.to z2⟩, hb⟩
      · skip
        refine WC.seqR rfl ?_
        refine WL.y rfl (Y.fieldAddr fi30f0 ti22 (by decide) rfl (rfl) _) ?_
        refine WL.y rfl (Y.load1 Try.underlying22 rfl rfl (hA.cell 0)) ?_
        refine WL.y rfl (Y.fieldAddr fi30f0 ti22 (by decide) rfl (rfl) _) ?_
        refine WL.y rfl (Y.load1 Try.underlying22 rfl rfl (hB.cell 0)) ?_
        refine WL.y rfl (Y.dF (Y.nei rfl rfl) (by omega)) ?_
        refine WL.y rfl (Y.move) ?_
        refine WL.y rfl (Y.fieldAddr fi30f1 ti9 (by decide) rfl (rfl) _) ?_
        refine WL.y rfl (Y.load1 Try.underlying9 rfl rfl (hA.cell 1)) ?_
        refine WL.y rfl (Y.fieldAddr fi30f1 ti9 (by decide) rfl (rfl) _) ?_
        refine WL.y rfl (Y.load1 Try.underlying9 rfl rfl (hB.cell 1)) ?_
        refine WL.y rfl (Y.bT (Y.neS rfl rfl) (by simpa using z1)) ?_
        refine WL.y rfl (Y.pickF rfl) ?_
        refine WL.y rfl (Y.move) ?_
        refine WL.off rfl ?_
        refine WL.off rfl ?_
        refine WL.off rfl ?_
        refine WL.off rfl ?_
        refine WL.off rfl ?_
        refine WL.y rfl (Y.pickT rfl) ?_
        refine WL.y rfl (Y.move) ?_
        refine WL.off rfl ?_
        refine WL.off rfl ?_
        refine WL.off rfl ?_
        refine WL.off rfl ?_
        refine WL.off rfl ?_
        refine WL.y rfl (Y.pickT rfl) ?_
        refine WL.y rfl (Y.move) ?_
        refine WL.off rfl ?_
        refine WL.off rfl ?_
        refine WL.off rfl ?_
        refine WL.off rfl ?_
        refine WL.off rfl ?_
        refine WL.y rfl (Y.pickT rfl) ?_
        refine WL.y rfl (Y.move) ?_
        refine WL.off rfl ?_
        refine WL.off rfl ?_
        refine WL.off rfl ?_
        refine WL.off rfl ?_
        refine WL.off rfl ?_
        refine WL.y rfl (Y.pickT rfl) ?_
        refine WL.y rfl (Y.move) ?_
        refine WL.off rfl ?_
        refine WL.off rfl ?_
        refine WL.off rfl ?_
        refine WL.off rfl ?_
        refine WL.off rfl ?_
        refine WL.off rfl ?_
        refine WL.off rfl ?_
        refine WL.y rfl (Y.pickT rfl) ?_
        refine WL.y rfl (Y.move) ?_
        refine WL.off rfl ?_
        refine WL.off rfl ?_
        refine WL.off rfl ?_
        refine WL.off rfl ?_
        refine WL.off rfl ?_
        refine WL.off rfl ?_
        refine WL.y rfl (Y.pickT rfl) ?_
        refine WL.y rfl (Y.move) ?_
        refine WL.off rfl ?_
        refine WL.off rfl ?_
        refine WL.off rfl ?_
        refine WL.off rfl ?_
        refine WL.off rfl ?_
        refine WL.off rfl ?_
        refine WL.y rfl (Y.pickT rfl) ?_
        refine WL.nil ?_
        refine WC.condT (rfl) ?_
        refine WC.seqR rfl ?_
        refine WL.y rfl (Y.assign) ?_
        refine WL.nil ?_
        refine WC.ret (thenQ.ret (endQ.one (.inr rfl) ?_))
        exact ⟨⟨false, rfl, not_eq_of Mt.key z1⟩, hb⟩
    · skip
      skip
      refine WC.seqR rfl ?_
      refine WL.y rfl (Y.fieldAddr fi30f0 ti22 (by decide) rfl (rfl) _) ?_
      refine WL.y rfl (Y.load1 Try.underlying22 rfl rfl (hA.cell 0)) ?_
      refine WL.y rfl (Y.fieldAddr fi30f0 ti22 (by decide) rfl (rfl) _) ?_
      refine WL.y rfl (Y.load1 Try.underlying22 rfl rfl (hB.cell 0)) ?_
      refine WL.y rfl (Y.dT (Y.nei rfl rfl) (by omega)) ?_
      refine WL.y rfl (Y.move) ?_
      refine WL.off rfl ?_
      refine WL.off rfl ?_
      refine WL.off rfl ?_
      refine WL.off rfl ?_
      refine WL.off rfl ?_
      refine WL.y rfl (Y.pickT rfl) ?_
      refine WL.y rfl (Y.move) ?_
      refine WL.off rfl ?_
      refine WL.off rfl ?_
      refine WL.off rfl ?_
      refine WL.off rfl ?_
      refine WL.off rfl ?_
      refine WL.y rfl (Y.pickT rfl) ?_
      refine WL.y rfl (Y.move) ?_
      refine WL.off rfl ?_
      refine WL.off rfl ?_
      refine WL.off rfl ?_
      refine WL.off rfl ?_
      refine WL.off rfl ?_
      refine WL.y rfl (Y.pickT rfl) ?_
      refine WL.y rfl (Y.move) ?_
      refine WL.off rfl ?_
      refine WL.off rfl ?_
      refine WL.off rfl ?_
      refine WL.off rfl ?_
      refine WL.off rfl ?_
      refine WL.y rfl (Y.pickT rfl) ?_
      refine WL.y rfl (Y.move) ?_
      refine WL.off rfl ?_
      refine WL.off rfl ?_
      refine WL.off rfl ?_
      refine WL.off rfl ?_
      refine WL.off rfl ?_
      refine WL.y rfl (Y.pickT rfl) ?_
      refine WL.y rfl (Y.move) ?_
      refine WL.off rfl ?_
      refine WL.off rfl ?_
      refine WL.off rfl ?_
      refine WL.off rfl ?_
      refine WL.off rfl ?_
      refine WL.off rfl ?_
      refine WL.off rfl ?_
      refine WL.y rfl (Y.pickT rfl) ?_
      refine WL.y rfl (Y.move) ?_
      refine WL.off rfl ?_
      refine WL.off rfl ?_
      refine WL.off rfl ?_
      refine WL.off rfl ?_
      refine WL.off rfl ?_
      refine WL.off rfl ?_
      refine WL.y rfl (Y.pickT rfl) ?_
      refine WL.y rfl (Y.move) ?_
      refine WL.off rfl ?_
      refine WL.off rfl ?_
      refine WL.off rfl ?_
      refine WL.off rfl ?_
      refine WL.off rfl ?_
      refine WL.off rfl ?_
      refine WL.y rfl (Y.pickT rfl) ?_
      refine WL.nil ?_
      refine WC.condT (rfl) ?_
      refine WC.seqR rfl ?_
      refine WL.y rfl (Y.assign) ?_
      refine WL.nil ?_
      refine WC.ret (thenQ.ret (endQ.one (.inr rfl) ?_))
      exact ⟨⟨false, rfl, not_eq_of Mt.k z0⟩, hb⟩
end Go.Proofs.Ytcbdpcehacklhaa
