/-
  ref02: Compare: walk; the laws of orders.
-/
import Derived.Test.YthcppegkpkgnpaaDoorVal6
namespace Go.Proofs.YthcppegkpkgnpaaDoor
open Go Go.RowKit Go.Cx
set_option linter.unusedVariables false
set_option maxHeartbeats 8000000
def RCmpOf (x : V) : Prop := ∀ (y : V) (w : World) (c d : List Value), VAt w x c → VAt w y d → Ret Tryd.prog 25 [.agg c.toArray, .agg d.toArray].toArray w fun r w' => r = .int .i64 (cmpV x y) ∧ Below w.heap.size w w'
theorem rcompare_ret (v : V) : RCmpOf v := by
  induction v using V.ind with
  | h v ih1 ih2 =>
    intro y w c d hc hd
    have he := cmpV_eq v y
    have hlv : LAt w v.l (c.getD 4 .nilIface) ∧ MAt w v.ks v.vs (c.getD 5 .nilIface) ∧ VOk v ∧ c = vcell v (c.getD 4 .nilIface) (c.getD 5 .nilIface) := by
      cases hc with
      | mk ok h1 h2 hs h3 h4 ho => exact ⟨⟨_, h1, hs, h2⟩, ⟨_, h3, ok.ks, ho, h4⟩, ok, rfl⟩
    have hly : LAt w y.l (d.getD 4 .nilIface) ∧ MAt w y.ks y.vs (d.getD 5 .nilIface) ∧ VOk y ∧ d = vcell y (d.getD 4 .nilIface) (d.getD 5 .nilIface) := by
      cases hd with
      | mk ok h1 h2 hs h3 h4 ho => exact ⟨⟨_, h1, hs, h2⟩, ⟨_, h3, ok.ks, ho, h4⟩, ok, rfl⟩
    obtain ⟨l1, m1, ok1, e1⟩ := hlv
    obtain ⟨l2, m2, ok2, e2⟩ := hly
    generalize c.getD 4 .nilIface = lv at *
    generalize c.getD 5 .nilIface = ov at *
    generalize d.getD 4 .nilIface = lv2 at *
    generalize d.getD 5 .nilIface = ov2 at *
    subst e1 e2
    clear hc hd
    have q1 := ok1.l
    have q2 := ok1.o
    have q3 := ok2.l
    have q4 := ok2.o
    obtain ⟨ca, a1, a2, a3⟩ := l1
    obtain ⟨cb, b1, b2, b3⟩ := l2
    obtain ⟨ma, f1, f0, f2, f3⟩ := m1
    obtain ⟨mb, g1, g0, g2, g3⟩ := m2
    refine Ret.of (n := 137) (rs := #[.tmp 4]) Tryd.func25 rfl rfl rfl (by simp) ?_
    refine WC.seqR rfl ?_
    refine WL.eex rfl (E.boxX) ?_
    rintro _ w2 ⟨rfl, hB2, hb2⟩
    refine WL.eex rfl (E.boxX) ?_
    rintro _ w3 ⟨rfl, hB3, hb3⟩
    refine WL.y rfl (Y.assign) ?_
    refine WL.nil ?_
    refine WC.seq ?_
    refine WC.seqR rfl ?_
    refine WL.y rfl (Y.fieldAddr fi26f0 ti23 (by decide) rfl (rfl) _) ?_
    refine WL.y rfl (Y.load1 Tryd.underlying23 rfl rfl (((show Blk _ _ _ (vcell v lv ov) from hB2).bel hb3).cell 0)) ?_
    refine WL.y rfl (Y.fieldAddr fi26f0 ti23 (by decide) rfl (rfl) _) ?_
    refine WL.y rfl (Y.load1 Tryd.underlying23 rfl rfl ((show Blk _ _ _ (vcell y lv2 ov2) from hB3).cell 0)) ?_
    refine WL.y rfl (Y.nei rfl rfl) ?_
    refine WL.nil ?_
    have hB2' : Blk w3 w.heap.size 26 (vcell v lv ov) := (show Blk _ _ _ (vcell v lv ov) from hB2).bel hb3
    have hB3' : Blk w3 w2.heap.size 26 (vcell y lv2 ov2) := hB3
    have hb := Below.step hb2 hb3
    have p2 := (show Blk w2 _ _ _ from hB2).lt
    have p3 := hB3'.lt
    clear hB2 hB3
    refine WC.condD rfl (fun k0 => ?_) (fun k0 => ?_)
    · rw [if_pos k0] at he
      refine WC.seqR rfl ?_
      refine WL.y rfl (Y.fieldAddr fi26f0 ti23 (by decide) rfl (rfl) _) ?_
      refine WL.y rfl (Y.load1 Tryd.underlying23 rfl rfl (hB2'.cell 0)) ?_
      refine WL.y rfl (Y.fieldAddr fi26f0 ti23 (by decide) rfl (rfl) _) ?_
      refine WL.y rfl (Y.load1 Tryd.underlying23 rfl rfl (hB3'.cell 0)) ?_
      refine WL.call rfl (C.func go39) (numbers_ret _ v.k y.k) ?_
      rintro _ _ ⟨rfl, rfl⟩
      refine WL.y rfl (Y.assign) ?_
      refine WL.nil ?_
      refine WC.ret (thenQ.ret (endQ.one (.inr rfl) ?_))
      exact ⟨congrArg (Value.int .i64) he.symm, hb⟩
    · rw [if_neg k0] at he
      refine WC.skip (thenQ.normal ?_)
      refine WC.seq ?_
      refine WC.seqR rfl ?_
      refine WL.y rfl (Y.fieldAddr fi26f0 ti23 (by decide) rfl (rfl) _) ?_
      refine WL.y rfl (Y.load1 Tryd.underlying23 rfl rfl (hB2'.cell 0)) ?_
      refine WL.nil ?_
      by_cases k2 : v.k = 2
      · rw [if_pos k2] at he
        refine WC.block ?_
        refine WC.seqR rfl ?_
        refine WL.y rfl (Y.dT (Y.eqi rfl rfl) (by omega)) ?_
        refine WL.y rfl (Y.assign) ?_
        refine WL.nil ?_
        refine WC.condT (rfl) ?_
        refine WC.seq ?_
        refine WC.seqR rfl ?_
        refine WL.y rfl (Y.fieldAddr fi26f1 ti4 (by decide) rfl (rfl) _) ?_
        refine WL.y rfl (Y.load1 Tryd.underlying4 rfl rfl (hB2'.cell 1)) ?_
        refine WL.y rfl (Y.fieldAddr fi26f1 ti4 (by decide) rfl (rfl) _) ?_
        refine WL.y rfl (Y.load1 Tryd.underlying4 rfl rfl (hB3'.cell 1)) ?_
        refine WL.y rfl (Y.eqb Tryd.underlying4 rfl rfl) ?_
        refine WL.nil ?_
        refine WC.cond rfl (fun r1 => ?_) (fun r1 => ?_)
        · have e2 : v.b = y.b := by simpa using r1
          rw [e2, num_eq (by omega) (by omega)] at he
          refine WC.seqR rfl ?_
          refine WL.y rfl (Y.assign) ?_
          refine WL.nil ?_
          refine WC.ret (thenQ.ret (inBlockQ.ret (thenQ.ret (endQ.one (.inr rfl) ?_))))
          exact ⟨congrArg (Value.int .i64) he.symm, hb⟩
        · have e2 : v.b ≠ y.b := by simpa using r1
          refine WC.skip (thenQ.normal ?_)
          refine WC.seq ?_
          refine WC.seqR rfl ?_
          refine WL.y rfl (Y.fieldAddr fi26f1 ti4 (by decide) rfl (rfl) _) ?_
          refine WL.y rfl (Y.load1 Tryd.underlying4 rfl rfl (hB3'.cell 1)) ?_
          refine WL.nil ?_
          refine WC.cond rfl (fun r2 => ?_) (fun r2 => ?_)
          · have e3 : v.b = false := by rw [r2] at e2; simpa using e2
            rw [r2, e3] at he
            refine WC.seqR rfl ?_
            refine WL.y rfl (Y.assign) ?_
            refine WL.nil ?_
            refine WC.ret (thenQ.ret (inBlockQ.ret (thenQ.ret (endQ.one (.inr rfl) ?_))))
            exact ⟨congrArg (Value.int .i64) (he.trans rfl).symm, hb⟩
          · have e3 : v.b = true := by rw [r2] at e2; simpa using e2
            rw [r2, e3] at he
            refine WC.skip (thenQ.normal ?_)
            refine WC.seqR rfl ?_
            refine WL.y rfl (Y.assign) ?_
            refine WL.nil ?_
            refine WC.ret (inBlockQ.ret (thenQ.ret (endQ.one (.inr rfl) ?_)))
            exact ⟨congrArg (Value.int .i64) (he.trans rfl).symm, hb⟩
      · rw [if_neg k2] at he
        by_cases k3 : v.k = 3
        · rw [if_pos k3] at he
          refine WC.block ?_
          refine WC.seqR rfl ?_
          refine WL.y rfl (Y.dF (Y.eqi rfl rfl) (by omega)) ?_
          refine WL.y rfl (Y.assign) ?_
          refine WL.nil ?_
          refine WC.condF (rfl) ?_
          refine WC.seqR rfl ?_
          refine WL.y rfl (Y.dT (Y.eqi rfl rfl) (by omega)) ?_
          refine WL.y rfl (Y.assign) ?_
          refine WL.nil ?_
          refine WC.condT (rfl) ?_
          refine WC.seqR rfl ?_
          refine WL.y rfl (Y.fieldAddr fi26f2 ti2 (by decide) rfl (rfl) _) ?_
          refine WL.y rfl (Y.load1 Tryd.underlying2 rfl rfl (hB2'.cell 2)) ?_
          refine WL.y rfl (Y.fieldAddr fi26f2 ti2 (by decide) rfl (rfl) _) ?_
          refine WL.y rfl (Y.load1 Tryd.underlying2 rfl rfl (hB3'.cell 2)) ?_
          refine WL.call rfl (C.func go39) (numbers_ret _ v.i y.i) ?_
          rintro _ _ ⟨rfl, rfl⟩
          refine WL.y rfl (Y.assign) ?_
          refine WL.nil ?_
          refine WC.ret (inBlockQ.ret (thenQ.ret (endQ.one (.inr rfl) ?_)))
          exact ⟨congrArg (Value.int .i64) he.symm, hb⟩
        · rw [if_neg k3] at he
          by_cases k4 : v.k = 4
          · rw [if_pos k4] at he
            refine WC.block ?_
            refine WC.seqR rfl ?_
            refine WL.y rfl (Y.dF (Y.eqi rfl rfl) (by omega)) ?_
            refine WL.y rfl (Y.assign) ?_
            refine WL.nil ?_
            refine WC.condF (rfl) ?_
            refine WC.seqR rfl ?_
            refine WL.y rfl (Y.dF (Y.eqi rfl rfl) (by omega)) ?_
            refine WL.y rfl (Y.assign) ?_
            refine WL.nil ?_
            refine WC.condF (rfl) ?_
            refine WC.seqR rfl ?_
            refine WL.y rfl (Y.dT (Y.eqi rfl rfl) (by omega)) ?_
            refine WL.y rfl (Y.assign) ?_
            refine WL.nil ?_
            refine WC.condT (rfl) ?_
            refine WC.seqR rfl ?_
            refine WL.y rfl (Y.fieldAddr fi26f3 ti9 (by decide) rfl (rfl) _) ?_
            refine WL.y rfl (Y.load1 Tryd.underlying9 rfl rfl (hB2'.cell 3)) ?_
            refine WL.y rfl (Y.fieldAddr fi26f3 ti9 (by decide) rfl (rfl) _) ?_
            refine WL.y rfl (Y.load1 Tryd.underlying9 rfl rfl (hB3'.cell 3)) ?_
            refine WL.call rfl (C.func go40) (texts_ret _ v.t y.t ok1.t ok2.t) ?_
            rintro _ w44 ⟨rfl, hb44⟩
            refine WL.y rfl (Y.assign) ?_
            refine WL.nil ?_
            refine WC.ret (inBlockQ.ret (thenQ.ret (endQ.one (.inr rfl) ?_)))
            exact ⟨congrArg (Value.int .i64) he.symm, Below.step hb hb44⟩
          · rw [if_neg k4] at he
            by_cases k5 : v.k = 5
            · rw [if_pos k5] at he
              refine WC.block ?_
              refine WC.seqR rfl ?_
              refine WL.y rfl (Y.dF (Y.eqi rfl rfl) (by omega)) ?_
              refine WL.y rfl (Y.assign) ?_
              refine WL.nil ?_
              refine WC.condF (rfl) ?_
              refine WC.seqR rfl ?_
              refine WL.y rfl (Y.dF (Y.eqi rfl rfl) (by omega)) ?_
              refine WL.y rfl (Y.assign) ?_
              refine WL.nil ?_
              refine WC.condF (rfl) ?_
              refine WC.seqR rfl ?_
              refine WL.y rfl (Y.dF (Y.eqi rfl rfl) (by omega)) ?_
              refine WL.y rfl (Y.assign) ?_
              refine WL.nil ?_
              refine WC.condF (rfl) ?_
              refine WC.seqR rfl ?_
              refine WL.y rfl (Y.dT (Y.eqi rfl rfl) (by omega)) ?_
              refine WL.y rfl (Y.assign) ?_
              refine WL.nil ?_
              refine WC.condT (rfl) ?_
              refine WC.seq ?_
              refine WC.seqR rfl ?_
              refine WL.y rfl (Y.assign) ?_
              refine WL.nil ?_
              refine WC.block ?_
              generalize v.l = la at *
              generalize y.l = lb at *
              refine WC.loop (fun j => la.length - j) (fun j f ds w' => (j ≤ la.length ∧ j ≤ lb.length) ∧ ds = [] ∧ Below w.heap.size w w' ∧ (Blk w' w.heap.size 26 (vcell v lv ov) ∧ Blk w' w2.heap.size 26 (vcell y lv2 ov2)) ∧ cmpL la lb = cmpL (la.drop j) (lb.drop j) ∧ ∃ J, f = Go.Cx.ov J [(2, .pointer (some ⟨w.heap.size, 0, none⟩)), (3, .pointer (some ⟨w2.heap.size, 0, none⟩)), (5, .int .i64 (j : Int))]) 0 ?_ ?_
              · exact ⟨⟨by omega, by omega⟩, rfl, hb, ⟨hB2', hB3'⟩, rfl, _, ov_mk ⟨rfl, rfl, rfl, trivial⟩⟩
              · rintro j _ _ w4 ⟨⟨hj1, hj2⟩, rfl, hb4, ⟨hA, hB⟩, hc, J, rfl⟩
                by_cases h1 : j < la.length
                · by_cases h2 : j < lb.length
                  · have hst := cmpL_step la lb j h1 h2
                    have hja : j < ca.length := by omega
                    have hjb : j < cb.length := by omega
                    refine WC.seq ?_
                    refine WC.seqR rfl ?_
                    refine WL.y rfl (Y.move) ?_
                    refine WL.y rfl (Y.fieldAddr fi26f4 ti24 (by decide) rfl (rfl) _) ?_
                    refine WL.y rfl (Y.load1 Tryd.underlying24 rfl rfl (hA.cell 4)) ?_
                    refine WL.y rfl (Y.lenSl Tryd.underlying24 (a2.bel hb4) _) ?_
                    refine WL.y rfl (Y.dT (Y.lss rfl rfl) (by omega)) ?_
                    refine WL.y rfl (Y.move) ?_
                    refine WL.y rfl (Y.move) ?_
                    refine WL.y rfl (Y.fieldAddr fi26f4 ti24 (by decide) rfl (rfl) _) ?_
                    refine WL.y rfl (Y.load1 Tryd.underlying24 rfl rfl (hB.cell 4)) ?_
                    refine WL.y rfl (Y.lenSl Tryd.underlying24 (b2.bel hb4) _) ?_
                    refine WL.y rfl (Y.dT (Y.lss rfl rfl) (by omega)) ?_
                    refine WL.y rfl (Y.pickT rfl) ?_
                    refine WL.nil ?_
                    refine WC.condT (rfl) ?_
                    refine WC.skip (thenQ.normal ?_)
                    refine WC.seq ?_
                    refine WC.block ?_
                    refine WC.seq ?_
                    refine WC.regionB (fun i => Nat.beq i 10) [(0, .any), (1, .held), (2, .any), (3, .any), (4, .held), (5, .any), (6, .held), (7, .any), (8, .any), (9, .held), (10, .seq), (11, .any)] mixed (by kernel_rfl) (fun w18 hS18 hheap => ?_)
                    refine RL.any rfl rfl (fun _ => Y.fieldAddr fi26f4 ti24 (by decide) rfl (rfl) _) ?_
                    refine RL.held rfl rfl hS18 (fun _ hb9 => Y.load1 Tryd.underlying24 rfl rfl (cell_bel (hA.cell 4) hb9)) ?_
                    refine RL.any rfl rfl (fun _ => Y.move) ?_
                    refine RL.yex rfl rfl (Y.idx Tryd.underlying24 ti26 (by decide) (a2.bel hb4) rfl (by omega) (by omega)) ?_
                    rintro _ ⟨b64, o64, rfl, hc64⟩
                    refine RL.held rfl rfl hS18 (fun _ hb9 => Y.loadK Tryd.underlying26 rfl ti26 (ca[j].h) rfl (Cells.bel (elem_cells hja hc64) hb9)) ?_
                    refine RL.any rfl rfl (fun _ => Y.fieldAddr fi26f4 ti24 (by decide) rfl (rfl) _) ?_
                    refine RL.held rfl rfl hS18 (fun _ hb9 => Y.load1 Tryd.underlying24 rfl rfl (cell_bel (hB.cell 4) hb9)) ?_
                    refine RL.any rfl rfl (fun _ => Y.move) ?_
                    refine RL.yex rfl rfl (Y.idx Tryd.underlying24 ti26 (by decide) (b2.bel hb4) rfl (by omega) (by omega)) ?_
                    rintro _ ⟨b69, o69, rfl, hc69⟩
                    refine RL.held rfl rfl hS18 (fun _ hb9 => Y.loadK Tryd.underlying26 rfl ti26 (cb[j].h) rfl (Cells.bel (elem_cells hjb hc69) hb9)) ?_
                    refine RL.call rfl rfl (C.func go25) (ih1 _ (List.getElem_mem h1) _ _ _ _ (((a3 j h1 hja).bel hb4).bel hS18) (((b3 j h2 hjb).bel hb4).bel hS18)) ?_
                    rintro _ w71 ⟨rfl, hb71⟩
                    refine ⟨.inl rfl, ?_⟩
                    refine RL.any rfl rfl (fun _ => Y.assign) ?_
                    refine RL.nil (thenQ.normal ?_)
                    refine WC.seqR rfl ?_
                    refine WL.y rfl (Y.move) ?_
                    refine WL.y rfl (Y.nei rfl rfl) ?_
                    refine WL.nil ?_
                    have hbb := Below.step (Below.step hb4 hS18) hb71
                    refine WC.condD rfl (fun h3 => ?_) (fun h3 => ?_)
                    · rw [if_pos h3] at hst
                      refine WC.seqR rfl ?_
                      refine WL.y rfl (Y.move) ?_
                      refine WL.y rfl (Y.assign) ?_
                      refine WL.nil ?_
                      refine WC.ret (inBlockQ.ret (thenQ.ret (thenQ.ret (inBlockQ.ret (thenQ.ret (inBlockQ.ret (thenQ.ret (endQ.one (.inr rfl) ?_))))))))
                      exact ⟨congrArg (Value.int .i64) (he.trans (hc.trans hst)).symm, hbb⟩
                    · rw [if_neg h3] at hst
                      refine WC.skip (inBlockQ.normal (thenQ.normal ?_))
                      refine WC.region rfl ?_
                      refine WL.y rfl (Y.move) ?_
                      refine WL.y rfl (Y.add64 rfl rfl (by omega)) ?_
                      refine WL.y rfl (Y.assign) ?_
                      refine WL.nil (thenQ.normal ?_)
                      exact ⟨j + 1, by omega, ⟨by omega, by omega⟩, rfl, hbb, ⟨(hA.bel hS18).bel hb71, (hB.bel hS18).bel hb71⟩, hc.trans hst, _, ov_mk ⟨rfl, rfl, rfl, trivial⟩⟩
                  · have hee := cmpL_end la lb j (by omega)
                    refine WC.seq ?_
                    refine WC.seqR rfl ?_
                    refine WL.y rfl (Y.move) ?_
                    refine WL.y rfl (Y.fieldAddr fi26f4 ti24 (by decide) rfl (rfl) _) ?_
                    refine WL.y rfl (Y.load1 Tryd.underlying24 rfl rfl (hA.cell 4)) ?_
                    refine WL.y rfl (Y.lenSl Tryd.underlying24 (a2.bel hb4) _) ?_
                    refine WL.y rfl (Y.dT (Y.lss rfl rfl) (by omega)) ?_
                    refine WL.y rfl (Y.move) ?_
                    refine WL.y rfl (Y.move) ?_
                    refine WL.y rfl (Y.fieldAddr fi26f4 ti24 (by decide) rfl (rfl) _) ?_
                    refine WL.y rfl (Y.load1 Tryd.underlying24 rfl rfl (hB.cell 4)) ?_
                    refine WL.y rfl (Y.lenSl Tryd.underlying24 (b2.bel hb4) _) ?_
                    refine WL.y rfl (Y.dF (Y.lss rfl rfl) (by omega)) ?_
                    refine WL.y rfl (Y.pickT rfl) ?_
                    refine WL.nil ?_
                    refine WC.condF (rfl) ?_
                    refine WC.exit (thenQ.exit (thenQ.exit (inBlockQ.hit (thenQ.normal ?_))))
                    refine WC.seqR rfl ?_
                    refine WL.y rfl (Y.fieldAddr fi26f4 ti24 (by decide) rfl (rfl) _) ?_
                    refine WL.y rfl (Y.load1 Tryd.underlying24 rfl rfl (hA.cell 4)) ?_
                    refine WL.y rfl (Y.lenSl Tryd.underlying24 (a2.bel hb4) _) ?_
                    refine WL.y rfl (Y.fieldAddr fi26f4 ti24 (by decide) rfl (rfl) _) ?_
                    refine WL.y rfl (Y.load1 Tryd.underlying24 rfl rfl (hB.cell 4)) ?_
                    refine WL.y rfl (Y.lenSl Tryd.underlying24 (b2.bel hb4) _) ?_
                    refine WL.call rfl (C.func go39) (numbers_ret _ (la.length : Int) (lb.length : Int)) ?_
                    rintro _ _ ⟨rfl, rfl⟩
                    refine WL.y rfl (Y.assign) ?_
                    refine WL.nil ?_
                    refine WC.ret (inBlockQ.ret (thenQ.ret (endQ.one (.inr rfl) ?_)))
                    exact ⟨congrArg (Value.int .i64) (he.trans (hc.trans hee)).symm, hb4⟩
                · have hee := cmpL_end la lb j (by omega)
                  skip
                  refine WC.seq ?_
                  refine WC.seqR rfl ?_
                  refine WL.y rfl (Y.move) ?_
                  refine WL.y rfl (Y.fieldAddr fi26f4 ti24 (by decide) rfl (rfl) _) ?_
                  refine WL.y rfl (Y.load1 Tryd.underlying24 rfl rfl (hA.cell 4)) ?_
                  refine WL.y rfl (Y.lenSl Tryd.underlying24 (a2.bel hb4) _) ?_
                  refine WL.y rfl (Y.dF (Y.lss rfl rfl) (by omega)) ?_
                  refine WL.y rfl (Y.move) ?_
                  refine WL.off rfl ?_
                  refine WL.off rfl ?_
                  refine WL.off rfl ?_
                  refine WL.off rfl ?_
                  refine WL.off rfl ?_
                  refine WL.y rfl (Y.pickF rfl) ?_
                  refine WL.nil ?_
                  refine WC.condF (rfl) ?_
                  refine WC.exit (thenQ.exit (thenQ.exit (inBlockQ.hit (thenQ.normal ?_))))
                  refine WC.seqR rfl ?_
                  refine WL.y rfl (Y.fieldAddr fi26f4 ti24 (by decide) rfl (rfl) _) ?_
                  refine WL.y rfl (Y.load1 Tryd.underlying24 rfl rfl (hA.cell 4)) ?_
                  refine WL.y rfl (Y.lenSl Tryd.underlying24 (a2.bel hb4) _) ?_
                  refine WL.y rfl (Y.fieldAddr fi26f4 ti24 (by decide) rfl (rfl) _) ?_
                  refine WL.y rfl (Y.load1 Tryd.underlying24 rfl rfl (hB.cell 4)) ?_
                  refine WL.y rfl (Y.lenSl Tryd.underlying24 (b2.bel hb4) _) ?_
                  refine WL.call rfl (C.func go39) (numbers_ret _ (la.length : Int) (lb.length : Int)) ?_
                  rintro _ _ ⟨rfl, rfl⟩
                  refine WL.y rfl (Y.assign) ?_
                  refine WL.nil ?_
                  refine WC.ret (inBlockQ.ret (thenQ.ret (endQ.one (.inr rfl) ?_)))
                  exact ⟨congrArg (Value.int .i64) (he.trans (hc.trans hee)).symm, hb4⟩
            · rw [if_neg k5] at he
              by_cases k6 : v.k = 6
              · rw [if_pos k6] at he
                have n1 := ok1.kt
                have n2 := ok2.kt
                refine WC.block ?_
                refine WC.seqR rfl ?_
                refine WL.y rfl (Y.dF (Y.eqi rfl rfl) (by omega)) ?_
                refine WL.y rfl (Y.assign) ?_
                refine WL.nil ?_
                refine WC.condF (rfl) ?_
                refine WC.seqR rfl ?_
                refine WL.y rfl (Y.dF (Y.eqi rfl rfl) (by omega)) ?_
                refine WL.y rfl (Y.assign) ?_
                refine WL.nil ?_
                refine WC.condF (rfl) ?_
                refine WC.seqR rfl ?_
                refine WL.y rfl (Y.dF (Y.eqi rfl rfl) (by omega)) ?_
                refine WL.y rfl (Y.assign) ?_
                refine WL.nil ?_
                refine WC.condF (rfl) ?_
                refine WC.seqR rfl ?_
                refine WL.y rfl (Y.dF (Y.eqi rfl rfl) (by omega)) ?_
                refine WL.y rfl (Y.assign) ?_
                refine WL.nil ?_
                refine WC.condF (rfl) ?_
                refine WC.seqR rfl ?_
                refine WL.y rfl (Y.dT (Y.eqi rfl rfl) (by omega)) ?_
                refine WL.y rfl (Y.assign) ?_
                refine WL.nil ?_
                refine WC.condT (rfl) ?_
                refine WC.seq ?_
                refine WC.seqR rfl ?_
                refine WL.y rfl (Y.assign) ?_
                refine WL.nil ?_
                refine WC.block ?_
                generalize v.vs = la at *
                generalize y.vs = lb at *
                generalize v.ks = ka at *
                generalize y.ks = kb at *
                refine WC.loop (fun j => la.length - j) (fun j f ds w' => (j ≤ la.length ∧ j ≤ lb.length) ∧ ds = [] ∧ Below w.heap.size w w' ∧ (Blk w' w.heap.size 26 (vcell v lv ov) ∧ Blk w' w2.heap.size 26 (vcell y lv2 ov2)) ∧ cmpM la ka kb lb = cmpM (la.drop j) (ka.drop j) (kb.drop j) (lb.drop j) ∧ ∃ J, f = Go.Cx.ov J [(2, .pointer (some ⟨w.heap.size, 0, none⟩)), (3, .pointer (some ⟨w2.heap.size, 0, none⟩)), (7, .int .i64 (j : Int))]) 0 ?_ ?_
                · exact ⟨⟨by omega, by omega⟩, rfl, hb, ⟨hB2', hB3'⟩, rfl, _, ov_mk ⟨rfl, rfl, rfl, trivial⟩⟩
                · rintro j _ _ w4 ⟨⟨hj1, hj2⟩, rfl, hb4, ⟨hA, hB⟩, hc, J, rfl⟩
                  by_cases h1 : j < la.length
                  · by_cases h2 : j < lb.length
                    · have hja : j < ma.length := by omega
                      have hjb : j < mb.length := by omega
                      have hk1 : j < ka.length := by omega
                      have hk2 : j < kb.length := by omega
                      have hst := cmpM_step la lb ka kb j h1 h2 hk1 hk2
                      have t1 := n1 _ (List.getElem_mem hk1)
                      have t2 := n2 _ (List.getElem_mem hk2)
                      refine WC.seq ?_
                      refine WC.seqR rfl ?_
                      refine WL.y rfl (Y.move) ?_
                      refine WL.y rfl (Y.fieldAddr fi26f5 ti22 (by decide) rfl (rfl) _) ?_
                      refine WL.y rfl (Y.load1 Tryd.underlying22 rfl rfl (hA.cell 5)) ?_
                      refine WL.y rfl (Y.lenSl Tryd.underlying22 (f2.bel hb4) _) ?_
                      refine WL.y rfl (Y.dT (Y.lss rfl rfl) (by omega)) ?_
                      refine WL.y rfl (Y.move) ?_
                      refine WL.y rfl (Y.move) ?_
                      refine WL.y rfl (Y.fieldAddr fi26f5 ti22 (by decide) rfl (rfl) _) ?_
                      refine WL.y rfl (Y.load1 Tryd.underlying22 rfl rfl (hB.cell 5)) ?_
                      refine WL.y rfl (Y.lenSl Tryd.underlying22 (g2.bel hb4) _) ?_
                      refine WL.y rfl (Y.dT (Y.lss rfl rfl) (by omega)) ?_
                      refine WL.y rfl (Y.pickT rfl) ?_
                      refine WL.nil ?_
                      refine WC.condT (rfl) ?_
                      refine WC.skip (thenQ.normal ?_)
                      refine WC.seq ?_
                      refine WC.block ?_
                      refine WC.seq ?_
                      refine WC.regionB (fun i => Nat.beq i 12) [(0, .any), (1, .held), (2, .any), (3, .any), (4, .any), (5, .held), (6, .any), (7, .held), (8, .any), (9, .any), (10, .any), (11, .held), (12, .seq), (13, .any)] mixed (by kernel_rfl) (fun w26 hS26 hheap => ?_)
                      refine RL.any rfl rfl (fun _ => Y.fieldAddr fi26f5 ti22 (by decide) rfl (rfl) _) ?_
                      refine RL.held rfl rfl hS26 (fun _ hb9 => Y.load1 Tryd.underlying22 rfl rfl (cell_bel (hA.cell 5) hb9)) ?_
                      refine RL.any rfl rfl (fun _ => Y.move) ?_
                      refine RL.yex rfl rfl (Y.idx Tryd.underlying22 ti38 (by decide) (f2.bel hb4) rfl (by omega) (by omega)) ?_
                      rintro _ ⟨b101, o101, rfl, hc101⟩
                      refine RL.any rfl rfl (fun _ => Y.fieldAddr fi38f0 ti9 (by decide) rfl (rfl) _) ?_
                      refine RL.held rfl rfl hS26 (fun _ hb9 => Y.load1 Tryd.underlying9 rfl rfl (cell_bel (Cells.hd (mem_cells hk1 hja hc101)) hb9)) ?_
                      refine RL.any rfl rfl (fun _ => Y.fieldAddr fi26f5 ti22 (by decide) rfl (rfl) _) ?_
                      refine RL.held rfl rfl hS26 (fun _ hb9 => Y.load1 Tryd.underlying22 rfl rfl (cell_bel (hB.cell 5) hb9)) ?_
                      refine RL.any rfl rfl (fun _ => Y.move) ?_
                      refine RL.yex rfl rfl (Y.idx Tryd.underlying22 ti38 (by decide) (g2.bel hb4) rfl (by omega) (by omega)) ?_
                      rintro _ ⟨b107, o107, rfl, hc107⟩
                      refine RL.any rfl rfl (fun _ => Y.fieldAddr fi38f0 ti9 (by decide) rfl (rfl) _) ?_
                      refine RL.held rfl rfl hS26 (fun _ hb9 => Y.load1 Tryd.underlying9 rfl rfl (cell_bel (Cells.hd (mem_cells hk2 hjb hc107)) hb9)) ?_
                      refine RL.call rfl rfl (C.func go40) (texts_ret _ ka[j] kb[j] t1 t2) ?_
                      rintro _ w110 ⟨rfl, hb110⟩
                      refine ⟨.inl rfl, ?_⟩
                      refine RL.any rfl rfl (fun _ => Y.assign) ?_
                      refine RL.nil (thenQ.normal ?_)
                      refine WC.seq ?_
                      refine WC.seqR rfl ?_
                      refine WL.y rfl (Y.move) ?_
                      refine WL.y rfl (Y.nei rfl rfl) ?_
                      refine WL.nil ?_
                      have hbb := Below.step (Below.step hb4 hS26) hb110
                      have hA' := (hA.bel hS26).bel hb110
                      have hB' := (hB.bel hS26).bel hb110
                      refine WC.condD rfl (fun h3 => ?_) (fun h3 => ?_)
                      · rw [if_pos h3] at hst
                        refine WC.seqR rfl ?_
                        refine WL.y rfl (Y.move) ?_
                        refine WL.y rfl (Y.assign) ?_
                        refine WL.nil ?_
                        refine WC.ret (thenQ.ret (inBlockQ.ret (thenQ.ret (thenQ.ret (inBlockQ.ret (thenQ.ret (inBlockQ.ret (thenQ.ret (endQ.one (.inr rfl) ?_)))))))))
                        exact ⟨congrArg (Value.int .i64) (he.trans (hc.trans hst)).symm, hbb⟩
                      · rw [if_neg h3] at hst
                        refine WC.skip (thenQ.normal ?_)
                        refine WC.seq ?_
                        refine WC.regionB (fun i => Nat.beq i 12) [(0, .any), (1, .held), (2, .any), (3, .any), (4, .any), (5, .held), (6, .any), (7, .held), (8, .any), (9, .any), (10, .any), (11, .held), (12, .seq), (13, .any)] mixed (by kernel_rfl) (fun w29 hS29 hheap => ?_)
                        refine RL.any rfl rfl (fun _ => Y.fieldAddr fi26f5 ti22 (by decide) rfl (rfl) _) ?_
                        refine RL.held rfl rfl hS29 (fun _ hb9 => Y.load1 Tryd.underlying22 rfl rfl (cell_bel (hA'.cell 5) hb9)) ?_
                        refine RL.any rfl rfl (fun _ => Y.move) ?_
                        refine RL.yex rfl rfl (Y.idx Tryd.underlying22 ti38 (by decide) (f2.bel hbb) rfl (by omega) (by omega)) ?_
                        rintro _ ⟨b117, o117, rfl, hc117⟩
                        refine RL.any rfl rfl (fun _ => Y.fieldAddr fi38f1 ti26 (by decide) rfl (rfl) _) ?_
                        refine RL.held rfl rfl hS29 (fun _ hb9 => Y.loadK Tryd.underlying26 rfl ti26 (ma[j].h) rfl (Cells.bel (Cells.tl (mem_cells hk1 hja hc117)) hb9)) ?_
                        refine RL.any rfl rfl (fun _ => Y.fieldAddr fi26f5 ti22 (by decide) rfl (rfl) _) ?_
                        refine RL.held rfl rfl hS29 (fun _ hb9 => Y.load1 Tryd.underlying22 rfl rfl (cell_bel (hB'.cell 5) hb9)) ?_
                        refine RL.any rfl rfl (fun _ => Y.move) ?_
                        refine RL.yex rfl rfl (Y.idx Tryd.underlying22 ti38 (by decide) (g2.bel hbb) rfl (by omega) (by omega)) ?_
                        rintro _ ⟨b123, o123, rfl, hc123⟩
                        refine RL.any rfl rfl (fun _ => Y.fieldAddr fi38f1 ti26 (by decide) rfl (rfl) _) ?_
                        refine RL.held rfl rfl hS29 (fun _ hb9 => Y.loadK Tryd.underlying26 rfl ti26 (mb[j].h) rfl (Cells.bel (Cells.tl (mem_cells hk2 hjb hc123)) hb9)) ?_
                        refine RL.call rfl rfl (C.func go25) (ih2 _ (List.getElem_mem h1) _ _ _ _ (((f3 j h1 hja).bel hbb).bel hS29) (((g3 j h2 hjb).bel hbb).bel hS29)) ?_
                        rintro _ w126 ⟨rfl, hb126⟩
                        refine ⟨.inl rfl, ?_⟩
                        refine RL.any rfl rfl (fun _ => Y.assign) ?_
                        refine RL.nil (thenQ.normal ?_)
                        refine WC.seqR rfl ?_
                        refine WL.y rfl (Y.move) ?_
                        refine WL.y rfl (Y.nei rfl rfl) ?_
                        refine WL.nil ?_
                        have hbc := Below.step (Below.step hbb hS29) hb126
                        refine WC.condD rfl (fun h4 => ?_) (fun h4 => ?_)
                        · rw [if_pos h4] at hst
                          refine WC.seqR rfl ?_
                          refine WL.y rfl (Y.move) ?_
                          refine WL.y rfl (Y.assign) ?_
                          refine WL.nil ?_
                          refine WC.ret (inBlockQ.ret (thenQ.ret (thenQ.ret (inBlockQ.ret (thenQ.ret (inBlockQ.ret (thenQ.ret (endQ.one (.inr rfl) ?_))))))))
                          exact ⟨congrArg (Value.int .i64) (he.trans (hc.trans hst)).symm, hbc⟩
                        · rw [if_neg h4] at hst
                          refine WC.skip (inBlockQ.normal (thenQ.normal ?_))
                          refine WC.region rfl ?_
                          refine WL.y rfl (Y.move) ?_
                          refine WL.y rfl (Y.add64 rfl rfl (by omega)) ?_
                          refine WL.y rfl (Y.assign) ?_
                          refine WL.nil (thenQ.normal ?_)
                          exact ⟨j + 1, by omega, ⟨by omega, by omega⟩, rfl, hbc, ⟨(hA'.bel hS29).bel hb126, (hB'.bel hS29).bel hb126⟩, hc.trans hst, _, ov_mk ⟨rfl, rfl, rfl, trivial⟩⟩
                    · have hee := cmpM_end la lb ka kb j (by omega)
                      refine WC.seq ?_
                      refine WC.seqR rfl ?_
                      refine WL.y rfl (Y.move) ?_
                      refine WL.y rfl (Y.fieldAddr fi26f5 ti22 (by decide) rfl (rfl) _) ?_
                      refine WL.y rfl (Y.load1 Tryd.underlying22 rfl rfl (hA.cell 5)) ?_
                      refine WL.y rfl (Y.lenSl Tryd.underlying22 (f2.bel hb4) _) ?_
                      refine WL.y rfl (Y.dT (Y.lss rfl rfl) (by omega)) ?_
                      refine WL.y rfl (Y.move) ?_
                      refine WL.y rfl (Y.move) ?_
                      refine WL.y rfl (Y.fieldAddr fi26f5 ti22 (by decide) rfl (rfl) _) ?_
                      refine WL.y rfl (Y.load1 Tryd.underlying22 rfl rfl (hB.cell 5)) ?_
                      refine WL.y rfl (Y.lenSl Tryd.underlying22 (g2.bel hb4) _) ?_
                      refine WL.y rfl (Y.dF (Y.lss rfl rfl) (by omega)) ?_
                      refine WL.y rfl (Y.pickT rfl) ?_
                      refine WL.nil ?_
                      refine WC.condF (rfl) ?_
                      refine WC.exit (thenQ.exit (thenQ.exit (inBlockQ.hit (thenQ.normal ?_))))
                      refine WC.seqR rfl ?_
                      refine WL.y rfl (Y.fieldAddr fi26f5 ti22 (by decide) rfl (rfl) _) ?_
                      refine WL.y rfl (Y.load1 Tryd.underlying22 rfl rfl (hA.cell 5)) ?_
                      refine WL.y rfl (Y.lenSl Tryd.underlying22 (f2.bel hb4) _) ?_
                      refine WL.y rfl (Y.fieldAddr fi26f5 ti22 (by decide) rfl (rfl) _) ?_
                      refine WL.y rfl (Y.load1 Tryd.underlying22 rfl rfl (hB.cell 5)) ?_
                      refine WL.y rfl (Y.lenSl Tryd.underlying22 (g2.bel hb4) _) ?_
                      refine WL.call rfl (C.func go39) (numbers_ret _ (la.length : Int) (lb.length : Int)) ?_
                      rintro _ _ ⟨rfl, rfl⟩
                      refine WL.y rfl (Y.assign) ?_
                      refine WL.nil ?_
                      refine WC.ret (inBlockQ.ret (thenQ.ret (endQ.one (.inr rfl) ?_)))
                      exact ⟨congrArg (Value.int .i64) (he.trans (hc.trans hee)).symm, hb4⟩
                  · have hee := cmpM_end la lb ka kb j (by omega)
                    skip
                    refine WC.seq ?_
                    refine WC.seqR rfl ?_
                    refine WL.y rfl (Y.move) ?_
                    refine WL.y rfl (Y.fieldAddr fi26f5 ti22 (by decide) rfl (rfl) _) ?_
                    refine WL.y rfl (Y.load1 Tryd.underlying22 rfl rfl (hA.cell 5)) ?_
                    refine WL.y rfl (Y.lenSl Tryd.underlying22 (f2.bel hb4) _) ?_
                    refine WL.y rfl (Y.dF (Y.lss rfl rfl) (by omega)) ?_
                    refine WL.y rfl (Y.move) ?_
                    refine WL.off rfl ?_
                    refine WL.off rfl ?_
                    refine WL.off rfl ?_
                    refine WL.off rfl ?_
                    refine WL.off rfl ?_
                    refine WL.y rfl (Y.pickF rfl) ?_
                    refine WL.nil ?_
                    refine WC.condF (rfl) ?_
                    refine WC.exit (thenQ.exit (thenQ.exit (inBlockQ.hit (thenQ.normal ?_))))
                    refine WC.seqR rfl ?_
                    refine WL.y rfl (Y.fieldAddr fi26f5 ti22 (by decide) rfl (rfl) _) ?_
                    refine WL.y rfl (Y.load1 Tryd.underlying22 rfl rfl (hA.cell 5)) ?_
                    refine WL.y rfl (Y.lenSl Tryd.underlying22 (f2.bel hb4) _) ?_
                    refine WL.y rfl (Y.fieldAddr fi26f5 ti22 (by decide) rfl (rfl) _) ?_
                    refine WL.y rfl (Y.load1 Tryd.underlying22 rfl rfl (hB.cell 5)) ?_
                    refine WL.y rfl (Y.lenSl Tryd.underlying22 (g2.bel hb4) _) ?_
                    refine WL.call rfl (C.func go39) (numbers_ret _ (la.length : Int) (lb.length : Int)) ?_
                    rintro _ _ ⟨rfl, rfl⟩
                    refine WL.y rfl (Y.assign) ?_
                    refine WL.nil ?_
                    refine WC.ret (inBlockQ.ret (thenQ.ret (endQ.one (.inr rfl) ?_)))
                    exact ⟨congrArg (Value.int .i64) (he.trans (hc.trans hee)).symm, hb4⟩
              · rw [if_neg k6] at he
                skip
                refine WC.block ?_
                refine WC.seqR rfl ?_
                refine WL.y rfl (Y.dF (Y.eqi rfl rfl) (by omega)) ?_
                refine WL.y rfl (Y.assign) ?_
                refine WL.nil ?_
                refine WC.condF (rfl) ?_
                refine WC.seqR rfl ?_
                refine WL.y rfl (Y.dF (Y.eqi rfl rfl) (by omega)) ?_
                refine WL.y rfl (Y.assign) ?_
                refine WL.nil ?_
                refine WC.condF (rfl) ?_
                refine WC.seqR rfl ?_
                refine WL.y rfl (Y.dF (Y.eqi rfl rfl) (by omega)) ?_
                refine WL.y rfl (Y.assign) ?_
                refine WL.nil ?_
                refine WC.condF (rfl) ?_
                refine WC.seqR rfl ?_
                refine WL.y rfl (Y.dF (Y.eqi rfl rfl) (by omega)) ?_
                refine WL.y rfl (Y.assign) ?_
                refine WL.nil ?_
                refine WC.condF (rfl) ?_
                refine WC.seqR rfl ?_
                refine WL.y rfl (Y.dF (Y.eqi rfl rfl) (by omega)) ?_
                refine WL.y rfl (Y.assign) ?_
                refine WL.nil ?_
                refine WC.condF (rfl) ?_
                refine WC.skip (inBlockQ.normal (thenQ.normal ?_))
                refine WC.seqR rfl ?_
                refine WL.y rfl (Y.assign) ?_
                refine WL.nil ?_
                refine WC.ret (endQ.one (.inr rfl) ?_)
                exact ⟨congrArg (Value.int .i64) he.symm, hb⟩
end Go.Proofs.YthcppegkpkgnpaaDoor
