/-
  ref02: bare: walk.
-/
import Derived.Test.YthcppegkpkgnpaaDoorVal8
namespace Go.Proofs.YthcppegkpkgnpaaDoor
open Go Go.RowKit Go.Cx
set_option linter.unusedVariables false
set_option maxHeartbeats 4000000
theorem rbare_ret (v : V) (w : World) (c : List Value) (hv : VAt w v c) : Ret Tryd.prog 55 [.agg c.toArray].toArray w fun r w' => r = .bool (bareV v) ∧ Below w.heap.size w w' := by
  have hqq := vat_parts hv
  obtain ⟨lv, ov, ⟨lc, -, hs, -⟩, ⟨oc, -, -, ho, -⟩, ok, rfl⟩ := hqq
  have ql := ok.l
  have qo := ok.o
  have qt := ok.t
  refine Ret.of (n := 58) (rs := #[.tmp 2]) Tryd.func55 rfl rfl rfl (by simp) ?_
  refine WC.seqR rfl ?_
  refine WL.eex rfl (E.boxX) ?_
  rintro _ w1 ⟨rfl, hB1, hb1⟩
  refine WL.y rfl (Y.assign) ?_
  refine WL.nil ?_
  refine WC.seqR rfl ?_
  refine WL.y rfl (Y.fieldAddr fi26f0 ti23 (by decide) rfl (rfl) _) ?_
  refine WL.y rfl (Y.load1 Tryd.underlying23 rfl rfl ((show Blk _ _ _ (vcell v lv ov) from hB1).cell 0)) ?_
  refine WL.y rfl (Y.assign) ?_
  refine WL.nil ?_
  refine WC.seq ?_
  have hB : Blk w1 w.heap.size 26 (vcell v lv ov) := hB1
  clear hB1
  by_cases r0 : v.k < 1
  · have e : bareV v = false := decide_eq_false (fun h => by omega)
    refine WC.seqR rfl ?_
    refine WL.y rfl (Y.move) ?_
    refine WL.y rfl (Y.dT (Y.lss rfl rfl) (by omega)) ?_
    refine WL.y rfl (Y.move) ?_
    refine WL.off rfl ?_
    refine WL.off rfl ?_
    refine WL.y rfl (Y.pickT rfl) ?_
    refine WL.nil ?_
    refine WC.condT (rfl) ?_
    refine WC.seqR rfl ?_
    refine WL.y rfl (Y.assign) ?_
    refine WL.nil ?_
    refine WC.ret (thenQ.ret (endQ.one (.inr rfl) ?_))
    exact ⟨congrArg Value.bool e.symm, hb1⟩
  · by_cases r1 : 6 < v.k
    · have e : bareV v = false := decide_eq_false (fun h => by omega)
      refine WC.seqR rfl ?_
      refine WL.y rfl (Y.move) ?_
      refine WL.y rfl (Y.dF (Y.lss rfl rfl) (by omega)) ?_
      refine WL.y rfl (Y.move) ?_
      refine WL.y rfl (Y.move) ?_
      refine WL.y rfl (Y.dT (Y.gtr rfl rfl) (by omega)) ?_
      refine WL.y rfl (Y.pickF rfl) ?_
      refine WL.nil ?_
      refine WC.condT (rfl) ?_
      refine WC.seqR rfl ?_
      refine WL.y rfl (Y.assign) ?_
      refine WL.nil ?_
      refine WC.ret (thenQ.ret (endQ.one (.inr rfl) ?_))
      exact ⟨congrArg Value.bool e.symm, hb1⟩
    · skip
      by_cases k0 : v.k = 2
      · skip
        by_cases z1 : v.i = 0
        · skip
          by_cases z2 : v.t.length = 0
          · skip
            by_cases z3 : v.l.length = 0
            · skip
              by_cases z4 : v.vs.length = 0
              · skip
                have e : bareV v = true := decide_eq_true ⟨⟨by omega, by omega⟩, .inl k0, .inr z1, .inr z2, .inr z3, .inr z4⟩
                refine WC.seqR rfl ?_
                refine WL.y rfl (Y.move) ?_
                refine WL.y rfl (Y.dF (Y.lss rfl rfl) (by omega)) ?_
                refine WL.y rfl (Y.move) ?_
                refine WL.y rfl (Y.move) ?_
                refine WL.y rfl (Y.dF (Y.gtr rfl rfl) (by omega)) ?_
                refine WL.y rfl (Y.pickF rfl) ?_
                refine WL.nil ?_
                refine WC.condF (rfl) ?_
                refine WC.skip (thenQ.normal ?_)
                refine WC.seqR rfl ?_
                refine WL.y rfl (Y.move) ?_
                refine WL.y rfl (Y.dT (Y.eqi rfl rfl) (by omega)) ?_
                refine WL.y rfl (Y.move) ?_
                refine WL.off rfl ?_
                refine WL.off rfl ?_
                refine WL.off rfl ?_
                refine WL.y rfl (Y.pickT rfl) ?_
                refine WL.y rfl (Y.move) ?_
                refine WL.y rfl (Y.move) ?_
                refine WL.y rfl (Y.dF (Y.eqi rfl rfl) (by omega)) ?_
                refine WL.y rfl (Y.move) ?_
                refine WL.y rfl (Y.fieldAddr fi26f2 ti2 (by decide) rfl (rfl) _) ?_
                refine WL.y rfl (Y.load1 Tryd.underlying2 rfl rfl (hB.cell 2)) ?_
                refine WL.y rfl (Y.dT (Y.eqi rfl rfl) (by omega)) ?_
                refine WL.y rfl (Y.pickF rfl) ?_
                refine WL.y rfl (Y.pickT rfl) ?_
                refine WL.y rfl (Y.move) ?_
                refine WL.y rfl (Y.move) ?_
                refine WL.y rfl (Y.dF (Y.eqi rfl rfl) (by omega)) ?_
                refine WL.y rfl (Y.move) ?_
                refine WL.y rfl (Y.fieldAddr fi26f3 ti9 (by decide) rfl (rfl) _) ?_
                refine WL.y rfl (Y.load1 Tryd.underlying9 rfl rfl (hB.cell 3)) ?_
                refine WL.y rfl (Y.lenS Tryd.underlying9 rfl _) ?_
                refine WL.y rfl (Y.dT (Y.eqi rfl rfl) (by omega)) ?_
                refine WL.y rfl (Y.pickF rfl) ?_
                refine WL.y rfl (Y.pickT rfl) ?_
                refine WL.y rfl (Y.move) ?_
                refine WL.y rfl (Y.move) ?_
                refine WL.y rfl (Y.dF (Y.eqi rfl rfl) (by omega)) ?_
                refine WL.y rfl (Y.move) ?_
                refine WL.y rfl (Y.fieldAddr fi26f4 ti24 (by decide) rfl (rfl) _) ?_
                refine WL.y rfl (Y.load1 Tryd.underlying24 rfl rfl (hB.cell 4)) ?_
                refine WL.y rfl (Y.lenSl Tryd.underlying24 (hs.bel hb1) _) ?_
                refine WL.y rfl (Y.dT (Y.eqi rfl rfl) (by omega)) ?_
                refine WL.y rfl (Y.pickF rfl) ?_
                refine WL.y rfl (Y.pickT rfl) ?_
                refine WL.y rfl (Y.move) ?_
                refine WL.y rfl (Y.move) ?_
                refine WL.y rfl (Y.dF (Y.eqi rfl rfl) (by omega)) ?_
                refine WL.y rfl (Y.move) ?_
                refine WL.y rfl (Y.fieldAddr fi26f5 ti22 (by decide) rfl (rfl) _) ?_
                refine WL.y rfl (Y.load1 Tryd.underlying22 rfl rfl (hB.cell 5)) ?_
                refine WL.y rfl (Y.lenSl Tryd.underlying22 (ho.bel hb1) _) ?_
                refine WL.y rfl (Y.dT (Y.eqi rfl rfl) (by omega)) ?_
                refine WL.y rfl (Y.pickF rfl) ?_
                refine WL.y rfl (Y.pickT rfl) ?_
                refine WL.y rfl (Y.assign) ?_
                refine WL.nil ?_
                refine WC.ret (endQ.one (.inr rfl) ?_)
                exact ⟨congrArg Value.bool e.symm, hb1⟩
              · skip
                have e : bareV v = false := decide_eq_false (fun h => (h.2.2.2.2.2).elim (fun e => by omega) z4)
                refine WC.seqR rfl ?_
                refine WL.y rfl (Y.move) ?_
                refine WL.y rfl (Y.dF (Y.lss rfl rfl) (by omega)) ?_
                refine WL.y rfl (Y.move) ?_
                refine WL.y rfl (Y.move) ?_
                refine WL.y rfl (Y.dF (Y.gtr rfl rfl) (by omega)) ?_
                refine WL.y rfl (Y.pickF rfl) ?_
                refine WL.nil ?_
                refine WC.condF (rfl) ?_
                refine WC.skip (thenQ.normal ?_)
                refine WC.seqR rfl ?_
                refine WL.y rfl (Y.move) ?_
                refine WL.y rfl (Y.dT (Y.eqi rfl rfl) (by omega)) ?_
                refine WL.y rfl (Y.move) ?_
                refine WL.off rfl ?_
                refine WL.off rfl ?_
                refine WL.off rfl ?_
                refine WL.y rfl (Y.pickT rfl) ?_
                refine WL.y rfl (Y.move) ?_
                refine WL.y rfl (Y.move) ?_
                refine WL.y rfl (Y.dF (Y.eqi rfl rfl) (by omega)) ?_
                refine WL.y rfl (Y.move) ?_
                refine WL.y rfl (Y.fieldAddr fi26f2 ti2 (by decide) rfl (rfl) _) ?_
                refine WL.y rfl (Y.load1 Tryd.underlying2 rfl rfl (hB.cell 2)) ?_
                refine WL.y rfl (Y.dT (Y.eqi rfl rfl) (by omega)) ?_
                refine WL.y rfl (Y.pickF rfl) ?_
                refine WL.y rfl (Y.pickT rfl) ?_
                refine WL.y rfl (Y.move) ?_
                refine WL.y rfl (Y.move) ?_
                refine WL.y rfl (Y.dF (Y.eqi rfl rfl) (by omega)) ?_
                refine WL.y rfl (Y.move) ?_
                refine WL.y rfl (Y.fieldAddr fi26f3 ti9 (by decide) rfl (rfl) _) ?_
                refine WL.y rfl (Y.load1 Tryd.underlying9 rfl rfl (hB.cell 3)) ?_
                refine WL.y rfl (Y.lenS Tryd.underlying9 rfl _) ?_
                refine WL.y rfl (Y.dT (Y.eqi rfl rfl) (by omega)) ?_
                refine WL.y rfl (Y.pickF rfl) ?_
                refine WL.y rfl (Y.pickT rfl) ?_
                refine WL.y rfl (Y.move) ?_
                refine WL.y rfl (Y.move) ?_
                refine WL.y rfl (Y.dF (Y.eqi rfl rfl) (by omega)) ?_
                refine WL.y rfl (Y.move) ?_
                refine WL.y rfl (Y.fieldAddr fi26f4 ti24 (by decide) rfl (rfl) _) ?_
                refine WL.y rfl (Y.load1 Tryd.underlying24 rfl rfl (hB.cell 4)) ?_
                refine WL.y rfl (Y.lenSl Tryd.underlying24 (hs.bel hb1) _) ?_
                refine WL.y rfl (Y.dT (Y.eqi rfl rfl) (by omega)) ?_
                refine WL.y rfl (Y.pickF rfl) ?_
                refine WL.y rfl (Y.pickT rfl) ?_
                refine WL.y rfl (Y.move) ?_
                refine WL.y rfl (Y.move) ?_
                refine WL.y rfl (Y.dF (Y.eqi rfl rfl) (by omega)) ?_
                refine WL.y rfl (Y.move) ?_
                refine WL.y rfl (Y.fieldAddr fi26f5 ti22 (by decide) rfl (rfl) _) ?_
                refine WL.y rfl (Y.load1 Tryd.underlying22 rfl rfl (hB.cell 5)) ?_
                refine WL.y rfl (Y.lenSl Tryd.underlying22 (ho.bel hb1) _) ?_
                refine WL.y rfl (Y.dF (Y.eqi rfl rfl) (by omega)) ?_
                refine WL.y rfl (Y.pickF rfl) ?_
                refine WL.y rfl (Y.pickT rfl) ?_
                refine WL.y rfl (Y.assign) ?_
                refine WL.nil ?_
                refine WC.ret (endQ.one (.inr rfl) ?_)
                exact ⟨congrArg Value.bool e.symm, hb1⟩
            · skip
              have e : bareV v = false := decide_eq_false (fun h => (h.2.2.2.2.1).elim (fun e => by omega) z3)
              refine WC.seqR rfl ?_
              refine WL.y rfl (Y.move) ?_
              refine WL.y rfl (Y.dF (Y.lss rfl rfl) (by omega)) ?_
              refine WL.y rfl (Y.move) ?_
              refine WL.y rfl (Y.move) ?_
              refine WL.y rfl (Y.dF (Y.gtr rfl rfl) (by omega)) ?_
              refine WL.y rfl (Y.pickF rfl) ?_
              refine WL.nil ?_
              refine WC.condF (rfl) ?_
              refine WC.skip (thenQ.normal ?_)
              refine WC.seqR rfl ?_
              refine WL.y rfl (Y.move) ?_
              refine WL.y rfl (Y.dT (Y.eqi rfl rfl) (by omega)) ?_
              refine WL.y rfl (Y.move) ?_
              refine WL.off rfl ?_
              refine WL.off rfl ?_
              refine WL.off rfl ?_
              refine WL.y rfl (Y.pickT rfl) ?_
              refine WL.y rfl (Y.move) ?_
              refine WL.y rfl (Y.move) ?_
              refine WL.y rfl (Y.dF (Y.eqi rfl rfl) (by omega)) ?_
              refine WL.y rfl (Y.move) ?_
              refine WL.y rfl (Y.fieldAddr fi26f2 ti2 (by decide) rfl (rfl) _) ?_
              refine WL.y rfl (Y.load1 Tryd.underlying2 rfl rfl (hB.cell 2)) ?_
              refine WL.y rfl (Y.dT (Y.eqi rfl rfl) (by omega)) ?_
              refine WL.y rfl (Y.pickF rfl) ?_
              refine WL.y rfl (Y.pickT rfl) ?_
              refine WL.y rfl (Y.move) ?_
              refine WL.y rfl (Y.move) ?_
              refine WL.y rfl (Y.dF (Y.eqi rfl rfl) (by omega)) ?_
              refine WL.y rfl (Y.move) ?_
              refine WL.y rfl (Y.fieldAddr fi26f3 ti9 (by decide) rfl (rfl) _) ?_
              refine WL.y rfl (Y.load1 Tryd.underlying9 rfl rfl (hB.cell 3)) ?_
              refine WL.y rfl (Y.lenS Tryd.underlying9 rfl _) ?_
              refine WL.y rfl (Y.dT (Y.eqi rfl rfl) (by omega)) ?_
              refine WL.y rfl (Y.pickF rfl) ?_
              refine WL.y rfl (Y.pickT rfl) ?_
              refine WL.y rfl (Y.move) ?_
              refine WL.y rfl (Y.move) ?_
              refine WL.y rfl (Y.dF (Y.eqi rfl rfl) (by omega)) ?_
              refine WL.y rfl (Y.move) ?_
              refine WL.y rfl (Y.fieldAddr fi26f4 ti24 (by decide) rfl (rfl) _) ?_
              refine WL.y rfl (Y.load1 Tryd.underlying24 rfl rfl (hB.cell 4)) ?_
              refine WL.y rfl (Y.lenSl Tryd.underlying24 (hs.bel hb1) _) ?_
              refine WL.y rfl (Y.dF (Y.eqi rfl rfl) (by omega)) ?_
              refine WL.y rfl (Y.pickF rfl) ?_
              refine WL.y rfl (Y.pickT rfl) ?_
              refine WL.y rfl (Y.move) ?_
              refine WL.off rfl ?_
              refine WL.off rfl ?_
              refine WL.off rfl ?_
              refine WL.off rfl ?_
              refine WL.off rfl ?_
              refine WL.off rfl ?_
              refine WL.off rfl ?_
              refine WL.off rfl ?_
              refine WL.y rfl (Y.pickF rfl) ?_
              refine WL.y rfl (Y.assign) ?_
              refine WL.nil ?_
              refine WC.ret (endQ.one (.inr rfl) ?_)
              exact ⟨congrArg Value.bool e.symm, hb1⟩
          · skip
            have e : bareV v = false := decide_eq_false (fun h => (h.2.2.2.1).elim (fun e => by omega) z2)
            refine WC.seqR rfl ?_
            refine WL.y rfl (Y.move) ?_
            refine WL.y rfl (Y.dF (Y.lss rfl rfl) (by omega)) ?_
            refine WL.y rfl (Y.move) ?_
            refine WL.y rfl (Y.move) ?_
            refine WL.y rfl (Y.dF (Y.gtr rfl rfl) (by omega)) ?_
            refine WL.y rfl (Y.pickF rfl) ?_
            refine WL.nil ?_
            refine WC.condF (rfl) ?_
            refine WC.skip (thenQ.normal ?_)
            refine WC.seqR rfl ?_
            refine WL.y rfl (Y.move) ?_
            refine WL.y rfl (Y.dT (Y.eqi rfl rfl) (by omega)) ?_
            refine WL.y rfl (Y.move) ?_
            refine WL.off rfl ?_
            refine WL.off rfl ?_
            refine WL.off rfl ?_
            refine WL.y rfl (Y.pickT rfl) ?_
            refine WL.y rfl (Y.move) ?_
            refine WL.y rfl (Y.move) ?_
            refine WL.y rfl (Y.dF (Y.eqi rfl rfl) (by omega)) ?_
            refine WL.y rfl (Y.move) ?_
            refine WL.y rfl (Y.fieldAddr fi26f2 ti2 (by decide) rfl (rfl) _) ?_
            refine WL.y rfl (Y.load1 Tryd.underlying2 rfl rfl (hB.cell 2)) ?_
            refine WL.y rfl (Y.dT (Y.eqi rfl rfl) (by omega)) ?_
            refine WL.y rfl (Y.pickF rfl) ?_
            refine WL.y rfl (Y.pickT rfl) ?_
            refine WL.y rfl (Y.move) ?_
            refine WL.y rfl (Y.move) ?_
            refine WL.y rfl (Y.dF (Y.eqi rfl rfl) (by omega)) ?_
            refine WL.y rfl (Y.move) ?_
            refine WL.y rfl (Y.fieldAddr fi26f3 ti9 (by decide) rfl (rfl) _) ?_
            refine WL.y rfl (Y.load1 Tryd.underlying9 rfl rfl (hB.cell 3)) ?_
            refine WL.y rfl (Y.lenS Tryd.underlying9 rfl _) ?_
            refine WL.y rfl (Y.dF (Y.eqi rfl rfl) (by omega)) ?_
            refine WL.y rfl (Y.pickF rfl) ?_
            refine WL.y rfl (Y.pickT rfl) ?_
            refine WL.y rfl (Y.move) ?_
            refine WL.off rfl ?_
            refine WL.off rfl ?_
            refine WL.off rfl ?_
            refine WL.off rfl ?_
            refine WL.off rfl ?_
            refine WL.off rfl ?_
            refine WL.off rfl ?_
            refine WL.off rfl ?_
            refine WL.y rfl (Y.pickF rfl) ?_
            refine WL.y rfl (Y.move) ?_
            refine WL.off rfl ?_
            refine WL.off rfl ?_
            refine WL.off rfl ?_
            refine WL.off rfl ?_
            refine WL.off rfl ?_
            refine WL.off rfl ?_
            refine WL.off rfl ?_
            refine WL.off rfl ?_
            refine WL.y rfl (Y.pickF rfl) ?_
            refine WL.y rfl (Y.assign) ?_
            refine WL.nil ?_
            refine WC.ret (endQ.one (.inr rfl) ?_)
            exact ⟨congrArg Value.bool e.symm, hb1⟩
        · skip
          have e : bareV v = false := decide_eq_false (fun h => (h.2.2.1).elim (fun e => by omega) z1)
          refine WC.seqR rfl ?_
          refine WL.y rfl (Y.move) ?_
          refine WL.y rfl (Y.dF (Y.lss rfl rfl) (by omega)) ?_
          refine WL.y rfl (Y.move) ?_
          refine WL.y rfl (Y.move) ?_
          refine WL.y rfl (Y.dF (Y.gtr rfl rfl) (by omega)) ?_
          refine WL.y rfl (Y.pickF rfl) ?_
          refine WL.nil ?_
          refine WC.condF (rfl) ?_
          refine WC.skip (thenQ.normal ?_)
          refine WC.seqR rfl ?_
          refine WL.y rfl (Y.move) ?_
          refine WL.y rfl (Y.dT (Y.eqi rfl rfl) (by omega)) ?_
          refine WL.y rfl (Y.move) ?_
          refine WL.off rfl ?_
          refine WL.off rfl ?_
          refine WL.off rfl ?_
          refine WL.y rfl (Y.pickT rfl) ?_
          refine WL.y rfl (Y.move) ?_
          refine WL.y rfl (Y.move) ?_
          refine WL.y rfl (Y.dF (Y.eqi rfl rfl) (by omega)) ?_
          refine WL.y rfl (Y.move) ?_
          refine WL.y rfl (Y.fieldAddr fi26f2 ti2 (by decide) rfl (rfl) _) ?_
          refine WL.y rfl (Y.load1 Tryd.underlying2 rfl rfl (hB.cell 2)) ?_
          refine WL.y rfl (Y.dF (Y.eqi rfl rfl) (by omega)) ?_
          refine WL.y rfl (Y.pickF rfl) ?_
          refine WL.y rfl (Y.pickT rfl) ?_
          refine WL.y rfl (Y.move) ?_
          refine WL.off rfl ?_
          refine WL.off rfl ?_
          refine WL.off rfl ?_
          refine WL.off rfl ?_
          refine WL.off rfl ?_
          refine WL.off rfl ?_
          refine WL.off rfl ?_
          refine WL.off rfl ?_
          refine WL.y rfl (Y.pickF rfl) ?_
          refine WL.y rfl (Y.move) ?_
          refine WL.off rfl ?_
          refine WL.off rfl ?_
          refine WL.off rfl ?_
          refine WL.off rfl ?_
          refine WL.off rfl ?_
          refine WL.off rfl ?_
          refine WL.off rfl ?_
          refine WL.off rfl ?_
          refine WL.y rfl (Y.pickF rfl) ?_
          refine WL.y rfl (Y.move) ?_
          refine WL.off rfl ?_
          refine WL.off rfl ?_
          refine WL.off rfl ?_
          refine WL.off rfl ?_
          refine WL.off rfl ?_
          refine WL.off rfl ?_
          refine WL.off rfl ?_
          refine WL.off rfl ?_
          refine WL.y rfl (Y.pickF rfl) ?_
          refine WL.y rfl (Y.assign) ?_
          refine WL.nil ?_
          refine WC.ret (endQ.one (.inr rfl) ?_)
          exact ⟨congrArg Value.bool e.symm, hb1⟩
      · skip
        by_cases z0 : v.b = false
        · skip
          by_cases k1 : v.k = 3
          · skip
            by_cases z2 : v.t.length = 0
            · skip
              by_cases z3 : v.l.length = 0
              · skip
                by_cases z4 : v.vs.length = 0
                · skip
                  have e : bareV v = true := decide_eq_true ⟨⟨by omega, by omega⟩, .inr z0, .inl k1, .inr z2, .inr z3, .inr z4⟩
                  refine WC.seqR rfl ?_
                  refine WL.y rfl (Y.move) ?_
                  refine WL.y rfl (Y.dF (Y.lss rfl rfl) (by omega)) ?_
                  refine WL.y rfl (Y.move) ?_
                  refine WL.y rfl (Y.move) ?_
                  refine WL.y rfl (Y.dF (Y.gtr rfl rfl) (by omega)) ?_
                  refine WL.y rfl (Y.pickF rfl) ?_
                  refine WL.nil ?_
                  refine WC.condF (rfl) ?_
                  refine WC.skip (thenQ.normal ?_)
                  refine WC.seqR rfl ?_
                  refine WL.y rfl (Y.move) ?_
                  refine WL.y rfl (Y.dF (Y.eqi rfl rfl) (by omega)) ?_
                  refine WL.y rfl (Y.move) ?_
                  refine WL.y rfl (Y.fieldAddr fi26f1 ti4 (by decide) rfl (rfl) _) ?_
                  refine WL.y rfl (Y.load1 Tryd.underlying4 rfl rfl (hB.cell 1)) ?_
                  refine WL.y rfl (Y.bT (Y.not rfl) (by rw [z0]; rfl)) ?_
                  refine WL.y rfl (Y.pickF rfl) ?_
                  refine WL.y rfl (Y.move) ?_
                  refine WL.y rfl (Y.move) ?_
                  refine WL.y rfl (Y.dT (Y.eqi rfl rfl) (by omega)) ?_
                  refine WL.y rfl (Y.move) ?_
                  refine WL.off rfl ?_
                  refine WL.off rfl ?_
                  refine WL.off rfl ?_
                  refine WL.y rfl (Y.pickT rfl) ?_
                  refine WL.y rfl (Y.pickT rfl) ?_
                  refine WL.y rfl (Y.move) ?_
                  refine WL.y rfl (Y.move) ?_
                  refine WL.y rfl (Y.dF (Y.eqi rfl rfl) (by omega)) ?_
                  refine WL.y rfl (Y.move) ?_
                  refine WL.y rfl (Y.fieldAddr fi26f3 ti9 (by decide) rfl (rfl) _) ?_
                  refine WL.y rfl (Y.load1 Tryd.underlying9 rfl rfl (hB.cell 3)) ?_
                  refine WL.y rfl (Y.lenS Tryd.underlying9 rfl _) ?_
                  refine WL.y rfl (Y.dT (Y.eqi rfl rfl) (by omega)) ?_
                  refine WL.y rfl (Y.pickF rfl) ?_
                  refine WL.y rfl (Y.pickT rfl) ?_
                  refine WL.y rfl (Y.move) ?_
                  refine WL.y rfl (Y.move) ?_
                  refine WL.y rfl (Y.dF (Y.eqi rfl rfl) (by omega)) ?_
                  refine WL.y rfl (Y.move) ?_
                  refine WL.y rfl (Y.fieldAddr fi26f4 ti24 (by decide) rfl (rfl) _) ?_
                  refine WL.y rfl (Y.load1 Tryd.underlying24 rfl rfl (hB.cell 4)) ?_
                  refine WL.y rfl (Y.lenSl Tryd.underlying24 (hs.bel hb1) _) ?_
                  refine WL.y rfl (Y.dT (Y.eqi rfl rfl) (by omega)) ?_
                  refine WL.y rfl (Y.pickF rfl) ?_
                  refine WL.y rfl (Y.pickT rfl) ?_
                  refine WL.y rfl (Y.move) ?_
                  refine WL.y rfl (Y.move) ?_
                  refine WL.y rfl (Y.dF (Y.eqi rfl rfl) (by omega)) ?_
                  refine WL.y rfl (Y.move) ?_
                  refine WL.y rfl (Y.fieldAddr fi26f5 ti22 (by decide) rfl (rfl) _) ?_
                  refine WL.y rfl (Y.load1 Tryd.underlying22 rfl rfl (hB.cell 5)) ?_
                  refine WL.y rfl (Y.lenSl Tryd.underlying22 (ho.bel hb1) _) ?_
                  refine WL.y rfl (Y.dT (Y.eqi rfl rfl) (by omega)) ?_
                  refine WL.y rfl (Y.pickF rfl) ?_
                  refine WL.y rfl (Y.pickT rfl) ?_
                  refine WL.y rfl (Y.assign) ?_
                  refine WL.nil ?_
                  refine WC.ret (endQ.one (.inr rfl) ?_)
                  exact ⟨congrArg Value.bool e.symm, hb1⟩
                · skip
                  have e : bareV v = false := decide_eq_false (fun h => (h.2.2.2.2.2).elim (fun e => by omega) z4)
                  refine WC.seqR rfl ?_
                  refine WL.y rfl (Y.move) ?_
                  refine WL.y rfl (Y.dF (Y.lss rfl rfl) (by omega)) ?_
                  refine WL.y rfl (Y.move) ?_
                  refine WL.y rfl (Y.move) ?_
                  refine WL.y rfl (Y.dF (Y.gtr rfl rfl) (by omega)) ?_
                  refine WL.y rfl (Y.pickF rfl) ?_
                  refine WL.nil ?_
                  refine WC.condF (rfl) ?_
                  refine WC.skip (thenQ.normal ?_)
                  refine WC.seqR rfl ?_
                  refine WL.y rfl (Y.move) ?_
                  refine WL.y rfl (Y.dF (Y.eqi rfl rfl) (by omega)) ?_
                  refine WL.y rfl (Y.move) ?_
                  refine WL.y rfl (Y.fieldAddr fi26f1 ti4 (by decide) rfl (rfl) _) ?_
                  refine WL.y rfl (Y.load1 Tryd.underlying4 rfl rfl (hB.cell 1)) ?_
                  refine WL.y rfl (Y.bT (Y.not rfl) (by rw [z0]; rfl)) ?_
                  refine WL.y rfl (Y.pickF rfl) ?_
                  refine WL.y rfl (Y.move) ?_
                  refine WL.y rfl (Y.move) ?_
                  refine WL.y rfl (Y.dT (Y.eqi rfl rfl) (by omega)) ?_
                  refine WL.y rfl (Y.move) ?_
                  refine WL.off rfl ?_
                  refine WL.off rfl ?_
                  refine WL.off rfl ?_
                  refine WL.y rfl (Y.pickT rfl) ?_
                  refine WL.y rfl (Y.pickT rfl) ?_
                  refine WL.y rfl (Y.move) ?_
                  refine WL.y rfl (Y.move) ?_
                  refine WL.y rfl (Y.dF (Y.eqi rfl rfl) (by omega)) ?_
                  refine WL.y rfl (Y.move) ?_
                  refine WL.y rfl (Y.fieldAddr fi26f3 ti9 (by decide) rfl (rfl) _) ?_
                  refine WL.y rfl (Y.load1 Tryd.underlying9 rfl rfl (hB.cell 3)) ?_
                  refine WL.y rfl (Y.lenS Tryd.underlying9 rfl _) ?_
                  refine WL.y rfl (Y.dT (Y.eqi rfl rfl) (by omega)) ?_
                  refine WL.y rfl (Y.pickF rfl) ?_
                  refine WL.y rfl (Y.pickT rfl) ?_
                  refine WL.y rfl (Y.move) ?_
                  refine WL.y rfl (Y.move) ?_
                  refine WL.y rfl (Y.dF (Y.eqi rfl rfl) (by omega)) ?_
                  refine WL.y rfl (Y.move) ?_
                  refine WL.y rfl (Y.fieldAddr fi26f4 ti24 (by decide) rfl (rfl) _) ?_
                  refine WL.y rfl (Y.load1 Tryd.underlying24 rfl rfl (hB.cell 4)) ?_
                  refine WL.y rfl (Y.lenSl Tryd.underlying24 (hs.bel hb1) _) ?_
                  refine WL.y rfl (Y.dT (Y.eqi rfl rfl) (by omega)) ?_
                  refine WL.y rfl (Y.pickF rfl) ?_
                  refine WL.y rfl (Y.pickT rfl) ?_
                  refine WL.y rfl (Y.move) ?_
                  refine WL.y rfl (Y.move) ?_
                  refine WL.y rfl (Y.dF (Y.eqi rfl rfl) (by omega)) ?_
                  refine WL.y rfl (Y.move) ?_
                  refine WL.y rfl (Y.fieldAddr fi26f5 ti22 (by decide) rfl (rfl) _) ?_
                  refine WL.y rfl (Y.load1 Tryd.underlying22 rfl rfl (hB.cell 5)) ?_
                  refine WL.y rfl (Y.lenSl Tryd.underlying22 (ho.bel hb1) _) ?_
                  refine WL.y rfl (Y.dF (Y.eqi rfl rfl) (by omega)) ?_
                  refine WL.y rfl (Y.pickF rfl) ?_
                  refine WL.y rfl (Y.pickT rfl) ?_
                  refine WL.y rfl (Y.assign) ?_
                  refine WL.nil ?_
                  refine WC.ret (endQ.one (.inr rfl) ?_)
                  exact ⟨congrArg Value.bool e.symm, hb1⟩
              · skip
                have e : bareV v = false := decide_eq_false (fun h => (h.2.2.2.2.1).elim (fun e => by omega) z3)
                refine WC.seqR rfl ?_
                refine WL.y rfl (Y.move) ?_
                refine WL.y rfl (Y.dF (Y.lss rfl rfl) (by omega)) ?_
                refine WL.y rfl (Y.move) ?_
                refine WL.y rfl (Y.move) ?_
                refine WL.y rfl (Y.dF (Y.gtr rfl rfl) (by omega)) ?_
                refine WL.y rfl (Y.pickF rfl) ?_
                refine WL.nil ?_
                refine WC.condF (rfl) ?_
                refine WC.skip (thenQ.normal ?_)
                refine WC.seqR rfl ?_
                refine WL.y rfl (Y.move) ?_
                refine WL.y rfl (Y.dF (Y.eqi rfl rfl) (by omega)) ?_
                refine WL.y rfl (Y.move) ?_
                refine WL.y rfl (Y.fieldAddr fi26f1 ti4 (by decide) rfl (rfl) _) ?_
                refine WL.y rfl (Y.load1 Tryd.underlying4 rfl rfl (hB.cell 1)) ?_
                refine WL.y rfl (Y.bT (Y.not rfl) (by rw [z0]; rfl)) ?_
                refine WL.y rfl (Y.pickF rfl) ?_
                refine WL.y rfl (Y.move) ?_
                refine WL.y rfl (Y.move) ?_
                refine WL.y rfl (Y.dT (Y.eqi rfl rfl) (by omega)) ?_
                refine WL.y rfl (Y.move) ?_
                refine WL.off rfl ?_
                refine WL.off rfl ?_
                refine WL.off rfl ?_
                refine WL.y rfl (Y.pickT rfl) ?_
                refine WL.y rfl (Y.pickT rfl) ?_
                refine WL.y rfl (Y.move) ?_
                refine WL.y rfl (Y.move) ?_
                refine WL.y rfl (Y.dF (Y.eqi rfl rfl) (by omega)) ?_
                refine WL.y rfl (Y.move) ?_
                refine WL.y rfl (Y.fieldAddr fi26f3 ti9 (by decide) rfl (rfl) _) ?_
                refine WL.y rfl (Y.load1 Tryd.underlying9 rfl rfl (hB.cell 3)) ?_
                refine WL.y rfl (Y.lenS Tryd.underlying9 rfl _) ?_
                refine WL.y rfl (Y.dT (Y.eqi rfl rfl) (by omega)) ?_
                refine WL.y rfl (Y.pickF rfl) ?_
                refine WL.y rfl (Y.pickT rfl) ?_
                refine WL.y rfl (Y.move) ?_
                refine WL.y rfl (Y.move) ?_
                refine WL.y rfl (Y.dF (Y.eqi rfl rfl) (by omega)) ?_
                refine WL.y rfl (Y.move) ?_
                refine WL.y rfl (Y.fieldAddr fi26f4 ti24 (by decide) rfl (rfl) _) ?_
                refine WL.y rfl (Y.load1 Tryd.underlying24 rfl rfl (hB.cell 4)) ?_
                refine WL.y rfl (Y.lenSl Tryd.underlying24 (hs.bel hb1) _) ?_
                refine WL.y rfl (Y.dF (Y.eqi rfl rfl) (by omega)) ?_
                refine WL.y rfl (Y.pickF rfl) ?_
                refine WL.y rfl (Y.pickT rfl) ?_
                refine WL.y rfl (Y.move) ?_
                refine WL.off rfl ?_
                refine WL.off rfl ?_
                refine WL.off rfl ?_
                refine WL.off rfl ?_
                refine WL.off rfl ?_
                refine WL.off rfl ?_
                refine WL.off rfl ?_
                refine WL.off rfl ?_
                refine WL.y rfl (Y.pickF rfl) ?_
                refine WL.y rfl (Y.assign) ?_
                refine WL.nil ?_
                refine WC.ret (endQ.one (.inr rfl) ?_)
                exact ⟨congrArg Value.bool e.symm, hb1⟩
            · skip
              have e : bareV v = false := decide_eq_false (fun h => (h.2.2.2.1).elim (fun e => by omega) z2)
              refine WC.seqR rfl ?_
              refine WL.y rfl (Y.move) ?_
              refine WL.y rfl (Y.dF (Y.lss rfl rfl) (by omega)) ?_
              refine WL.y rfl (Y.move) ?_
              refine WL.y rfl (Y.move) ?_
              refine WL.y rfl (Y.dF (Y.gtr rfl rfl) (by omega)) ?_
              refine WL.y rfl (Y.pickF rfl) ?_
              refine WL.nil ?_
              refine WC.condF (rfl) ?_
              refine WC.skip (thenQ.normal ?_)
              refine WC.seqR rfl ?_
              refine WL.y rfl (Y.move) ?_
              refine WL.y rfl (Y.dF (Y.eqi rfl rfl) (by omega)) ?_
              refine WL.y rfl (Y.move) ?_
              refine WL.y rfl (Y.fieldAddr fi26f1 ti4 (by decide) rfl (rfl) _) ?_
              refine WL.y rfl (Y.load1 Tryd.underlying4 rfl rfl (hB.cell 1)) ?_
              refine WL.y rfl (Y.bT (Y.not rfl) (by rw [z0]; rfl)) ?_
              refine WL.y rfl (Y.pickF rfl) ?_
              refine WL.y rfl (Y.move) ?_
              refine WL.y rfl (Y.move) ?_
              refine WL.y rfl (Y.dT (Y.eqi rfl rfl) (by omega)) ?_
              refine WL.y rfl (Y.move) ?_
              refine WL.off rfl ?_
              refine WL.off rfl ?_
              refine WL.off rfl ?_
              refine WL.y rfl (Y.pickT rfl) ?_
              refine WL.y rfl (Y.pickT rfl) ?_
              refine WL.y rfl (Y.move) ?_
              refine WL.y rfl (Y.move) ?_
              refine WL.y rfl (Y.dF (Y.eqi rfl rfl) (by omega)) ?_
              refine WL.y rfl (Y.move) ?_
              refine WL.y rfl (Y.fieldAddr fi26f3 ti9 (by decide) rfl (rfl) _) ?_
              refine WL.y rfl (Y.load1 Tryd.underlying9 rfl rfl (hB.cell 3)) ?_
              refine WL.y rfl (Y.lenS Tryd.underlying9 rfl _) ?_
              refine WL.y rfl (Y.dF (Y.eqi rfl rfl) (by omega)) ?_
              refine WL.y rfl (Y.pickF rfl) ?_
              refine WL.y rfl (Y.pickT rfl) ?_
              refine WL.y rfl (Y.move) ?_
              refine WL.off rfl ?_
              refine WL.off rfl ?_
              refine WL.off rfl ?_
              refine WL.off rfl ?_
              refine WL.off rfl ?_
              refine WL.off rfl ?_
              refine WL.off rfl ?_
              refine WL.off rfl ?_
              refine WL.y rfl (Y.pickF rfl) ?_
              refine WL.y rfl (Y.move) ?_
              refine WL.off rfl ?_
              refine WL.off rfl ?_
              refine WL.off rfl ?_
              refine WL.off rfl ?_
              refine WL.off rfl ?_
              refine WL.off rfl ?_
              refine WL.off rfl ?_
              refine WL.off rfl ?_
              refine WL.y rfl (Y.pickF rfl) ?_
              refine WL.y rfl (Y.assign) ?_
              refine WL.nil ?_
              refine WC.ret (endQ.one (.inr rfl) ?_)
              exact ⟨congrArg Value.bool e.symm, hb1⟩
          · skip
            by_cases z1 : v.i = 0
            · skip
              by_cases k2 : v.k = 4
              · skip
                by_cases z3 : v.l.length = 0
                · skip
                  by_cases z4 : v.vs.length = 0
                  · skip
                    have e : bareV v = true := decide_eq_true ⟨⟨by omega, by omega⟩, .inr z0, .inr z1, .inl k2, .inr z3, .inr z4⟩
                    refine WC.seqR rfl ?_
                    refine WL.y rfl (Y.move) ?_
                    refine WL.y rfl (Y.dF (Y.lss rfl rfl) (by omega)) ?_
                    refine WL.y rfl (Y.move) ?_
                    refine WL.y rfl (Y.move) ?_
                    refine WL.y rfl (Y.dF (Y.gtr rfl rfl) (by omega)) ?_
                    refine WL.y rfl (Y.pickF rfl) ?_
                    refine WL.nil ?_
                    refine WC.condF (rfl) ?_
                    refine WC.skip (thenQ.normal ?_)
                    refine WC.seqR rfl ?_
                    refine WL.y rfl (Y.move) ?_
                    refine WL.y rfl (Y.dF (Y.eqi rfl rfl) (by omega)) ?_
                    refine WL.y rfl (Y.move) ?_
                    refine WL.y rfl (Y.fieldAddr fi26f1 ti4 (by decide) rfl (rfl) _) ?_
                    refine WL.y rfl (Y.load1 Tryd.underlying4 rfl rfl (hB.cell 1)) ?_
                    refine WL.y rfl (Y.bT (Y.not rfl) (by rw [z0]; rfl)) ?_
                    refine WL.y rfl (Y.pickF rfl) ?_
                    refine WL.y rfl (Y.move) ?_
                    refine WL.y rfl (Y.move) ?_
                    refine WL.y rfl (Y.dF (Y.eqi rfl rfl) (by omega)) ?_
                    refine WL.y rfl (Y.move) ?_
                    refine WL.y rfl (Y.fieldAddr fi26f2 ti2 (by decide) rfl (rfl) _) ?_
                    refine WL.y rfl (Y.load1 Tryd.underlying2 rfl rfl (hB.cell 2)) ?_
                    refine WL.y rfl (Y.dT (Y.eqi rfl rfl) (by omega)) ?_
                    refine WL.y rfl (Y.pickF rfl) ?_
                    refine WL.y rfl (Y.pickT rfl) ?_
                    refine WL.y rfl (Y.move) ?_
                    refine WL.y rfl (Y.move) ?_
                    refine WL.y rfl (Y.dT (Y.eqi rfl rfl) (by omega)) ?_
                    refine WL.y rfl (Y.move) ?_
                    refine WL.off rfl ?_
                    refine WL.off rfl ?_
                    refine WL.off rfl ?_
                    refine WL.off rfl ?_
                    refine WL.y rfl (Y.pickT rfl) ?_
                    refine WL.y rfl (Y.pickT rfl) ?_
                    refine WL.y rfl (Y.move) ?_
                    refine WL.y rfl (Y.move) ?_
                    refine WL.y rfl (Y.dF (Y.eqi rfl rfl) (by omega)) ?_
                    refine WL.y rfl (Y.move) ?_
                    refine WL.y rfl (Y.fieldAddr fi26f4 ti24 (by decide) rfl (rfl) _) ?_
                    refine WL.y rfl (Y.load1 Tryd.underlying24 rfl rfl (hB.cell 4)) ?_
                    refine WL.y rfl (Y.lenSl Tryd.underlying24 (hs.bel hb1) _) ?_
                    refine WL.y rfl (Y.dT (Y.eqi rfl rfl) (by omega)) ?_
                    refine WL.y rfl (Y.pickF rfl) ?_
                    refine WL.y rfl (Y.pickT rfl) ?_
                    refine WL.y rfl (Y.move) ?_
                    refine WL.y rfl (Y.move) ?_
                    refine WL.y rfl (Y.dF (Y.eqi rfl rfl) (by omega)) ?_
                    refine WL.y rfl (Y.move) ?_
                    refine WL.y rfl (Y.fieldAddr fi26f5 ti22 (by decide) rfl (rfl) _) ?_
                    refine WL.y rfl (Y.load1 Tryd.underlying22 rfl rfl (hB.cell 5)) ?_
                    refine WL.y rfl (Y.lenSl Tryd.underlying22 (ho.bel hb1) _) ?_
                    refine WL.y rfl (Y.dT (Y.eqi rfl rfl) (by omega)) ?_
                    refine WL.y rfl (Y.pickF rfl) ?_
                    refine WL.y rfl (Y.pickT rfl) ?_
                    refine WL.y rfl (Y.assign) ?_
                    refine WL.nil ?_
                    refine WC.ret (endQ.one (.inr rfl) ?_)
                    exact ⟨congrArg Value.bool e.symm, hb1⟩
                  · skip
                    have e : bareV v = false := decide_eq_false (fun h => (h.2.2.2.2.2).elim (fun e => by omega) z4)
                    refine WC.seqR rfl ?_
                    refine WL.y rfl (Y.move) ?_
                    refine WL.y rfl (Y.dF (Y.lss rfl rfl) (by omega)) ?_
                    refine WL.y rfl (Y.move) ?_
                    refine WL.y rfl (Y.move) ?_
                    refine WL.y rfl (Y.dF (Y.gtr rfl rfl) (by omega)) ?_
                    refine WL.y rfl (Y.pickF rfl) ?_
                    refine WL.nil ?_
                    refine WC.condF (rfl) ?_
                    refine WC.skip (thenQ.normal ?_)
                    refine WC.seqR rfl ?_
                    refine WL.y rfl (Y.move) ?_
                    refine WL.y rfl (Y.dF (Y.eqi rfl rfl) (by omega)) ?_
                    refine WL.y rfl (Y.move) ?_
                    refine WL.y rfl (Y.fieldAddr fi26f1 ti4 (by decide) rfl (rfl) _) ?_
                    refine WL.y rfl (Y.load1 Tryd.underlying4 rfl rfl (hB.cell 1)) ?_
                    refine WL.y rfl (Y.bT (Y.not rfl) (by rw [z0]; rfl)) ?_
                    refine WL.y rfl (Y.pickF rfl) ?_
                    refine WL.y rfl (Y.move) ?_
                    refine WL.y rfl (Y.move) ?_
                    refine WL.y rfl (Y.dF (Y.eqi rfl rfl) (by omega)) ?_
                    refine WL.y rfl (Y.move) ?_
                    refine WL.y rfl (Y.fieldAddr fi26f2 ti2 (by decide) rfl (rfl) _) ?_
                    refine WL.y rfl (Y.load1 Tryd.underlying2 rfl rfl (hB.cell 2)) ?_
                    refine WL.y rfl (Y.dT (Y.eqi rfl rfl) (by omega)) ?_
                    refine WL.y rfl (Y.pickF rfl) ?_
                    refine WL.y rfl (Y.pickT rfl) ?_
                    refine WL.y rfl (Y.move) ?_
                    refine WL.y rfl (Y.move) ?_
                    refine WL.y rfl (Y.dT (Y.eqi rfl rfl) (by omega)) ?_
                    refine WL.y rfl (Y.move) ?_
                    refine WL.off rfl ?_
                    refine WL.off rfl ?_
                    refine WL.off rfl ?_
                    refine WL.off rfl ?_
                    refine WL.y rfl (Y.pickT rfl) ?_
                    refine WL.y rfl (Y.pickT rfl) ?_
                    refine WL.y rfl (Y.move) ?_
                    refine WL.y rfl (Y.move) ?_
                    refine WL.y rfl (Y.dF (Y.eqi rfl rfl) (by omega)) ?_
                    refine WL.y rfl (Y.move) ?_
                    refine WL.y rfl (Y.fieldAddr fi26f4 ti24 (by decide) rfl (rfl) _) ?_
                    refine WL.y rfl (Y.load1 Tryd.underlying24 rfl rfl (hB.cell 4)) ?_
                    refine WL.y rfl (Y.lenSl Tryd.underlying24 (hs.bel hb1) _) ?_
                    refine WL.y rfl (Y.dT (Y.eqi rfl rfl) (by omega)) ?_
                    refine WL.y rfl (Y.pickF rfl) ?_
                    refine WL.y rfl (Y.pickT rfl) ?_
                    refine WL.y rfl (Y.move) ?_
                    refine WL.y rfl (Y.move) ?_
                    refine WL.y rfl (Y.dF (Y.eqi rfl rfl) (by omega)) ?_
                    refine WL.y rfl (Y.move) ?_
                    refine WL.y rfl (Y.fieldAddr fi26f5 ti22 (by decide) rfl (rfl) _) ?_
                    refine WL.y rfl (Y.load1 Tryd.underlying22 rfl rfl (hB.cell 5)) ?_
                    refine WL.y rfl (Y.lenSl Tryd.underlying22 (ho.bel hb1) _) ?_
                    refine WL.y rfl (Y.dF (Y.eqi rfl rfl) (by omega)) ?_
                    refine WL.y rfl (Y.pickF rfl) ?_
                    refine WL.y rfl (Y.pickT rfl) ?_
                    refine WL.y rfl (Y.assign) ?_
                    refine WL.nil ?_
                    refine WC.ret (endQ.one (.inr rfl) ?_)
                    exact ⟨congrArg Value.bool e.symm, hb1⟩
                · skip
                  have e : bareV v = false := decide_eq_false (fun h => (h.2.2.2.2.1).elim (fun e => by omega) z3)
                  refine WC.seqR rfl ?_
                  refine WL.y rfl (Y.move) ?_
                  refine WL.y rfl (Y.dF (Y.lss rfl rfl) (by omega)) ?_
                  refine WL.y rfl (Y.move) ?_
                  refine WL.y rfl (Y.move) ?_
                  refine WL.y rfl (Y.dF (Y.gtr rfl rfl) (by omega)) ?_
                  refine WL.y rfl (Y.pickF rfl) ?_
                  refine WL.nil ?_
                  refine WC.condF (rfl) ?_
                  refine WC.skip (thenQ.normal ?_)
                  refine WC.seqR rfl ?_
                  refine WL.y rfl (Y.move) ?_
                  refine WL.y rfl (Y.dF (Y.eqi rfl rfl) (by omega)) ?_
                  refine WL.y rfl (Y.move) ?_
                  refine WL.y rfl (Y.fieldAddr fi26f1 ti4 (by decide) rfl (rfl) _) ?_
                  refine WL.y rfl (Y.load1 Tryd.underlying4 rfl rfl (hB.cell 1)) ?_
                  refine WL.y rfl (Y.bT (Y.not rfl) (by rw [z0]; rfl)) ?_
                  refine WL.y rfl (Y.pickF rfl) ?_
                  refine WL.y rfl (Y.move) ?_
                  refine WL.y rfl (Y.move) ?_
                  refine WL.y rfl (Y.dF (Y.eqi rfl rfl) (by omega)) ?_
                  refine WL.y rfl (Y.move) ?_
                  refine WL.y rfl (Y.fieldAddr fi26f2 ti2 (by decide) rfl (rfl) _) ?_
                  refine WL.y rfl (Y.load1 Tryd.underlying2 rfl rfl (hB.cell 2)) ?_
                  refine WL.y rfl (Y.dT (Y.eqi rfl rfl) (by omega)) ?_
                  refine WL.y rfl (Y.pickF rfl) ?_
                  refine WL.y rfl (Y.pickT rfl) ?_
                  refine WL.y rfl (Y.move) ?_
                  refine WL.y rfl (Y.move) ?_
                  refine WL.y rfl (Y.dT (Y.eqi rfl rfl) (by omega)) ?_
                  refine WL.y rfl (Y.move) ?_
                  refine WL.off rfl ?_
                  refine WL.off rfl ?_
                  refine WL.off rfl ?_
                  refine WL.off rfl ?_
                  refine WL.y rfl (Y.pickT rfl) ?_
                  refine WL.y rfl (Y.pickT rfl) ?_
                  refine WL.y rfl (Y.move) ?_
                  refine WL.y rfl (Y.move) ?_
                  refine WL.y rfl (Y.dF (Y.eqi rfl rfl) (by omega)) ?_
                  refine WL.y rfl (Y.move) ?_
                  refine WL.y rfl (Y.fieldAddr fi26f4 ti24 (by decide) rfl (rfl) _) ?_
                  refine WL.y rfl (Y.load1 Tryd.underlying24 rfl rfl (hB.cell 4)) ?_
                  refine WL.y rfl (Y.lenSl Tryd.underlying24 (hs.bel hb1) _) ?_
                  refine WL.y rfl (Y.dF (Y.eqi rfl rfl) (by omega)) ?_
                  refine WL.y rfl (Y.pickF rfl) ?_
                  refine WL.y rfl (Y.pickT rfl) ?_
                  refine WL.y rfl (Y.move) ?_
                  refine WL.off rfl ?_
                  refine WL.off rfl ?_
                  refine WL.off rfl ?_
                  refine WL.off rfl ?_
                  refine WL.off rfl ?_
                  refine WL.off rfl ?_
                  refine WL.off rfl ?_
                  refine WL.off rfl ?_
                  refine WL.y rfl (Y.pickF rfl) ?_
                  refine WL.y rfl (Y.assign) ?_
                  refine WL.nil ?_
                  refine WC.ret (endQ.one (.inr rfl) ?_)
                  exact ⟨congrArg Value.bool e.symm, hb1⟩
              · skip
                by_cases z2 : v.t.length = 0
                · skip
                  by_cases k3 : v.k = 5
                  · skip
                    by_cases z4 : v.vs.length = 0
                    · skip
                      have e : bareV v = true := decide_eq_true ⟨⟨by omega, by omega⟩, .inr z0, .inr z1, .inr z2, .inl k3, .inr z4⟩
                      refine WC.seqR rfl ?_
                      refine WL.y rfl (Y.move) ?_
                      refine WL.y rfl (Y.dF (Y.lss rfl rfl) (by omega)) ?_
                      refine WL.y rfl (Y.move) ?_
                      refine WL.y rfl (Y.move) ?_
                      refine WL.y rfl (Y.dF (Y.gtr rfl rfl) (by omega)) ?_
                      refine WL.y rfl (Y.pickF rfl) ?_
                      refine WL.nil ?_
                      refine WC.condF (rfl) ?_
                      refine WC.skip (thenQ.normal ?_)
                      refine WC.seqR rfl ?_
                      refine WL.y rfl (Y.move) ?_
                      refine WL.y rfl (Y.dF (Y.eqi rfl rfl) (by omega)) ?_
                      refine WL.y rfl (Y.move) ?_
                      refine WL.y rfl (Y.fieldAddr fi26f1 ti4 (by decide) rfl (rfl) _) ?_
                      refine WL.y rfl (Y.load1 Tryd.underlying4 rfl rfl (hB.cell 1)) ?_
                      refine WL.y rfl (Y.bT (Y.not rfl) (by rw [z0]; rfl)) ?_
                      refine WL.y rfl (Y.pickF rfl) ?_
                      refine WL.y rfl (Y.move) ?_
                      refine WL.y rfl (Y.move) ?_
                      refine WL.y rfl (Y.dF (Y.eqi rfl rfl) (by omega)) ?_
                      refine WL.y rfl (Y.move) ?_
                      refine WL.y rfl (Y.fieldAddr fi26f2 ti2 (by decide) rfl (rfl) _) ?_
                      refine WL.y rfl (Y.load1 Tryd.underlying2 rfl rfl (hB.cell 2)) ?_
                      refine WL.y rfl (Y.dT (Y.eqi rfl rfl) (by omega)) ?_
                      refine WL.y rfl (Y.pickF rfl) ?_
                      refine WL.y rfl (Y.pickT rfl) ?_
                      refine WL.y rfl (Y.move) ?_
                      refine WL.y rfl (Y.move) ?_
                      refine WL.y rfl (Y.dF (Y.eqi rfl rfl) (by omega)) ?_
                      refine WL.y rfl (Y.move) ?_
                      refine WL.y rfl (Y.fieldAddr fi26f3 ti9 (by decide) rfl (rfl) _) ?_
                      refine WL.y rfl (Y.load1 Tryd.underlying9 rfl rfl (hB.cell 3)) ?_
                      refine WL.y rfl (Y.lenS Tryd.underlying9 rfl _) ?_
                      refine WL.y rfl (Y.dT (Y.eqi rfl rfl) (by omega)) ?_
                      refine WL.y rfl (Y.pickF rfl) ?_
                      refine WL.y rfl (Y.pickT rfl) ?_
                      refine WL.y rfl (Y.move) ?_
                      refine WL.y rfl (Y.move) ?_
                      refine WL.y rfl (Y.dT (Y.eqi rfl rfl) (by omega)) ?_
                      refine WL.y rfl (Y.move) ?_
                      refine WL.off rfl ?_
                      refine WL.off rfl ?_
                      refine WL.off rfl ?_
                      refine WL.off rfl ?_
                      refine WL.y rfl (Y.pickT rfl) ?_
                      refine WL.y rfl (Y.pickT rfl) ?_
                      refine WL.y rfl (Y.move) ?_
                      refine WL.y rfl (Y.move) ?_
                      refine WL.y rfl (Y.dF (Y.eqi rfl rfl) (by omega)) ?_
                      refine WL.y rfl (Y.move) ?_
                      refine WL.y rfl (Y.fieldAddr fi26f5 ti22 (by decide) rfl (rfl) _) ?_
                      refine WL.y rfl (Y.load1 Tryd.underlying22 rfl rfl (hB.cell 5)) ?_
                      refine WL.y rfl (Y.lenSl Tryd.underlying22 (ho.bel hb1) _) ?_
                      refine WL.y rfl (Y.dT (Y.eqi rfl rfl) (by omega)) ?_
                      refine WL.y rfl (Y.pickF rfl) ?_
                      refine WL.y rfl (Y.pickT rfl) ?_
                      refine WL.y rfl (Y.assign) ?_
                      refine WL.nil ?_
                      refine WC.ret (endQ.one (.inr rfl) ?_)
                      exact ⟨congrArg Value.bool e.symm, hb1⟩
                    · skip
                      have e : bareV v = false := decide_eq_false (fun h => (h.2.2.2.2.2).elim (fun e => by omega) z4)
                      refine WC.seqR rfl ?_
                      refine WL.y rfl (Y.move) ?_
                      refine WL.y rfl (Y.dF (Y.lss rfl rfl) (by omega)) ?_
                      refine WL.y rfl (Y.move) ?_
                      refine WL.y rfl (Y.move) ?_
                      refine WL.y rfl (Y.dF (Y.gtr rfl rfl) (by omega)) ?_
                      refine WL.y rfl (Y.pickF rfl) ?_
                      refine WL.nil ?_
                      refine WC.condF (rfl) ?_
                      refine WC.skip (thenQ.normal ?_)
                      refine WC.seqR rfl ?_
                      refine WL.y rfl (Y.move) ?_
                      refine WL.y rfl (Y.dF (Y.eqi rfl rfl) (by omega)) ?_
                      refine WL.y rfl (Y.move) ?_
                      refine WL.y rfl (Y.fieldAddr fi26f1 ti4 (by decide) rfl (rfl) _) ?_
                      refine WL.y rfl (Y.load1 Tryd.underlying4 rfl rfl (hB.cell 1)) ?_
                      refine WL.y rfl (Y.bT (Y.not rfl) (by rw [z0]; rfl)) ?_
                      refine WL.y rfl (Y.pickF rfl) ?_
                      refine WL.y rfl (Y.move) ?_
                      refine WL.y rfl (Y.move) ?_
                      refine WL.y rfl (Y.dF (Y.eqi rfl rfl) (by omega)) ?_
                      refine WL.y rfl (Y.move) ?_
                      refine WL.y rfl (Y.fieldAddr fi26f2 ti2 (by decide) rfl (rfl) _) ?_
                      refine WL.y rfl (Y.load1 Tryd.underlying2 rfl rfl (hB.cell 2)) ?_
                      refine WL.y rfl (Y.dT (Y.eqi rfl rfl) (by omega)) ?_
                      refine WL.y rfl (Y.pickF rfl) ?_
                      refine WL.y rfl (Y.pickT rfl) ?_
                      refine WL.y rfl (Y.move) ?_
                      refine WL.y rfl (Y.move) ?_
                      refine WL.y rfl (Y.dF (Y.eqi rfl rfl) (by omega)) ?_
                      refine WL.y rfl (Y.move) ?_
                      refine WL.y rfl (Y.fieldAddr fi26f3 ti9 (by decide) rfl (rfl) _) ?_
                      refine WL.y rfl (Y.load1 Tryd.underlying9 rfl rfl (hB.cell 3)) ?_
                      refine WL.y rfl (Y.lenS Tryd.underlying9 rfl _) ?_
                      refine WL.y rfl (Y.dT (Y.eqi rfl rfl) (by omega)) ?_
                      refine WL.y rfl (Y.pickF rfl) ?_
                      refine WL.y rfl (Y.pickT rfl) ?_
                      refine WL.y rfl (Y.move) ?_
                      refine WL.y rfl (Y.move) ?_
                      refine WL.y rfl (Y.dT (Y.eqi rfl rfl) (by omega)) ?_
                      refine WL.y rfl (Y.move) ?_
                      refine WL.off rfl ?_
                      refine WL.off rfl ?_
                      refine WL.off rfl ?_
                      refine WL.off rfl ?_
                      refine WL.y rfl (Y.pickT rfl) ?_
                      refine WL.y rfl (Y.pickT rfl) ?_
                      refine WL.y rfl (Y.move) ?_
                      refine WL.y rfl (Y.move) ?_
                      refine WL.y rfl (Y.dF (Y.eqi rfl rfl) (by omega)) ?_
                      refine WL.y rfl (Y.move) ?_
                      refine WL.y rfl (Y.fieldAddr fi26f5 ti22 (by decide) rfl (rfl) _) ?_
                      refine WL.y rfl (Y.load1 Tryd.underlying22 rfl rfl (hB.cell 5)) ?_
                      refine WL.y rfl (Y.lenSl Tryd.underlying22 (ho.bel hb1) _) ?_
                      refine WL.y rfl (Y.dF (Y.eqi rfl rfl) (by omega)) ?_
                      refine WL.y rfl (Y.pickF rfl) ?_
                      refine WL.y rfl (Y.pickT rfl) ?_
                      refine WL.y rfl (Y.assign) ?_
                      refine WL.nil ?_
                      refine WC.ret (endQ.one (.inr rfl) ?_)
                      exact ⟨congrArg Value.bool e.symm, hb1⟩
                  · skip
                    by_cases z3 : v.l.length = 0
                    · skip
                      by_cases k4 : v.k = 6
                      · skip
                        have e : bareV v = true := decide_eq_true ⟨⟨by omega, by omega⟩, .inr z0, .inr z1, .inr z2, .inr z3, .inl k4⟩
                        refine WC.seqR rfl ?_
                        refine WL.y rfl (Y.move) ?_
                        refine WL.y rfl (Y.dF (Y.lss rfl rfl) (by omega)) ?_
                        refine WL.y rfl (Y.move) ?_
                        refine WL.y rfl (Y.move) ?_
                        refine WL.y rfl (Y.dF (Y.gtr rfl rfl) (by omega)) ?_
                        refine WL.y rfl (Y.pickF rfl) ?_
                        refine WL.nil ?_
                        refine WC.condF (rfl) ?_
                        refine WC.skip (thenQ.normal ?_)
                        refine WC.seqR rfl ?_
                        refine WL.y rfl (Y.move) ?_
                        refine WL.y rfl (Y.dF (Y.eqi rfl rfl) (by omega)) ?_
                        refine WL.y rfl (Y.move) ?_
                        refine WL.y rfl (Y.fieldAddr fi26f1 ti4 (by decide) rfl (rfl) _) ?_
                        refine WL.y rfl (Y.load1 Tryd.underlying4 rfl rfl (hB.cell 1)) ?_
                        refine WL.y rfl (Y.bT (Y.not rfl) (by rw [z0]; rfl)) ?_
                        refine WL.y rfl (Y.pickF rfl) ?_
                        refine WL.y rfl (Y.move) ?_
                        refine WL.y rfl (Y.move) ?_
                        refine WL.y rfl (Y.dF (Y.eqi rfl rfl) (by omega)) ?_
                        refine WL.y rfl (Y.move) ?_
                        refine WL.y rfl (Y.fieldAddr fi26f2 ti2 (by decide) rfl (rfl) _) ?_
                        refine WL.y rfl (Y.load1 Tryd.underlying2 rfl rfl (hB.cell 2)) ?_
                        refine WL.y rfl (Y.dT (Y.eqi rfl rfl) (by omega)) ?_
                        refine WL.y rfl (Y.pickF rfl) ?_
                        refine WL.y rfl (Y.pickT rfl) ?_
                        refine WL.y rfl (Y.move) ?_
                        refine WL.y rfl (Y.move) ?_
                        refine WL.y rfl (Y.dF (Y.eqi rfl rfl) (by omega)) ?_
                        refine WL.y rfl (Y.move) ?_
                        refine WL.y rfl (Y.fieldAddr fi26f3 ti9 (by decide) rfl (rfl) _) ?_
                        refine WL.y rfl (Y.load1 Tryd.underlying9 rfl rfl (hB.cell 3)) ?_
                        refine WL.y rfl (Y.lenS Tryd.underlying9 rfl _) ?_
                        refine WL.y rfl (Y.dT (Y.eqi rfl rfl) (by omega)) ?_
                        refine WL.y rfl (Y.pickF rfl) ?_
                        refine WL.y rfl (Y.pickT rfl) ?_
                        refine WL.y rfl (Y.move) ?_
                        refine WL.y rfl (Y.move) ?_
                        refine WL.y rfl (Y.dF (Y.eqi rfl rfl) (by omega)) ?_
                        refine WL.y rfl (Y.move) ?_
                        refine WL.y rfl (Y.fieldAddr fi26f4 ti24 (by decide) rfl (rfl) _) ?_
                        refine WL.y rfl (Y.load1 Tryd.underlying24 rfl rfl (hB.cell 4)) ?_
                        refine WL.y rfl (Y.lenSl Tryd.underlying24 (hs.bel hb1) _) ?_
                        refine WL.y rfl (Y.dT (Y.eqi rfl rfl) (by omega)) ?_
                        refine WL.y rfl (Y.pickF rfl) ?_
                        refine WL.y rfl (Y.pickT rfl) ?_
                        refine WL.y rfl (Y.move) ?_
                        refine WL.y rfl (Y.move) ?_
                        refine WL.y rfl (Y.dT (Y.eqi rfl rfl) (by omega)) ?_
                        refine WL.y rfl (Y.move) ?_
                        refine WL.off rfl ?_
                        refine WL.off rfl ?_
                        refine WL.off rfl ?_
                        refine WL.off rfl ?_
                        refine WL.y rfl (Y.pickT rfl) ?_
                        refine WL.y rfl (Y.pickT rfl) ?_
                        refine WL.y rfl (Y.assign) ?_
                        refine WL.nil ?_
                        refine WC.ret (endQ.one (.inr rfl) ?_)
                        exact ⟨congrArg Value.bool e.symm, hb1⟩
                      · skip
                        by_cases z4 : v.vs.length = 0
                        · skip
                          have e : bareV v = true := decide_eq_true ⟨⟨by omega, by omega⟩, .inr z0, .inr z1, .inr z2, .inr z3, .inr z4⟩
                          refine WC.seqR rfl ?_
                          refine WL.y rfl (Y.move) ?_
                          refine WL.y rfl (Y.dF (Y.lss rfl rfl) (by omega)) ?_
                          refine WL.y rfl (Y.move) ?_
                          refine WL.y rfl (Y.move) ?_
                          refine WL.y rfl (Y.dF (Y.gtr rfl rfl) (by omega)) ?_
                          refine WL.y rfl (Y.pickF rfl) ?_
                          refine WL.nil ?_
                          refine WC.condF (rfl) ?_
                          refine WC.skip (thenQ.normal ?_)
                          refine WC.seqR rfl ?_
                          refine WL.y rfl (Y.move) ?_
                          refine WL.y rfl (Y.dF (Y.eqi rfl rfl) (by omega)) ?_
                          refine WL.y rfl (Y.move) ?_
                          refine WL.y rfl (Y.fieldAddr fi26f1 ti4 (by decide) rfl (rfl) _) ?_
                          refine WL.y rfl (Y.load1 Tryd.underlying4 rfl rfl (hB.cell 1)) ?_
                          refine WL.y rfl (Y.bT (Y.not rfl) (by rw [z0]; rfl)) ?_
                          refine WL.y rfl (Y.pickF rfl) ?_
                          refine WL.y rfl (Y.move) ?_
                          refine WL.y rfl (Y.move) ?_
                          refine WL.y rfl (Y.dF (Y.eqi rfl rfl) (by omega)) ?_
                          refine WL.y rfl (Y.move) ?_
                          refine WL.y rfl (Y.fieldAddr fi26f2 ti2 (by decide) rfl (rfl) _) ?_
                          refine WL.y rfl (Y.load1 Tryd.underlying2 rfl rfl (hB.cell 2)) ?_
                          refine WL.y rfl (Y.dT (Y.eqi rfl rfl) (by omega)) ?_
                          refine WL.y rfl (Y.pickF rfl) ?_
                          refine WL.y rfl (Y.pickT rfl) ?_
                          refine WL.y rfl (Y.move) ?_
                          refine WL.y rfl (Y.move) ?_
                          refine WL.y rfl (Y.dF (Y.eqi rfl rfl) (by omega)) ?_
                          refine WL.y rfl (Y.move) ?_
                          refine WL.y rfl (Y.fieldAddr fi26f3 ti9 (by decide) rfl (rfl) _) ?_
                          refine WL.y rfl (Y.load1 Tryd.underlying9 rfl rfl (hB.cell 3)) ?_
                          refine WL.y rfl (Y.lenS Tryd.underlying9 rfl _) ?_
                          refine WL.y rfl (Y.dT (Y.eqi rfl rfl) (by omega)) ?_
                          refine WL.y rfl (Y.pickF rfl) ?_
                          refine WL.y rfl (Y.pickT rfl) ?_
                          refine WL.y rfl (Y.move) ?_
                          refine WL.y rfl (Y.move) ?_
                          refine WL.y rfl (Y.dF (Y.eqi rfl rfl) (by omega)) ?_
                          refine WL.y rfl (Y.move) ?_
                          refine WL.y rfl (Y.fieldAddr fi26f4 ti24 (by decide) rfl (rfl) _) ?_
                          refine WL.y rfl (Y.load1 Tryd.underlying24 rfl rfl (hB.cell 4)) ?_
                          refine WL.y rfl (Y.lenSl Tryd.underlying24 (hs.bel hb1) _) ?_
                          refine WL.y rfl (Y.dT (Y.eqi rfl rfl) (by omega)) ?_
                          refine WL.y rfl (Y.pickF rfl) ?_
                          refine WL.y rfl (Y.pickT rfl) ?_
                          refine WL.y rfl (Y.move) ?_
                          refine WL.y rfl (Y.move) ?_
                          refine WL.y rfl (Y.dF (Y.eqi rfl rfl) (by omega)) ?_
                          refine WL.y rfl (Y.move) ?_
                          refine WL.y rfl (Y.fieldAddr fi26f5 ti22 (by decide) rfl (rfl) _) ?_
                          refine WL.y rfl (Y.load1 Tryd.underlying22 rfl rfl (hB.cell 5)) ?_
                          refine WL.y rfl (Y.lenSl Tryd.underlying22 (ho.bel hb1) _) ?_
                          refine WL.y rfl (Y.dT (Y.eqi rfl rfl) (by omega)) ?_
                          refine WL.y rfl (Y.pickF rfl) ?_
                          refine WL.y rfl (Y.pickT rfl) ?_
                          refine WL.y rfl (Y.assign) ?_
                          refine WL.nil ?_
                          refine WC.ret (endQ.one (.inr rfl) ?_)
                          exact ⟨congrArg Value.bool e.symm, hb1⟩
                        · skip
                          have e : bareV v = false := decide_eq_false (fun h => (h.2.2.2.2.2).elim (fun e => by omega) z4)
                          refine WC.seqR rfl ?_
                          refine WL.y rfl (Y.move) ?_
                          refine WL.y rfl (Y.dF (Y.lss rfl rfl) (by omega)) ?_
                          refine WL.y rfl (Y.move) ?_
                          refine WL.y rfl (Y.move) ?_
                          refine WL.y rfl (Y.dF (Y.gtr rfl rfl) (by omega)) ?_
                          refine WL.y rfl (Y.pickF rfl) ?_
                          refine WL.nil ?_
                          refine WC.condF (rfl) ?_
                          refine WC.skip (thenQ.normal ?_)
                          refine WC.seqR rfl ?_
                          refine WL.y rfl (Y.move) ?_
                          refine WL.y rfl (Y.dF (Y.eqi rfl rfl) (by omega)) ?_
                          refine WL.y rfl (Y.move) ?_
                          refine WL.y rfl (Y.fieldAddr fi26f1 ti4 (by decide) rfl (rfl) _) ?_
                          refine WL.y rfl (Y.load1 Tryd.underlying4 rfl rfl (hB.cell 1)) ?_
                          refine WL.y rfl (Y.bT (Y.not rfl) (by rw [z0]; rfl)) ?_
                          refine WL.y rfl (Y.pickF rfl) ?_
                          refine WL.y rfl (Y.move) ?_
                          refine WL.y rfl (Y.move) ?_
                          refine WL.y rfl (Y.dF (Y.eqi rfl rfl) (by omega)) ?_
                          refine WL.y rfl (Y.move) ?_
                          refine WL.y rfl (Y.fieldAddr fi26f2 ti2 (by decide) rfl (rfl) _) ?_
                          refine WL.y rfl (Y.load1 Tryd.underlying2 rfl rfl (hB.cell 2)) ?_
                          refine WL.y rfl (Y.dT (Y.eqi rfl rfl) (by omega)) ?_
                          refine WL.y rfl (Y.pickF rfl) ?_
                          refine WL.y rfl (Y.pickT rfl) ?_
                          refine WL.y rfl (Y.move) ?_
                          refine WL.y rfl (Y.move) ?_
                          refine WL.y rfl (Y.dF (Y.eqi rfl rfl) (by omega)) ?_
                          refine WL.y rfl (Y.move) ?_
                          refine WL.y rfl (Y.fieldAddr fi26f3 ti9 (by decide) rfl (rfl) _) ?_
                          refine WL.y rfl (Y.load1 Tryd.underlying9 rfl rfl (hB.cell 3)) ?_
                          refine WL.y rfl (Y.lenS Tryd.underlying9 rfl _) ?_
                          refine WL.y rfl (Y.dT (Y.eqi rfl rfl) (by omega)) ?_
                          refine WL.y rfl (Y.pickF rfl) ?_
                          refine WL.y rfl (Y.pickT rfl) ?_
                          refine WL.y rfl (Y.move) ?_
                          refine WL.y rfl (Y.move) ?_
                          refine WL.y rfl (Y.dF (Y.eqi rfl rfl) (by omega)) ?_
                          refine WL.y rfl (Y.move) ?_
                          refine WL.y rfl (Y.fieldAddr fi26f4 ti24 (by decide) rfl (rfl) _) ?_
                          refine WL.y rfl (Y.load1 Tryd.underlying24 rfl rfl (hB.cell 4)) ?_
                          refine WL.y rfl (Y.lenSl Tryd.underlying24 (hs.bel hb1) _) ?_
                          refine WL.y rfl (Y.dT (Y.eqi rfl rfl) (by omega)) ?_
                          refine WL.y rfl (Y.pickF rfl) ?_
                          refine WL.y rfl (Y.pickT rfl) ?_
                          refine WL.y rfl (Y.move) ?_
                          refine WL.y rfl (Y.move) ?_
                          refine WL.y rfl (Y.dF (Y.eqi rfl rfl) (by omega)) ?_
                          refine WL.y rfl (Y.move) ?_
                          refine WL.y rfl (Y.fieldAddr fi26f5 ti22 (by decide) rfl (rfl) _) ?_
                          refine WL.y rfl (Y.load1 Tryd.underlying22 rfl rfl (hB.cell 5)) ?_
                          refine WL.y rfl (Y.lenSl Tryd.underlying22 (ho.bel hb1) _) ?_
                          refine WL.y rfl (Y.dF (Y.eqi rfl rfl) (by omega)) ?_
                          refine WL.y rfl (Y.pickF rfl) ?_
                          refine WL.y rfl (Y.pickT rfl) ?_
                          refine WL.y rfl (Y.assign) ?_
                          refine WL.nil ?_
                          refine WC.ret (endQ.one (.inr rfl) ?_)
                          exact ⟨congrArg Value.bool e.symm, hb1⟩
                    · skip
                      have e : bareV v = false := decide_eq_false (fun h => (h.2.2.2.2.1).elim (fun e => by omega) z3)
                      refine WC.seqR rfl ?_
                      refine WL.y rfl (Y.move) ?_
                      refine WL.y rfl (Y.dF (Y.lss rfl rfl) (by omega)) ?_
                      refine WL.y rfl (Y.move) ?_
                      refine WL.y rfl (Y.move) ?_
                      refine WL.y rfl (Y.dF (Y.gtr rfl rfl) (by omega)) ?_
                      refine WL.y rfl (Y.pickF rfl) ?_
                      refine WL.nil ?_
                      refine WC.condF (rfl) ?_
                      refine WC.skip (thenQ.normal ?_)
                      refine WC.seqR rfl ?_
                      refine WL.y rfl (Y.move) ?_
                      refine WL.y rfl (Y.dF (Y.eqi rfl rfl) (by omega)) ?_
                      refine WL.y rfl (Y.move) ?_
                      refine WL.y rfl (Y.fieldAddr fi26f1 ti4 (by decide) rfl (rfl) _) ?_
                      refine WL.y rfl (Y.load1 Tryd.underlying4 rfl rfl (hB.cell 1)) ?_
                      refine WL.y rfl (Y.bT (Y.not rfl) (by rw [z0]; rfl)) ?_
                      refine WL.y rfl (Y.pickF rfl) ?_
                      refine WL.y rfl (Y.move) ?_
                      refine WL.y rfl (Y.move) ?_
                      refine WL.y rfl (Y.dF (Y.eqi rfl rfl) (by omega)) ?_
                      refine WL.y rfl (Y.move) ?_
                      refine WL.y rfl (Y.fieldAddr fi26f2 ti2 (by decide) rfl (rfl) _) ?_
                      refine WL.y rfl (Y.load1 Tryd.underlying2 rfl rfl (hB.cell 2)) ?_
                      refine WL.y rfl (Y.dT (Y.eqi rfl rfl) (by omega)) ?_
                      refine WL.y rfl (Y.pickF rfl) ?_
                      refine WL.y rfl (Y.pickT rfl) ?_
                      refine WL.y rfl (Y.move) ?_
                      refine WL.y rfl (Y.move) ?_
                      refine WL.y rfl (Y.dF (Y.eqi rfl rfl) (by omega)) ?_
                      refine WL.y rfl (Y.move) ?_
                      refine WL.y rfl (Y.fieldAddr fi26f3 ti9 (by decide) rfl (rfl) _) ?_
                      refine WL.y rfl (Y.load1 Tryd.underlying9 rfl rfl (hB.cell 3)) ?_
                      refine WL.y rfl (Y.lenS Tryd.underlying9 rfl _) ?_
                      refine WL.y rfl (Y.dT (Y.eqi rfl rfl) (by omega)) ?_
                      refine WL.y rfl (Y.pickF rfl) ?_
                      refine WL.y rfl (Y.pickT rfl) ?_
                      refine WL.y rfl (Y.move) ?_
                      refine WL.y rfl (Y.move) ?_
                      refine WL.y rfl (Y.dF (Y.eqi rfl rfl) (by omega)) ?_
                      refine WL.y rfl (Y.move) ?_
                      refine WL.y rfl (Y.fieldAddr fi26f4 ti24 (by decide) rfl (rfl) _) ?_
                      refine WL.y rfl (Y.load1 Tryd.underlying24 rfl rfl (hB.cell 4)) ?_
                      refine WL.y rfl (Y.lenSl Tryd.underlying24 (hs.bel hb1) _) ?_
                      refine WL.y rfl (Y.dF (Y.eqi rfl rfl) (by omega)) ?_
                      refine WL.y rfl (Y.pickF rfl) ?_
                      refine WL.y rfl (Y.pickT rfl) ?_
                      refine WL.y rfl (Y.move) ?_
                      refine WL.off rfl ?_
                      refine WL.off rfl ?_
                      refine WL.off rfl ?_
                      refine WL.off rfl ?_
                      refine WL.off rfl ?_
                      refine WL.off rfl ?_
                      refine WL.off rfl ?_
                      refine WL.off rfl ?_
                      refine WL.y rfl (Y.pickF rfl) ?_
                      refine WL.y rfl (Y.assign) ?_
                      refine WL.nil ?_
                      refine WC.ret (endQ.one (.inr rfl) ?_)
                      exact ⟨congrArg Value.bool e.symm, hb1⟩
                · skip
                  have e : bareV v = false := decide_eq_false (fun h => (h.2.2.2.1).elim (fun e => by omega) z2)
                  refine WC.seqR rfl ?_
                  refine WL.y rfl (Y.move) ?_
                  refine WL.y rfl (Y.dF (Y.lss rfl rfl) (by omega)) ?_
                  refine WL.y rfl (Y.move) ?_
                  refine WL.y rfl (Y.move) ?_
                  refine WL.y rfl (Y.dF (Y.gtr rfl rfl) (by omega)) ?_
                  refine WL.y rfl (Y.pickF rfl) ?_
                  refine WL.nil ?_
                  refine WC.condF (rfl) ?_
                  refine WC.skip (thenQ.normal ?_)
                  refine WC.seqR rfl ?_
                  refine WL.y rfl (Y.move) ?_
                  refine WL.y rfl (Y.dF (Y.eqi rfl rfl) (by omega)) ?_
                  refine WL.y rfl (Y.move) ?_
                  refine WL.y rfl (Y.fieldAddr fi26f1 ti4 (by decide) rfl (rfl) _) ?_
                  refine WL.y rfl (Y.load1 Tryd.underlying4 rfl rfl (hB.cell 1)) ?_
                  refine WL.y rfl (Y.bT (Y.not rfl) (by rw [z0]; rfl)) ?_
                  refine WL.y rfl (Y.pickF rfl) ?_
                  refine WL.y rfl (Y.move) ?_
                  refine WL.y rfl (Y.move) ?_
                  refine WL.y rfl (Y.dF (Y.eqi rfl rfl) (by omega)) ?_
                  refine WL.y rfl (Y.move) ?_
                  refine WL.y rfl (Y.fieldAddr fi26f2 ti2 (by decide) rfl (rfl) _) ?_
                  refine WL.y rfl (Y.load1 Tryd.underlying2 rfl rfl (hB.cell 2)) ?_
                  refine WL.y rfl (Y.dT (Y.eqi rfl rfl) (by omega)) ?_
                  refine WL.y rfl (Y.pickF rfl) ?_
                  refine WL.y rfl (Y.pickT rfl) ?_
                  refine WL.y rfl (Y.move) ?_
                  refine WL.y rfl (Y.move) ?_
                  refine WL.y rfl (Y.dF (Y.eqi rfl rfl) (by omega)) ?_
                  refine WL.y rfl (Y.move) ?_
                  refine WL.y rfl (Y.fieldAddr fi26f3 ti9 (by decide) rfl (rfl) _) ?_
                  refine WL.y rfl (Y.load1 Tryd.underlying9 rfl rfl (hB.cell 3)) ?_
                  refine WL.y rfl (Y.lenS Tryd.underlying9 rfl _) ?_
                  refine WL.y rfl (Y.dF (Y.eqi rfl rfl) (by omega)) ?_
                  refine WL.y rfl (Y.pickF rfl) ?_
                  refine WL.y rfl (Y.pickT rfl) ?_
                  refine WL.y rfl (Y.move) ?_
                  refine WL.off rfl ?_
                  refine WL.off rfl ?_
                  refine WL.off rfl ?_
                  refine WL.off rfl ?_
                  refine WL.off rfl ?_
                  refine WL.off rfl ?_
                  refine WL.off rfl ?_
                  refine WL.off rfl ?_
                  refine WL.y rfl (Y.pickF rfl) ?_
                  refine WL.y rfl (Y.move) ?_
                  refine WL.off rfl ?_
                  refine WL.off rfl ?_
                  refine WL.off rfl ?_
                  refine WL.off rfl ?_
                  refine WL.off rfl ?_
                  refine WL.off rfl ?_
                  refine WL.off rfl ?_
                  refine WL.off rfl ?_
                  refine WL.y rfl (Y.pickF rfl) ?_
                  refine WL.y rfl (Y.assign) ?_
                  refine WL.nil ?_
                  refine WC.ret (endQ.one (.inr rfl) ?_)
                  exact ⟨congrArg Value.bool e.symm, hb1⟩
            · skip
              have e : bareV v = false := decide_eq_false (fun h => (h.2.2.1).elim (fun e => by omega) z1)
              refine WC.seqR rfl ?_
              refine WL.y rfl (Y.move) ?_
              refine WL.y rfl (Y.dF (Y.lss rfl rfl) (by omega)) ?_
              refine WL.y rfl (Y.move) ?_
              refine WL.y rfl (Y.move) ?_
              refine WL.y rfl (Y.dF (Y.gtr rfl rfl) (by omega)) ?_
              refine WL.y rfl (Y.pickF rfl) ?_
              refine WL.nil ?_
              refine WC.condF (rfl) ?_
              refine WC.skip (thenQ.normal ?_)
              refine WC.seqR rfl ?_
              refine WL.y rfl (Y.move) ?_
              refine WL.y rfl (Y.dF (Y.eqi rfl rfl) (by omega)) ?_
              refine WL.y rfl (Y.move) ?_
              refine WL.y rfl (Y.fieldAddr fi26f1 ti4 (by decide) rfl (rfl) _) ?_
              refine WL.y rfl (Y.load1 Tryd.underlying4 rfl rfl (hB.cell 1)) ?_
              refine WL.y rfl (Y.bT (Y.not rfl) (by rw [z0]; rfl)) ?_
              refine WL.y rfl (Y.pickF rfl) ?_
              refine WL.y rfl (Y.move) ?_
              refine WL.y rfl (Y.move) ?_
              refine WL.y rfl (Y.dF (Y.eqi rfl rfl) (by omega)) ?_
              refine WL.y rfl (Y.move) ?_
              refine WL.y rfl (Y.fieldAddr fi26f2 ti2 (by decide) rfl (rfl) _) ?_
              refine WL.y rfl (Y.load1 Tryd.underlying2 rfl rfl (hB.cell 2)) ?_
              refine WL.y rfl (Y.dF (Y.eqi rfl rfl) (by omega)) ?_
              refine WL.y rfl (Y.pickF rfl) ?_
              refine WL.y rfl (Y.pickT rfl) ?_
              refine WL.y rfl (Y.move) ?_
              refine WL.off rfl ?_
              refine WL.off rfl ?_
              refine WL.off rfl ?_
              refine WL.off rfl ?_
              refine WL.off rfl ?_
              refine WL.off rfl ?_
              refine WL.off rfl ?_
              refine WL.off rfl ?_
              refine WL.y rfl (Y.pickF rfl) ?_
              refine WL.y rfl (Y.move) ?_
              refine WL.off rfl ?_
              refine WL.off rfl ?_
              refine WL.off rfl ?_
              refine WL.off rfl ?_
              refine WL.off rfl ?_
              refine WL.off rfl ?_
              refine WL.off rfl ?_
              refine WL.off rfl ?_
              refine WL.y rfl (Y.pickF rfl) ?_
              refine WL.y rfl (Y.move) ?_
              refine WL.off rfl ?_
              refine WL.off rfl ?_
              refine WL.off rfl ?_
              refine WL.off rfl ?_
              refine WL.off rfl ?_
              refine WL.off rfl ?_
              refine WL.off rfl ?_
              refine WL.off rfl ?_
              refine WL.y rfl (Y.pickF rfl) ?_
              refine WL.y rfl (Y.assign) ?_
              refine WL.nil ?_
              refine WC.ret (endQ.one (.inr rfl) ?_)
              exact ⟨congrArg Value.bool e.symm, hb1⟩
        · skip
          have e : bareV v = false := decide_eq_false (fun h => (h.2.1).elim (fun e => by omega) z0)
          skip
          refine WC.seqR rfl ?_
          refine WL.y rfl (Y.move) ?_
          refine WL.y rfl (Y.dF (Y.lss rfl rfl) (by omega)) ?_
          refine WL.y rfl (Y.move) ?_
          refine WL.y rfl (Y.move) ?_
          refine WL.y rfl (Y.dF (Y.gtr rfl rfl) (by omega)) ?_
          refine WL.y rfl (Y.pickF rfl) ?_
          refine WL.nil ?_
          refine WC.condF (rfl) ?_
          refine WC.skip (thenQ.normal ?_)
          refine WC.seqR rfl ?_
          refine WL.y rfl (Y.move) ?_
          refine WL.y rfl (Y.dF (Y.eqi rfl rfl) (by omega)) ?_
          refine WL.y rfl (Y.move) ?_
          refine WL.y rfl (Y.fieldAddr fi26f1 ti4 (by decide) rfl (rfl) _) ?_
          refine WL.y rfl (Y.load1 Tryd.underlying4 rfl rfl (hB.cell 1)) ?_
          refine WL.y rfl (Y.bF (Y.not rfl) (by simpa using z0)) ?_
          refine WL.y rfl (Y.pickF rfl) ?_
          refine WL.y rfl (Y.move) ?_
          refine WL.off rfl ?_
          refine WL.off rfl ?_
          refine WL.off rfl ?_
          refine WL.off rfl ?_
          refine WL.off rfl ?_
          refine WL.off rfl ?_
          refine WL.off rfl ?_
          refine WL.y rfl (Y.pickF rfl) ?_
          refine WL.y rfl (Y.move) ?_
          refine WL.off rfl ?_
          refine WL.off rfl ?_
          refine WL.off rfl ?_
          refine WL.off rfl ?_
          refine WL.off rfl ?_
          refine WL.off rfl ?_
          refine WL.off rfl ?_
          refine WL.off rfl ?_
          refine WL.y rfl (Y.pickF rfl) ?_
          refine WL.y rfl (Y.move) ?_
          refine WL.off rfl ?_
          refine WL.off rfl ?_
          refine WL.off rfl ?_
          refine WL.off rfl ?_
          refine WL.off rfl ?_
          refine WL.off rfl ?_
          refine WL.off rfl ?_
          refine WL.off rfl ?_
          refine WL.y rfl (Y.pickF rfl) ?_
          refine WL.y rfl (Y.move) ?_
          refine WL.off rfl ?_
          refine WL.off rfl ?_
          refine WL.off rfl ?_
          refine WL.off rfl ?_
          refine WL.off rfl ?_
          refine WL.off rfl ?_
          refine WL.off rfl ?_
          refine WL.off rfl ?_
          refine WL.y rfl (Y.pickF rfl) ?_
          refine WL.y rfl (Y.assign) ?_
          refine WL.nil ?_
          refine WC.ret (endQ.one (.inr rfl) ?_)
          exact ⟨congrArg Value.bool e.symm, hb1⟩
end Go.Proofs.YthcppegkpkgnpaaDoor
