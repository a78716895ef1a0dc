/-
  ref02: may, May: walks.
-/
import Derived.Test.YthcppegkpkgnpaaDoorVal10
namespace Go.Proofs.YthcppegkpkgnpaaDoor
open Go Go.RowKit Go.Cx
set_option linter.unusedVariables false
set_option maxHeartbeats 4000000
def RMayOf (v : V) : Prop := ∀ (d : Int) (w : World) (c : List Value), 1 ≤ d ∧ d ≤ 65 → VAt w v c → Ret Tryd.prog 38 [.agg c.toArray, .int .i64 d].toArray w fun r w' => r = .int .i64 (mayV v d) ∧ Below w.heap.size w w'
theorem rmay_ret (v : V) : RMayOf v := by
  induction v using V.ind with
  | h v ih1 ih2 =>
    intro d w c hd hv
    have he := mayV_eq v d
    have hcl := hv.len
    have hodd := fun w' (hb : Below w.heap.size w w') => rbare_ret v w' c (hv.bel hb)
    have hqq := vat_parts hv
    obtain ⟨lv, ov, ⟨lc, h1, hs, h2⟩, ⟨oc, h3, hks, ho, h4⟩, ok, hce⟩ := hqq
    have ql := ok.l
    have qo := ok.o
    have qk := ok.kt
    have qt := ok.t
    refine Ret.of (n := 74) (rs := #[.tmp 4]) Tryd.func38 rfl rfl rfl (by simp) ?_
    refine WC.seqR rfl ?_
    refine WL.eex rfl (E.boxX) ?_
    rintro _ w2 ⟨rfl, hB2, hb2⟩
    refine WL.y rfl (Y.assign) ?_
    refine WL.nil ?_
    refine WC.seq ?_
    have hB : Blk w2 w.heap.size 26 (vcell v lv ov) := by rw [← hce]; exact hB2
    have hBc : Blk w2 w.heap.size 26 c := hB2
    clear hB2
    have hb1 : Below w.heap.size w w2 := hb2
    refine WC.seqR rfl ?_
    refine WL.y rfl (Y.loadK Tryd.underlying26 rfl ti26 (hcl) rfl (hBc.cells)) ?_
    refine WL.call rfl (C.func go55) (hodd _ hb1) ?_
    rintro _ w13 ⟨rfl, hb13⟩
    refine WL.y rfl (Y.not rfl) ?_
    refine WL.nil ?_
    have hb13' := Below.step hb1 hb13
    have hB13 := hB.bel hb13
    cases hbr : bareV v with
    | false =>
      rw [if_pos hbr] at he
      refine WC.condT (rfl) ?_
      refine WC.seqR rfl ?_
      refine WL.y rfl (Y.assign) ?_
      refine WL.nil ?_
      refine WC.ret (thenQ.ret (endQ.one (.inr rfl) ?_))
      exact ⟨congrArg (Value.int .i64) he.symm, hb13'⟩
    | true =>
      rw [if_neg (by rw [hbr]; decide)] at he
      skip
      refine WC.condF (rfl) ?_
      refine WC.skip (thenQ.normal ?_)
      refine WC.seq ?_
      refine WC.seqR rfl ?_
      refine WL.y rfl (Y.move) ?_
      refine WL.y rfl (Y.gtr rfl rfl) ?_
      refine WL.nil ?_
      refine WC.condD rfl (fun r1 => ?_) (fun r1 => ?_)
      · rw [if_pos r1] at he
        refine WC.seqR rfl ?_
        refine WL.y rfl (Y.assign) ?_
        refine WL.nil ?_
        refine WC.ret (thenQ.ret (endQ.one (.inr rfl) ?_))
        exact ⟨congrArg (Value.int .i64) he.symm, hb13'⟩
      · rw [if_neg r1] at he
        refine WC.skip (thenQ.normal ?_)
        refine WC.seq ?_
        refine WC.seqR rfl ?_
        refine WL.y rfl (Y.fieldAddr fi26f3 ti9 (by decide) rfl (rfl) _) ?_
        refine WL.y rfl (Y.load1 Tryd.underlying9 rfl rfl (hB13.cell 3)) ?_
        refine WL.call rfl (C.func go56) (valid_ret _ v.t (by omega)) ?_
        rintro _ _ ⟨rfl, rfl⟩
        refine WL.y rfl (Y.not rfl) ?_
        refine WL.nil ?_
        cases hvd : Lib.validD v.t with
        | false =>
          rw [if_pos hvd] at he
          refine WC.condT (rfl) ?_
          refine WC.seqR rfl ?_
          refine WL.y rfl (Y.assign) ?_
          refine WL.nil ?_
          refine WC.ret (thenQ.ret (endQ.one (.inr rfl) ?_))
          exact ⟨congrArg (Value.int .i64) he.symm, hb13'⟩
        | true =>
          rw [if_neg (by rw [hvd]; decide)] at he
          skip
          refine WC.condF (rfl) ?_
          refine WC.skip (thenQ.normal ?_)
          refine WC.seq ?_
          refine WC.seqR rfl ?_
          refine WL.y rfl (Y.assign) ?_
          refine WL.nil ?_
          refine WC.block ?_
          refine WC.loop (fun j => v.l.length - j) (fun j f ds w' => j ≤ v.l.length ∧ ds = [] ∧ Below w.heap.size w w' ∧ Blk w' w.heap.size 26 (vcell v lv ov) ∧ mayL v.l (d + 1) = mayL (v.l.drop j) (d + 1) ∧ ∃ J, f = Go.Cx.ov J [(1, .int .i64 d), (2, .pointer (some ⟨w.heap.size, 0, none⟩)), (5, .int .i64 (j : Int))]) 0 ?_ ?_
          · exact ⟨by omega, rfl, hb13', hB13, rfl, _, ov_mk ⟨rfl, rfl, rfl, trivial⟩⟩
          · rintro j _ _ w3 ⟨hj, rfl, hb3, hA, ha, J, rfl⟩
            refine WC.seq ?_
            refine WC.seqR rfl ?_
            refine WL.y rfl (Y.move) ?_
            refine WL.y rfl (Y.fieldAddr fi26f4 ti24 (by decide) rfl (rfl) _) ?_
            refine WL.y rfl (Y.load1 Tryd.underlying24 rfl rfl (hA.cell 4)) ?_
            refine WL.y rfl (Y.lenSl Tryd.underlying24 (hs.bel hb3) _) ?_
            refine WL.y rfl (Y.lss rfl rfl) ?_
            refine WL.nil ?_
            refine WC.condD rfl (fun h0 => ?_) (fun h0 => ?_)
            · have hjl : j < v.l.length := by omega
              have hjc : j < lc.length := by omega
              have hst := mayL_step v.l j (d + 1) hjl
              refine WC.skip (thenQ.normal ?_)
              refine WC.seq ?_
              refine WC.block ?_
              refine WC.seqR rfl ?_
              refine WL.y rfl (Y.fieldAddr fi26f4 ti24 (by decide) rfl (rfl) _) ?_
              refine WL.y rfl (Y.load1 Tryd.underlying24 rfl rfl (hA.cell 4)) ?_
              refine WL.y rfl (Y.move) ?_
              refine WL.yex rfl (Y.idx Tryd.underlying24 ti26 (by decide) (hs.bel hb3) rfl (by omega) (by omega)) ?_
              rintro _ ⟨b30, o30, rfl, hc30⟩
              refine WL.y rfl (Y.loadK Tryd.underlying26 rfl ti26 (lc[j].h) rfl (elem_cells hjc hc30)) ?_
              refine WL.y rfl (Y.move) ?_
              refine WL.y rfl (Y.add64 rfl rfl (by omega)) ?_
              refine WL.call rfl (C.func go38) (ih1 _ (List.getElem_mem hjl) (d + 1) _ _ (by omega) ((h2 j hjl hjc).bel hb3)) ?_
              rintro _ w37 ⟨rfl, hb37⟩
              refine WL.y rfl (Y.assign) ?_
              refine WL.nil ?_
              refine WC.seqR rfl ?_
              refine WL.y rfl (Y.move) ?_
              refine WL.y rfl (Y.nei rfl rfl) ?_
              refine WL.nil ?_
              have hbb := Below.step hb3 hb37
              refine WC.condD rfl (fun h5 => ?_) (fun h5 => ?_)
              · rw [if_pos h5] at hst
                rw [if_pos (by rw [ha, hst]; exact h5)] at he
                refine WC.seqR rfl ?_
                refine WL.y rfl (Y.move) ?_
                refine WL.y rfl (Y.assign) ?_
                refine WL.nil ?_
                refine WC.ret (inBlockQ.ret (thenQ.ret (thenQ.ret (inBlockQ.ret (thenQ.ret (endQ.one (.inr rfl) ?_))))))
                exact ⟨congrArg (Value.int .i64) (he.trans (ha.trans hst)).symm, hbb⟩
              · rw [if_neg h5] at hst
                refine WC.skip (inBlockQ.normal (thenQ.normal ?_))
                refine WC.region rfl ?_
                refine WL.y rfl (Y.move) ?_
                refine WL.y rfl (Y.add64 rfl rfl (by omega)) ?_
                refine WL.y rfl (Y.assign) ?_
                refine WL.nil (thenQ.normal ?_)
                exact ⟨j + 1, by omega, by omega, rfl, hbb, hA.bel hb37, ha.trans hst, _, ov_mk ⟨rfl, rfl, rfl, trivial⟩⟩
            · have hje : j = v.l.length := by omega
              have hee := mayL_end v.l (d + 1)
              subst hje
              rw [if_neg (by rw [ha, hee]; decide)] at he
              clear ha hee hj
              refine WC.exit (thenQ.exit (thenQ.exit (inBlockQ.hit (thenQ.normal ?_))))
              refine WC.seqR rfl ?_
              refine WL.y rfl (Y.assign) ?_
              refine WL.nil ?_
              refine WC.seq ?_
              refine WC.seqR rfl ?_
              refine WL.y rfl (Y.assign) ?_
              refine WL.nil ?_
              refine WC.block ?_
              refine WC.loop (fun j => v.vs.length - j) (fun j f ds w' => j ≤ v.vs.length ∧ ds = [] ∧ Below w.heap.size w w' ∧ Blk w' w.heap.size 26 (vcell v lv ov) ∧ mayV v d = mayM (v.vs.drop j) (v.ks.drop j) (prevK v.ks j) (d + 1) ∧ ∃ q J, (j = 0 ∨ (prevK v.ks j) = some q) ∧ f = Go.Cx.ov J [(1, .int .i64 d), (2, .pointer (some ⟨w.heap.size, 0, none⟩)), (7, strv q), (8, .int .i64 (j : Int))]) 0 ?_ ?_
              · exact ⟨by omega, rfl, hb3, hA, he, [], _, .inl rfl, ov_mk ⟨rfl, rfl, rfl, rfl, trivial⟩⟩
              · rintro j _ _ w3 ⟨hj, rfl, hb3, hA, ha, q, J, hq, rfl⟩
                refine WC.seq ?_
                refine WC.seqR rfl ?_
                refine WL.y rfl (Y.move) ?_
                refine WL.y rfl (Y.fieldAddr fi26f5 ti22 (by decide) rfl (rfl) _) ?_
                refine WL.y rfl (Y.load1 Tryd.underlying22 rfl rfl (hA.cell 5)) ?_
                refine WL.y rfl (Y.lenSl Tryd.underlying22 (ho.bel hb3) _) ?_
                refine WL.y rfl (Y.lss rfl rfl) ?_
                refine WL.nil ?_
                refine WC.condD rfl (fun h0 => ?_) (fun h0 => ?_)
                · have hjl : j < v.vs.length := by omega
                  have hjc : j < oc.length := by omega
                  have hjk : j < v.ks.length := by omega
                  have hst := mayM_step v.vs v.ks j (d + 1) hjl hjk
                  have hkl := qk _ (List.getElem_mem hjk)
                  refine WC.skip (thenQ.normal ?_)
                  refine WC.seq ?_
                  refine WC.block ?_
                  refine WC.seqR rfl ?_
                  refine WL.y rfl (Y.fieldAddr fi26f5 ti22 (by decide) rfl (rfl) _) ?_
                  refine WL.y rfl (Y.load1 Tryd.underlying22 rfl rfl (hA.cell 5)) ?_
                  refine WL.y rfl (Y.move) ?_
                  refine WL.yex rfl (Y.idx Tryd.underlying22 ti38 (by decide) (ho.bel hb3) rfl (by omega) (by omega)) ?_
                  rintro _ ⟨b48, o48, rfl, hc48⟩
                  refine WL.y rfl (Y.fieldAddr fi38f0 ti9 (by decide) rfl (rfl) _) ?_
                  refine WL.y rfl (Y.load1 Tryd.underlying9 rfl rfl (Cells.hd (mem_cells hjk hjc hc48))) ?_
                  refine WL.y rfl (Y.assign) ?_
                  refine WL.nil ?_
                  refine WC.seq ?_
                  refine WC.seqR rfl ?_
                  refine WL.y rfl (Y.move) ?_
                  refine WL.call rfl (C.func go56) (valid_ret _ v.ks[j] (by omega)) ?_
                  rintro _ _ ⟨rfl, rfl⟩
                  refine WL.y rfl (Y.not rfl) ?_
                  refine WL.nil ?_
                  cases hvd2 : Lib.validD v.ks[j] with
                  | false =>
                    rw [if_pos hvd2] at hst
                    refine WC.condT (rfl) ?_
                    refine WC.seqR rfl ?_
                    refine WL.y rfl (Y.assign) ?_
                    refine WL.nil ?_
                    refine WC.ret (thenQ.ret (inBlockQ.ret (thenQ.ret (thenQ.ret (inBlockQ.ret (thenQ.ret (endQ.one (.inr rfl) ?_)))))))
                    exact ⟨congrArg (Value.int .i64) (ha.trans hst).symm, hb3⟩
                  | true =>
                    rw [if_neg (by rw [hvd2]; decide)] at hst
                    by_cases hj0 : j = 0
                    · subst hj0
                      rw [prevK_zero, if_neg (by decide)] at hst
                      refine WC.condF (rfl) ?_
                      refine WC.skip (thenQ.normal ?_)
                      refine WC.seq ?_
                      refine WC.seqR rfl ?_
                      refine WL.y rfl (Y.move) ?_
                      refine WL.y rfl (Y.dF (Y.gtr rfl rfl) (by omega)) ?_
                      refine WL.y rfl (Y.move) ?_
                      refine WL.off rfl ?_
                      refine WL.off rfl ?_
                      refine WL.off rfl ?_
                      refine WL.y rfl (Y.pickF rfl) ?_
                      refine WL.nil ?_
                      refine WC.condF (rfl) ?_
                      refine WC.skip (thenQ.normal ?_)
                      refine WC.seqR rfl ?_
                      refine WL.y rfl (Y.move) ?_
                      refine WL.y rfl (Y.assign) ?_
                      refine WL.nil ?_
                      refine WC.seqR rfl ?_
                      refine WL.y rfl (Y.fieldAddr fi26f5 ti22 (by decide) rfl (rfl) _) ?_
                      refine WL.y rfl (Y.load1 Tryd.underlying22 rfl rfl (hA.cell 5)) ?_
                      refine WL.y rfl (Y.move) ?_
                      refine WL.yex rfl (Y.idx Tryd.underlying22 ti38 (by decide) (ho.bel hb3) rfl (by omega) (by omega)) ?_
                      rintro _ ⟨b65, o65, rfl, hc65⟩
                      refine WL.y rfl (Y.fieldAddr fi38f1 ti26 (by decide) rfl (rfl) _) ?_
                      refine WL.y rfl (Y.loadK Tryd.underlying26 rfl ti26 (oc[0].h) rfl (Cells.tl (mem_cells hjk hjc hc65))) ?_
                      refine WL.y rfl (Y.move) ?_
                      refine WL.y rfl (Y.add64 rfl rfl (by omega)) ?_
                      refine WL.call rfl (C.func go38) (ih2 _ (List.getElem_mem hjl) (d + 1) _ _ (by omega) ((h4 0 hjl hjc).bel hb3)) ?_
                      rintro _ w76 ⟨rfl, hb76⟩
                      refine WL.y rfl (Y.assign) ?_
                      refine WL.nil ?_
                      refine WC.seqR rfl ?_
                      refine WL.y rfl (Y.move) ?_
                      refine WL.y rfl (Y.nei rfl rfl) ?_
                      refine WL.nil ?_
                      have hbb := Below.step hb3 hb76
                      refine WC.condD rfl (fun h5 => ?_) (fun h5 => ?_)
                      · rw [if_pos h5] at hst
                        refine WC.seqR rfl ?_
                        refine WL.y rfl (Y.move) ?_
                        refine WL.y rfl (Y.assign) ?_
                        refine WL.nil ?_
                        refine WC.ret (inBlockQ.ret (thenQ.ret (thenQ.ret (inBlockQ.ret (thenQ.ret (endQ.one (.inr rfl) ?_))))))
                        exact ⟨congrArg (Value.int .i64) (ha.trans hst).symm, hbb⟩
                      · rw [if_neg h5] at hst
                        refine WC.skip (inBlockQ.normal (thenQ.normal ?_))
                        refine WC.region rfl ?_
                        refine WL.y rfl (Y.move) ?_
                        refine WL.y rfl (Y.add64 rfl rfl (by omega)) ?_
                        refine WL.y rfl (Y.assign) ?_
                        refine WL.nil (thenQ.normal ?_)
                        exact ⟨1, by omega, by omega, rfl, hbb, hA.bel hb76, ha.trans hst, v.ks[0], _, .inr (List.getElem?_eq_getElem hjk), ov_mk ⟨rfl, rfl, rfl, rfl, trivial⟩⟩
                    · have hj1 : 0 < j := by omega
                      have hq' := hq.resolve_left hj0
                      rw [hq', Option.elim_some] at hst
                      rw [hq'] at ha
                      cases hlt : (!slt q v.ks[j]) with
                      | true =>
                        rw [if_pos hlt] at hst
                        refine WC.condF (rfl) ?_
                        refine WC.skip (thenQ.normal ?_)
                        refine WC.seq ?_
                        refine WC.seqR rfl ?_
                        refine WL.y rfl (Y.move) ?_
                        refine WL.y rfl (Y.dT (Y.gtr rfl rfl) (by omega)) ?_
                        refine WL.y rfl (Y.move) ?_
                        refine WL.y rfl (Y.move) ?_
                        refine WL.y rfl (Y.move) ?_
                        refine WL.y rfl (Y.bT (Y.leS rfl rfl) (hlt)) ?_
                        refine WL.y rfl (Y.pickT rfl) ?_
                        refine WL.nil ?_
                        refine WC.condT (rfl) ?_
                        refine WC.seqR rfl ?_
                        refine WL.y rfl (Y.assign) ?_
                        refine WL.nil ?_
                        refine WC.ret (thenQ.ret (inBlockQ.ret (thenQ.ret (thenQ.ret (inBlockQ.ret (thenQ.ret (endQ.one (.inr rfl) ?_)))))))
                        exact ⟨congrArg (Value.int .i64) (ha.trans hst).symm, hb3⟩
                      | false =>
                        rw [if_neg (by rw [hlt]; decide)] at hst
                        skip
                        refine WC.condF (rfl) ?_
                        refine WC.skip (thenQ.normal ?_)
                        refine WC.seq ?_
                        refine WC.seqR rfl ?_
                        refine WL.y rfl (Y.move) ?_
                        refine WL.y rfl (Y.dT (Y.gtr rfl rfl) (by omega)) ?_
                        refine WL.y rfl (Y.move) ?_
                        refine WL.y rfl (Y.move) ?_
                        refine WL.y rfl (Y.move) ?_
                        refine WL.y rfl (Y.bF (Y.leS rfl rfl) (hlt)) ?_
                        refine WL.y rfl (Y.pickT rfl) ?_
                        refine WL.nil ?_
                        refine WC.condF (rfl) ?_
                        refine WC.skip (thenQ.normal ?_)
                        refine WC.seqR rfl ?_
                        refine WL.y rfl (Y.move) ?_
                        refine WL.y rfl (Y.assign) ?_
                        refine WL.nil ?_
                        refine WC.seqR rfl ?_
                        refine WL.y rfl (Y.fieldAddr fi26f5 ti22 (by decide) rfl (rfl) _) ?_
                        refine WL.y rfl (Y.load1 Tryd.underlying22 rfl rfl (hA.cell 5)) ?_
                        refine WL.y rfl (Y.move) ?_
                        refine WL.yex rfl (Y.idx Tryd.underlying22 ti38 (by decide) (ho.bel hb3) rfl (by omega) (by omega)) ?_
                        rintro _ ⟨b65, o65, rfl, hc65⟩
                        refine WL.y rfl (Y.fieldAddr fi38f1 ti26 (by decide) rfl (rfl) _) ?_
                        refine WL.y rfl (Y.loadK Tryd.underlying26 rfl ti26 (oc[j].h) rfl (Cells.tl (mem_cells hjk hjc hc65))) ?_
                        refine WL.y rfl (Y.move) ?_
                        refine WL.y rfl (Y.add64 rfl rfl (by omega)) ?_
                        refine WL.call rfl (C.func go38) (ih2 _ (List.getElem_mem hjl) (d + 1) _ _ (by omega) ((h4 j hjl hjc).bel hb3)) ?_
                        rintro _ w76 ⟨rfl, hb76⟩
                        refine WL.y rfl (Y.assign) ?_
                        refine WL.nil ?_
                        refine WC.seqR rfl ?_
                        refine WL.y rfl (Y.move) ?_
                        refine WL.y rfl (Y.nei rfl rfl) ?_
                        refine WL.nil ?_
                        have hbb := Below.step hb3 hb76
                        refine WC.condD rfl (fun h5 => ?_) (fun h5 => ?_)
                        · rw [if_pos h5] at hst
                          refine WC.seqR rfl ?_
                          refine WL.y rfl (Y.move) ?_
                          refine WL.y rfl (Y.assign) ?_
                          refine WL.nil ?_
                          refine WC.ret (inBlockQ.ret (thenQ.ret (thenQ.ret (inBlockQ.ret (thenQ.ret (endQ.one (.inr rfl) ?_))))))
                          exact ⟨congrArg (Value.int .i64) (ha.trans hst).symm, hbb⟩
                        · rw [if_neg h5] at hst
                          refine WC.skip (inBlockQ.normal (thenQ.normal ?_))
                          refine WC.region rfl ?_
                          refine WL.y rfl (Y.move) ?_
                          refine WL.y rfl (Y.add64 rfl rfl (by omega)) ?_
                          refine WL.y rfl (Y.assign) ?_
                          refine WL.nil (thenQ.normal ?_)
                          exact ⟨j + 1, by omega, by omega, rfl, hbb, hA.bel hb76, ha.trans hst, v.ks[j], _, .inr (List.getElem?_eq_getElem hjk), ov_mk ⟨rfl, rfl, rfl, rfl, trivial⟩⟩
                · have hje : j = v.vs.length := by omega
                  have hee := mayM_end v.vs (v.ks.drop j) (prevK v.ks j) (d + 1)
                  subst hje
                  refine WC.exit (thenQ.exit (thenQ.exit (inBlockQ.hit (thenQ.normal ?_))))
                  refine WC.seqR rfl ?_
                  refine WL.y rfl (Y.assign) ?_
                  refine WL.nil ?_
                  refine WC.ret (endQ.one (.inr rfl) ?_)
                  exact ⟨congrArg (Value.int .i64) (ha.trans hee).symm, hb3⟩
theorem rrmay_ret (v : V) (w : World) (c : List Value) (hv : VAt w v c) : Ret Tryd.prog 19 [.agg c.toArray].toArray w fun r w' => r = .int .i64 (mayV v 1) ∧ Below w.heap.size w w' := by
  have hcl := hv.len
  refine Ret.of (n := 5) (rs := #[.tmp 2]) Tryd.func19 rfl rfl rfl (by simp) ?_
  refine WC.seqR rfl ?_
  refine WL.eex rfl (E.boxX) ?_
  rintro _ w1 ⟨rfl, hB1, hb1⟩
  refine WL.y rfl (Y.assign) ?_
  refine WL.nil ?_
  refine WC.seqR rfl ?_
  refine WL.y rfl (Y.loadK Tryd.underlying26 rfl ti26 (hcl) rfl ((show Blk _ _ _ c from hB1).cells)) ?_
  refine WL.call rfl (C.func go38) (rmay_ret v 1 _ _ (by omega) (hv.bel hb1)) ?_
  rintro _ w4 ⟨rfl, hb4⟩
  refine WL.y rfl (Y.assign) ?_
  refine WL.nil ?_
  refine WC.ret (endQ.one (.inr rfl) ?_)
  exact ⟨rfl, Below.step hb1 hb4⟩
end Go.Proofs.YthcppegkpkgnpaaDoor
