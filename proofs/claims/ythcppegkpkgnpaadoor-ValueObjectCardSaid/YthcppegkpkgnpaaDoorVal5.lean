/-
  value: Compare, Same: walks.
-/
import Derived.Test.YthcppegkpkgnpaaDoorVal4
namespace Go.Proofs.YthcppegkpkgnpaaDoor
open Go Go.RowKit Go.Cx
set_option linter.unusedVariables false
set_option maxHeartbeats 4000000
theorem compare_ret (v : V) : CmpOf v := by
  induction v using V.ind with
  | h v ih1 ih2 =>
    intro y w c d hc hd
    have he := cmpV_eq v y
    have hlv : LAt w v.l (c.getD 4 .nilIface) ∧ MAt w v.ks v.vs (c.getD 5 .nilIface) ∧ VOk v ∧ c = vcell v (c.getD 4 .nilIface) (c.getD 5 .nilIface) := by
      cases hc with
      | mk ok h1 h2 hs h3 h4 ho => exact ⟨⟨_, h1, hs, h2⟩, ⟨_, h3, ok.ks, ho, h4⟩, ok, rfl⟩
    have hly : LAt w y.l (d.getD 4 .nilIface) ∧ MAt w y.ks y.vs (d.getD 5 .nilIface) ∧ VOk y ∧ d = vcell y (d.getD 4 .nilIface) (d.getD 5 .nilIface) := by
      cases hd with
      | mk ok h1 h2 hs h3 h4 ho => exact ⟨⟨_, h1, hs, h2⟩, ⟨_, h3, ok.ks, ho, h4⟩, ok, rfl⟩
    obtain ⟨l1, m1, ok1, e1⟩ := hlv
    obtain ⟨l2, m2, ok2, e2⟩ := hly
    generalize c.getD 4 .nilIface = lv at *
    generalize c.getD 5 .nilIface = ov at *
    generalize d.getD 4 .nilIface = lv2 at *
    generalize d.getD 5 .nilIface = ov2 at *
    subst e1 e2
    clear hc hd
    have q1 := ok1.l
    have q2 := ok1.o
    have q3 := ok2.l
    have q4 := ok2.o
    refine Ret.of (n := 55) (rs := #[.tmp 4]) Tryd.func27 rfl rfl rfl (by simp) ?_
    refine WC.seqR rfl ?_
    refine WL.eex rfl (E.boxX) ?_
    rintro _ w2 ⟨rfl, hB2, hb2⟩
    refine WL.eex rfl (E.boxX) ?_
    rintro _ w3 ⟨rfl, hB3, hb3⟩
    refine WL.y rfl (Y.assign) ?_
    refine WL.nil ?_
    refine WC.seq ?_
    refine WC.seqR rfl ?_
    refine WL.y rfl (Y.fieldAddr fi26f0 ti23 (by decide) rfl (rfl) _) ?_
    refine WL.y rfl (Y.load1 Tryd.underlying23 rfl rfl (((show Blk _ _ _ (vcell v lv ov) from hB2).bel hb3).cell 0)) ?_
    refine WL.y rfl (Y.fieldAddr fi26f0 ti23 (by decide) rfl (rfl) _) ?_
    refine WL.y rfl (Y.load1 Tryd.underlying23 rfl rfl ((show Blk _ _ _ (vcell y lv2 ov2) from hB3).cell 0)) ?_
    refine WL.y rfl (Y.nei rfl rfl) ?_
    refine WL.nil ?_
    have hB2' : Blk w3 w.heap.size 26 (vcell v lv ov) := (show Blk _ _ _ (vcell v lv ov) from hB2).bel hb3
    have hB3' : Blk w3 w2.heap.size 26 (vcell y lv2 ov2) := hB3
    have hb := Below.step hb2 hb3
    have p2 := (show Blk w2 _ _ _ from hB2).lt
    clear hB2 hB3
    refine WC.condD rfl (fun k0 => ?_) (fun k0 => ?_)
    · rw [if_pos k0] at he
      refine WC.seqR rfl ?_
      refine WL.y rfl (Y.fieldAddr fi26f0 ti23 (by decide) rfl (rfl) _) ?_
      refine WL.y rfl (Y.load1 Tryd.underlying23 rfl rfl (hB2'.cell 0)) ?_
      refine WL.y rfl (Y.fieldAddr fi26f0 ti23 (by decide) rfl (rfl) _) ?_
      refine WL.y rfl (Y.load1 Tryd.underlying23 rfl rfl (hB3'.cell 0)) ?_
      refine WL.call rfl (C.func go41) (cmpK_ret _ v.k y.k) ?_
      rintro _ _ ⟨rfl, rfl⟩
      refine WL.y rfl (Y.assign) ?_
      refine WL.nil ?_
      refine WC.ret (thenQ.ret (endQ.one (.inr rfl) ?_))
      exact ⟨congrArg (Value.int .i64) he.symm, hb⟩
    · rw [if_neg k0] at he
      refine WC.skip (thenQ.normal ?_)
      refine WC.seq ?_
      refine WC.seqR rfl ?_
      refine WL.y rfl (Y.fieldAddr fi26f0 ti23 (by decide) rfl (rfl) _) ?_
      refine WL.y rfl (Y.load1 Tryd.underlying23 rfl rfl (hB2'.cell 0)) ?_
      refine WL.nil ?_
      by_cases k2 : v.k = 2
      · rw [if_pos k2] at he
        refine WC.block ?_
        refine WC.seq ?_
        refine WC.block ?_
        refine WC.seq ?_
        refine WC.block ?_
        refine WC.seq ?_
        refine WC.block ?_
        refine WC.seq ?_
        refine WC.block ?_
        refine WC.seq ?_
        refine WC.block ?_
        refine WC.seq ?_
        refine WC.seq ?_
        refine WC.seqR rfl ?_
        refine WL.y rfl (Y.dT (Y.eqi rfl rfl) (by omega)) ?_
        refine WL.y rfl (Y.assign) ?_
        refine WL.nil ?_
        refine WC.condT (rfl) ?_
        refine WC.exit (thenQ.exit (thenQ.exit (inBlockQ.hit (thenQ.normal ?_))))
        refine WC.regionB (fun i => Nat.beq i 5 || Nat.beq i 7 || Nat.beq i 9) [(0, .any), (1, .held), (3, .any), (4, .held), (2, .seq), (6, .any), (5, .seq), (7, .seq), (8, .any), (9, .seq)] mixed (by kernel_rfl) (fun w9 hS9 hheap => ?_)
        refine RL.any rfl rfl (fun _ => Y.fieldAddr fi26f1 ti4 (by decide) rfl (rfl) _) ?_
        refine RL.held rfl rfl hS9 (fun _ hb9 => Y.load1 Tryd.underlying4 rfl rfl (cell_bel (hB2'.cell 1) hb9)) ?_
        refine RL.any rfl rfl (fun _ => Y.fieldAddr fi26f1 ti4 (by decide) rfl (rfl) _) ?_
        refine RL.held rfl rfl hS9 (fun _ hb9 => Y.load1 Tryd.underlying4 rfl rfl (cell_bel (hB3'.cell 1) hb9)) ?_
        refine RL.call rfl rfl (C.func go42) (rank_ret _ v.b) ?_
        rintro _ _ ⟨rfl, rfl⟩
        refine ⟨.inr id, ?_⟩
        refine RL.any rfl rfl (fun _ => Y.fieldAddr fi26f2 ti2 (by decide) rfl (rfl) _) ?_
        refine RL.call rfl rfl (C.func go42) (rank_ret _ y.b) ?_
        rintro _ _ ⟨rfl, rfl⟩
        refine ⟨.inl rfl, ?_⟩
        refine RL.eex rfl rfl (E.storeX (u := .int .i64 (rk v.b)) ti2 rfl rfl rfl (hB2'.bel hS9) (by simp [vcell])) ?_ ?_
        · exact fun _ _ _ => .inl rfl
        rintro _ wA ⟨hA, hgA, -⟩
        refine RL.any rfl rfl (fun _ => Y.fieldAddr fi26f2 ti2 (by decide) rfl (rfl) _) ?_
        refine RL.eex rfl rfl (E.storeX (u := .int .i64 (rk y.b)) ti2 rfl rfl rfl ((hB3'.bel hS9).grown hgA (by omega)) (by simp [vcell])) ?_ ?_
        · exact fun _ _ _ => .inl rfl
        rintro _ wB ⟨hB, hgB, -⟩
        refine RL.nil (inBlockQ.normal (thenQ.normal ?_))
        refine WC.seq ?_
        refine WC.seqR rfl ?_
        refine WL.y rfl (Y.fieldAddr fi26f2 ti2 (by decide) rfl (rfl) _) ?_
        refine WL.y rfl (Y.load1 Tryd.underlying2 rfl rfl ((hA.grown hgB (by omega)).cell (0 + 2))) ?_
        refine WL.y rfl (Y.fieldAddr fi26f2 ti2 (by decide) rfl (rfl) _) ?_
        refine WL.y rfl (Y.load1 Tryd.underlying2 rfl rfl (hB.cell (0 + 2))) ?_
        refine WL.call rfl (C.func go43) (cmp64_ret _ (rk v.b) (rk y.b)) ?_
        rintro _ _ ⟨rfl, rfl⟩
        refine WL.y rfl (Y.assign) ?_
        refine WL.nil ?_
        refine WC.ret (thenQ.ret (inBlockQ.ret (thenQ.ret (inBlockQ.ret (thenQ.ret (inBlockQ.ret (thenQ.ret (inBlockQ.ret (thenQ.ret (endQ.one (.inr rfl) ?_))))))))))
        have s9 := hS9.size
        have hbA : Below w.heap.size w wA := Below.stepG (Below.step hb hS9) hgA (Nat.le_refl _)
        have hbB : Below w.heap.size w wB := Below.stepG hbA hgB (by omega)
        exact ⟨congrArg (Value.int .i64) he.symm, hbB⟩
      · rw [if_neg k2] at he
        by_cases k3 : v.k = 3
        · rw [if_pos k3] at he
          refine WC.block ?_
          refine WC.seq ?_
          refine WC.block ?_
          refine WC.seq ?_
          refine WC.block ?_
          refine WC.seq ?_
          refine WC.block ?_
          refine WC.seq ?_
          refine WC.block ?_
          refine WC.seq ?_
          refine WC.block ?_
          refine WC.seq ?_
          refine WC.seq ?_
          refine WC.seqR rfl ?_
          refine WL.y rfl (Y.dF (Y.eqi rfl rfl) (by omega)) ?_
          refine WL.y rfl (Y.assign) ?_
          refine WL.nil ?_
          refine WC.condF (rfl) ?_
          refine WC.skip (thenQ.normal ?_)
          refine WC.seq ?_
          refine WC.seqR rfl ?_
          refine WL.y rfl (Y.dT (Y.eqi rfl rfl) (by omega)) ?_
          refine WL.y rfl (Y.assign) ?_
          refine WL.nil ?_
          refine WC.condT (rfl) ?_
          refine WC.exit (thenQ.exit (thenQ.exit (inBlockQ.miss rfl (thenQ.exit (inBlockQ.hit (thenQ.normal ?_))))))
          refine WC.seq ?_
          refine WC.seqR rfl ?_
          refine WL.y rfl (Y.fieldAddr fi26f2 ti2 (by decide) rfl (rfl) _) ?_
          refine WL.y rfl (Y.load1 Tryd.underlying2 rfl rfl (hB2'.cell 2)) ?_
          refine WL.y rfl (Y.fieldAddr fi26f2 ti2 (by decide) rfl (rfl) _) ?_
          refine WL.y rfl (Y.load1 Tryd.underlying2 rfl rfl (hB3'.cell 2)) ?_
          refine WL.call rfl (C.func go43) (cmp64_ret _ v.i y.i) ?_
          rintro _ _ ⟨rfl, rfl⟩
          refine WL.y rfl (Y.assign) ?_
          refine WL.nil ?_
          refine WC.ret (thenQ.ret (inBlockQ.ret (thenQ.ret (inBlockQ.ret (thenQ.ret (inBlockQ.ret (thenQ.ret (inBlockQ.ret (thenQ.ret (endQ.one (.inr rfl) ?_))))))))))
          exact ⟨congrArg (Value.int .i64) he.symm, hb⟩
        · rw [if_neg k3] at he
          by_cases k4 : v.k = 4
          · rw [if_pos k4] at he
            refine WC.block ?_
            refine WC.seq ?_
            refine WC.block ?_
            refine WC.seq ?_
            refine WC.block ?_
            refine WC.seq ?_
            refine WC.block ?_
            refine WC.seq ?_
            refine WC.block ?_
            refine WC.seq ?_
            refine WC.block ?_
            refine WC.seq ?_
            refine WC.seq ?_
            refine WC.seqR rfl ?_
            refine WL.y rfl (Y.dF (Y.eqi rfl rfl) (by omega)) ?_
            refine WL.y rfl (Y.assign) ?_
            refine WL.nil ?_
            refine WC.condF (rfl) ?_
            refine WC.skip (thenQ.normal ?_)
            refine WC.seq ?_
            refine WC.seqR rfl ?_
            refine WL.y rfl (Y.dF (Y.eqi rfl rfl) (by omega)) ?_
            refine WL.y rfl (Y.assign) ?_
            refine WL.nil ?_
            refine WC.condF (rfl) ?_
            refine WC.skip (thenQ.normal ?_)
            refine WC.seq ?_
            refine WC.seqR rfl ?_
            refine WL.y rfl (Y.dT (Y.eqi rfl rfl) (by omega)) ?_
            refine WL.y rfl (Y.assign) ?_
            refine WL.nil ?_
            refine WC.condT (rfl) ?_
            refine WC.exit (thenQ.exit (thenQ.exit (inBlockQ.miss rfl (thenQ.exit (inBlockQ.miss rfl (thenQ.exit (inBlockQ.hit (thenQ.normal ?_))))))))
            refine WC.seq ?_
            refine WC.seqR rfl ?_
            refine WL.y rfl (Y.fieldAddr fi26f3 ti9 (by decide) rfl (rfl) _) ?_
            refine WL.y rfl (Y.load1 Tryd.underlying9 rfl rfl (hB2'.cell 3)) ?_
            refine WL.y rfl (Y.fieldAddr fi26f3 ti9 (by decide) rfl (rfl) _) ?_
            refine WL.y rfl (Y.load1 Tryd.underlying9 rfl rfl (hB3'.cell 3)) ?_
            refine WL.call rfl (C.func go44) (strCompare_ret _ v.t y.t) ?_
            rintro _ _ ⟨rfl, rfl⟩
            refine WL.y rfl (Y.assign) ?_
            refine WL.nil ?_
            refine WC.ret (thenQ.ret (inBlockQ.ret (thenQ.ret (inBlockQ.ret (thenQ.ret (inBlockQ.ret (thenQ.ret (endQ.one (.inr rfl) ?_))))))))
            exact ⟨congrArg (Value.int .i64) he.symm, hb⟩
          · rw [if_neg k4] at he
            by_cases k5 : v.k = 5
            · rw [if_pos k5] at he
              refine WC.block ?_
              refine WC.seq ?_
              refine WC.block ?_
              refine WC.seq ?_
              refine WC.block ?_
              refine WC.seq ?_
              refine WC.block ?_
              refine WC.seq ?_
              refine WC.block ?_
              refine WC.seq ?_
              refine WC.block ?_
              refine WC.seq ?_
              refine WC.seq ?_
              refine WC.seqR rfl ?_
              refine WL.y rfl (Y.dF (Y.eqi rfl rfl) (by omega)) ?_
              refine WL.y rfl (Y.assign) ?_
              refine WL.nil ?_
              refine WC.condF (rfl) ?_
              refine WC.skip (thenQ.normal ?_)
              refine WC.seq ?_
              refine WC.seqR rfl ?_
              refine WL.y rfl (Y.dF (Y.eqi rfl rfl) (by omega)) ?_
              refine WL.y rfl (Y.assign) ?_
              refine WL.nil ?_
              refine WC.condF (rfl) ?_
              refine WC.skip (thenQ.normal ?_)
              refine WC.seq ?_
              refine WC.seqR rfl ?_
              refine WL.y rfl (Y.dF (Y.eqi rfl rfl) (by omega)) ?_
              refine WL.y rfl (Y.assign) ?_
              refine WL.nil ?_
              refine WC.condF (rfl) ?_
              refine WC.skip (thenQ.normal ?_)
              refine WC.seq ?_
              refine WC.seqR rfl ?_
              refine WL.y rfl (Y.dT (Y.eqi rfl rfl) (by omega)) ?_
              refine WL.y rfl (Y.assign) ?_
              refine WL.nil ?_
              refine WC.condT (rfl) ?_
              refine WC.exit (thenQ.exit (thenQ.exit (inBlockQ.miss rfl (thenQ.exit (inBlockQ.miss rfl (thenQ.exit (inBlockQ.miss rfl (thenQ.exit (inBlockQ.hit (thenQ.normal ?_))))))))))
              refine WC.seq ?_
              refine WC.seqR rfl ?_
              refine WL.y rfl (Y.fieldAddr fi26f4 ti24 (by decide) rfl (rfl) _) ?_
              refine WL.y rfl (Y.load1 Tryd.underlying24 rfl rfl (hB2'.cell 4)) ?_
              refine WL.y rfl (Y.fieldAddr fi26f4 ti24 (by decide) rfl (rfl) _) ?_
              refine WL.y rfl (Y.load1 Tryd.underlying24 rfl rfl (hB3'.cell 4)) ?_
              refine WL.call rfl (C.func go45) (inOrderV_ret v.l y.l lv lv2 _ (l1.bel hb) (l2.bel hb) q1 q3 ih1) ?_
              rintro _ w49 ⟨rfl, hb49⟩
              refine WL.y rfl (Y.assign) ?_
              refine WL.nil ?_
              refine WC.ret (thenQ.ret (inBlockQ.ret (thenQ.ret (inBlockQ.ret (thenQ.ret (endQ.one (.inr rfl) ?_))))))
              exact ⟨congrArg (Value.int .i64) he.symm, Below.step hb hb49⟩
            · rw [if_neg k5] at he
              by_cases k6 : v.k = 6
              · rw [if_pos k6] at he
                refine WC.block ?_
                refine WC.seq ?_
                refine WC.block ?_
                refine WC.seq ?_
                refine WC.block ?_
                refine WC.seq ?_
                refine WC.block ?_
                refine WC.seq ?_
                refine WC.block ?_
                refine WC.seq ?_
                refine WC.block ?_
                refine WC.seq ?_
                refine WC.seq ?_
                refine WC.seqR rfl ?_
                refine WL.y rfl (Y.dF (Y.eqi rfl rfl) (by omega)) ?_
                refine WL.y rfl (Y.assign) ?_
                refine WL.nil ?_
                refine WC.condF (rfl) ?_
                refine WC.skip (thenQ.normal ?_)
                refine WC.seq ?_
                refine WC.seqR rfl ?_
                refine WL.y rfl (Y.dF (Y.eqi rfl rfl) (by omega)) ?_
                refine WL.y rfl (Y.assign) ?_
                refine WL.nil ?_
                refine WC.condF (rfl) ?_
                refine WC.skip (thenQ.normal ?_)
                refine WC.seq ?_
                refine WC.seqR rfl ?_
                refine WL.y rfl (Y.dF (Y.eqi rfl rfl) (by omega)) ?_
                refine WL.y rfl (Y.assign) ?_
                refine WL.nil ?_
                refine WC.condF (rfl) ?_
                refine WC.skip (thenQ.normal ?_)
                refine WC.seq ?_
                refine WC.seqR rfl ?_
                refine WL.y rfl (Y.dF (Y.eqi rfl rfl) (by omega)) ?_
                refine WL.y rfl (Y.assign) ?_
                refine WL.nil ?_
                refine WC.condF (rfl) ?_
                refine WC.skip (thenQ.normal ?_)
                refine WC.seqR rfl ?_
                refine WL.y rfl (Y.dT (Y.eqi rfl rfl) (by omega)) ?_
                refine WL.y rfl (Y.assign) ?_
                refine WL.nil ?_
                refine WC.condT (rfl) ?_
                refine WC.exit (thenQ.exit (inBlockQ.miss rfl (thenQ.exit (inBlockQ.miss rfl (thenQ.exit (inBlockQ.miss rfl (thenQ.exit (inBlockQ.miss rfl (thenQ.exit (inBlockQ.hit (thenQ.normal ?_)))))))))))
                refine WC.seq ?_
                refine WC.seqR rfl ?_
                refine WL.y rfl (Y.fieldAddr fi26f5 ti22 (by decide) rfl (rfl) _) ?_
                refine WL.y rfl (Y.load1 Tryd.underlying22 rfl rfl (hB2'.cell 5)) ?_
                refine WL.y rfl (Y.fieldAddr fi26f5 ti22 (by decide) rfl (rfl) _) ?_
                refine WL.y rfl (Y.load1 Tryd.underlying22 rfl rfl (hB3'.cell 5)) ?_
                refine WL.call rfl (C.func go46) (inOrderM_ret v.ks v.vs y.ks y.vs ov ov2 _ (m1.bel hb) (m2.bel hb) q2 q4 ih2) ?_
                rintro _ w54 ⟨rfl, hb54⟩
                refine WL.y rfl (Y.assign) ?_
                refine WL.nil ?_
                refine WC.ret (thenQ.ret (inBlockQ.ret (thenQ.ret (endQ.one (.inr rfl) ?_))))
                exact ⟨congrArg (Value.int .i64) he.symm, Below.step hb hb54⟩
              · rw [if_neg k6] at he
                skip
                refine WC.block ?_
                refine WC.seq ?_
                refine WC.block ?_
                refine WC.seq ?_
                refine WC.block ?_
                refine WC.seq ?_
                refine WC.block ?_
                refine WC.seq ?_
                refine WC.block ?_
                refine WC.seq ?_
                refine WC.block ?_
                refine WC.seq ?_
                refine WC.seq ?_
                refine WC.seqR rfl ?_
                refine WL.y rfl (Y.dF (Y.eqi rfl rfl) (by omega)) ?_
                refine WL.y rfl (Y.assign) ?_
                refine WL.nil ?_
                refine WC.condF (rfl) ?_
                refine WC.skip (thenQ.normal ?_)
                refine WC.seq ?_
                refine WC.seqR rfl ?_
                refine WL.y rfl (Y.dF (Y.eqi rfl rfl) (by omega)) ?_
                refine WL.y rfl (Y.assign) ?_
                refine WL.nil ?_
                refine WC.condF (rfl) ?_
                refine WC.skip (thenQ.normal ?_)
                refine WC.seq ?_
                refine WC.seqR rfl ?_
                refine WL.y rfl (Y.dF (Y.eqi rfl rfl) (by omega)) ?_
                refine WL.y rfl (Y.assign) ?_
                refine WL.nil ?_
                refine WC.condF (rfl) ?_
                refine WC.skip (thenQ.normal ?_)
                refine WC.seq ?_
                refine WC.seqR rfl ?_
                refine WL.y rfl (Y.dF (Y.eqi rfl rfl) (by omega)) ?_
                refine WL.y rfl (Y.assign) ?_
                refine WL.nil ?_
                refine WC.condF (rfl) ?_
                refine WC.skip (thenQ.normal ?_)
                refine WC.seqR rfl ?_
                refine WL.y rfl (Y.dF (Y.eqi rfl rfl) (by omega)) ?_
                refine WL.y rfl (Y.assign) ?_
                refine WL.nil ?_
                refine WC.condF (rfl) ?_
                refine WC.skip (thenQ.normal ?_)
                refine WC.exit (inBlockQ.miss rfl (thenQ.exit (inBlockQ.miss rfl (thenQ.exit (inBlockQ.miss rfl (thenQ.exit (inBlockQ.miss rfl (thenQ.exit (inBlockQ.miss rfl (thenQ.exit (inBlockQ.hit (thenQ.normal ?_))))))))))))
                refine WC.seqR rfl ?_
                refine WL.y rfl (Y.assign) ?_
                refine WL.nil ?_
                refine WC.ret (endQ.one (.inr rfl) ?_)
                exact ⟨congrArg (Value.int .i64) he.symm, hb⟩
theorem same_ret (x y : V) (w : World) (c d : List Value) (hc : VAt w x c) (hd : VAt w y d) : Ret Tryd.prog 28 [.agg c.toArray, .agg d.toArray].toArray w fun r w' => r = .bool (decide (cmpV x y = 0)) ∧ Below w.heap.size w w' := by
  have hl1 := hc.len
  have hl2 := hd.len
  refine Ret.of (n := 9) (rs := #[.tmp 4]) Tryd.func28 rfl rfl rfl (by simp) ?_
  refine WC.seqR rfl ?_
  refine WL.eex rfl (E.boxX) ?_
  rintro _ w2 ⟨rfl, hB2, hb2⟩
  have k2 := hb2
  refine WL.eex rfl (E.boxX) ?_
  rintro _ w3 ⟨rfl, hB3, hb3⟩
  have k3 := Below.step k2 hb3
  refine WL.y rfl (Y.assign) ?_
  refine WL.nil ?_
  refine WC.seqR rfl ?_
  refine WL.y rfl (Y.loadK Tryd.underlying26 rfl ti26 (hl1) rfl (((show Blk _ _ _ c from hB2).bel hb3).cells)) ?_
  refine WL.y rfl (Y.loadK Tryd.underlying26 rfl ti26 (hl2) rfl ((show Blk _ _ _ d from hB3).cells)) ?_
  refine WL.call rfl (C.func go27) (compare_ret x y _ _ _ (hc.bel k3) (hd.bel k3)) ?_
  rintro _ w7 ⟨rfl, hb7⟩
  have k7 := Below.step k3 hb7
  refine WL.y rfl (Y.eqi rfl rfl) ?_
  refine WL.y rfl (Y.assign) ?_
  refine WL.nil ?_
  refine WC.ret (endQ.one (.inr rfl) ?_)
  exact ⟨rfl, k7⟩
end Go.Proofs.YthcppegkpkgnpaaDoor
