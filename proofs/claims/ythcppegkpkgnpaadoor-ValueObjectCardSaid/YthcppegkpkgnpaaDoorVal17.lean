/-
  The laws ValueMay, ValueMeasures, ValueOrders, ValueWithin: walks.
-/
import Derived.Test.YthcppegkpkgnpaaDoorVal15
import Derived.Test.YthcppegkpkgnpaaDoorVal16
namespace Go.Proofs.YthcppegkpkgnpaaDoor
open Go Go.RowKit Go.Cx
set_option linter.unusedVariables false
set_option maxHeartbeats 4000000
theorem valueMay_ret (w : World) (a : Value) (v : V) (hx : VArg w v a) (hT : Tabs w) : Ret Tryd.prog 4 [a].toArray w fun r w' => r = .bool true ∧ Below w.heap.size w w' := by
  obtain ⟨c, rfl, hv⟩ := hx
  have hl := hv.len
  refine Ret.of (n := 11) (rs := #[.tmp 2]) Tryd.func4 rfl rfl rfl (by simp) ?_
  refine WC.seqR rfl ?_
  refine WL.eex rfl (E.boxX) ?_
  rintro _ w1 ⟨rfl, hB1, hb1⟩
  have k1 := hb1
  refine WL.y rfl (Y.assign) ?_
  refine WL.nil ?_
  refine WC.seq ?_
  refine WC.regionB (fun i => Nat.beq i 3 || Nat.beq i 6) [(0, .held), (2, .held), (1, .seq), (3, .seq), (4, .any), (5, .any), (6, .seq), (7, .any), (8, .any)] mixed (by kernel_rfl) (fun w1x hS1 hheap => ?_)
  have kr1 := Below.step k1 hS1
  refine RL.held rfl rfl hS1 (fun _ hb9 => Y.loadK Tryd.underlying26 rfl ti26 (hl) rfl (Cells.bel (show Blk _ _ _ c from hB1).cells hb9)) ?_
  refine RL.held rfl rfl hS1 (fun _ hb9 => Y.loadK Tryd.underlying26 rfl ti26 (hl) rfl (Cells.bel (show Blk _ _ _ c from hB1).cells hb9)) ?_
  refine RL.call rfl rfl (C.func go18) (vmay_ret v _ _ (hT.bel kr1) (hv.bel kr1)) ?_
  rintro _ w4 ⟨rfl, hb4⟩
  refine ⟨.inr (fun h => Below.step h hb4), ?_⟩
  have k4 := Below.step kr1 hb4
  refine RL.call rfl rfl (C.func go19) (rrmay_ret v _ _ (hv.bel k4)) ?_
  rintro _ w6 ⟨rfl, hb6⟩
  refine ⟨.inl rfl, ?_⟩
  have k6 := Below.step k4 hb6
  refine RL.any rfl rfl (fun _ => Y.dT (Y.eqi rfl rfl) (by omega)) ?_
  refine RL.any rfl rfl (fun _ => Y.move) ?_
  refine RL.call rfl rfl (C.func go17) (known_ret _ (hT.bel k6)) ?_
  rintro _ w9 ⟨rfl, hb9⟩
  refine ⟨.inl rfl, ?_⟩
  have k9 := Below.step k6 hb9
  refine RL.any rfl rfl (fun _ => Y.pickT rfl) ?_
  refine RL.any rfl rfl (fun _ => Y.assign) ?_
  refine RL.nil (thenQ.normal ?_)
  refine WC.ret (endQ.one (.inr rfl) ?_)
  exact ⟨rfl, k9⟩
theorem valueMeasures_ret (w : World) (a : Value) (v : V) (hx : VArg w v a) (hT : Tabs w) : Ret Tryd.prog 5 [a].toArray w fun r w' => r = .bool true ∧ Below w.heap.size w w' := by
  obtain ⟨c, rfl, hv⟩ := hx
  have hl := hv.len
  refine Ret.of (n := 18) (rs := #[.tmp 2]) Tryd.func5 rfl rfl rfl (by simp) ?_
  refine WC.seqR rfl ?_
  refine WL.eex rfl (E.boxX) ?_
  rintro _ w1 ⟨rfl, hB1, hb1⟩
  have k1 := hb1
  refine WL.y rfl (Y.assign) ?_
  refine WL.nil ?_
  refine WC.seq ?_
  refine WC.regionB (fun i => Nat.beq i 9 || Nat.beq i 13) [(0, .held), (2, .held), (1, .seq), (3, .seq), (4, .any), (5, .any), (6, .held), (8, .held), (7, .seq), (9, .seq), (10, .any), (11, .any), (12, .any), (13, .seq), (14, .any), (15, .any)] mixed (by kernel_rfl) (fun w1x hS1 hheap => ?_)
  have kr1 := Below.step k1 hS1
  refine RL.held rfl rfl hS1 (fun _ hb9 => Y.loadK Tryd.underlying26 rfl ti26 (hl) rfl (Cells.bel (show Blk _ _ _ c from hB1).cells hb9)) ?_
  refine RL.held rfl rfl hS1 (fun _ hb9 => Y.loadK Tryd.underlying26 rfl ti26 (hl) rfl (Cells.bel (show Blk _ _ _ c from hB1).cells hb9)) ?_
  refine RL.call rfl rfl (C.func go20) (deep_ret v _ _ (hv.bel kr1)) ?_
  rintro _ w4 ⟨rfl, hb4⟩
  refine ⟨.inr (fun h => Below.step h hb4), ?_⟩
  have k4 := Below.step kr1 hb4
  refine RL.call rfl rfl (C.func go21) (rdeep_ret v _ _ (hv.bel k4)) ?_
  rintro _ w6 ⟨rfl, hb6⟩
  refine ⟨.inr (fun h => Below.step h hb6), ?_⟩
  have k6 := Below.step k4 hb6
  refine RL.any rfl rfl (fun _ => Y.dT (Y.eqi rfl rfl) (by omega)) ?_
  refine RL.any rfl rfl (fun _ => Y.move) ?_
  refine RL.held rfl rfl (Below.step (Below.step hS1 hb4) hb6) (fun _ hb9 => Y.loadK Tryd.underlying26 rfl ti26 (hl) rfl (Cells.bel (show Blk _ _ _ c from hB1).cells hb9)) ?_
  refine RL.held rfl rfl (Below.step (Below.step hS1 hb4) hb6) (fun _ hb9 => Y.loadK Tryd.underlying26 rfl ti26 (hl) rfl (Cells.bel (show Blk _ _ _ c from hB1).cells hb9)) ?_
  refine RL.call rfl rfl (C.func go22) (size_ret v _ _ (hv.bel k6)) ?_
  rintro _ w10 ⟨rfl, hb10⟩
  refine ⟨.inr (fun h => Below.step h hb10), ?_⟩
  have k10 := Below.step k6 hb10
  refine RL.call rfl rfl (C.func go23) (rsize_ret v _ _ (hv.bel k10)) ?_
  rintro _ w12 ⟨rfl, hb12⟩
  refine ⟨.inl rfl, ?_⟩
  have k12 := Below.step k10 hb12
  refine RL.any rfl rfl (fun _ => Y.dT (Y.eqi rfl rfl) (by omega)) ?_
  refine RL.any rfl rfl (fun _ => Y.pickT rfl) ?_
  refine RL.any rfl rfl (fun _ => Y.move) ?_
  refine RL.call rfl rfl (C.func go17) (known_ret _ (hT.bel k12)) ?_
  rintro _ w16 ⟨rfl, hb16⟩
  refine ⟨.inl rfl, ?_⟩
  have k16 := Below.step k12 hb16
  refine RL.any rfl rfl (fun _ => Y.pickT rfl) ?_
  refine RL.any rfl rfl (fun _ => Y.assign) ?_
  refine RL.nil (thenQ.normal ?_)
  refine WC.ret (endQ.one (.inr rfl) ?_)
  exact ⟨rfl, k16⟩
theorem lsignV_ret (w : World) (x y : V) : Ret Tryd.prog 26 [.int .i64 (cmpV x y)].toArray w fun r w' => r = .int .i64 (cmpV x y) ∧ w = w' := by
  refine Calls.mono (lsign_ret w (cmpV x y)) ?_
  rintro e w' ⟨r, he, rfl, rfl⟩
  exact ⟨_, he, by rw [cmpV_num], rfl⟩
theorem valueOrders_ret (w : World) (a : Value) (x : V) (hx : VArg w x a) (b : Value) (y : V) (hy : VArg w y b) (hT : Tabs w) : Ret Tryd.prog 7 [a, b].toArray w fun r w' => r = .bool true ∧ Below w.heap.size w w' := by
  obtain ⟨c, rfl, hv⟩ := hx
  obtain ⟨d, rfl, hu⟩ := hy
  have hl := hv.len
  have hl2 := hu.len
  refine Ret.of (n := 26) (rs := #[.tmp 4]) Tryd.func7 rfl rfl rfl (by simp) ?_
  refine WC.seqR rfl ?_
  refine WL.eex rfl (E.boxX) ?_
  rintro _ w2 ⟨rfl, hB2, hb2⟩
  have k2 := hb2
  refine WL.eex rfl (E.boxX) ?_
  rintro _ w3 ⟨rfl, hB3, hb3⟩
  have k3 := Below.step k2 hb3
  refine WL.y rfl (Y.assign) ?_
  refine WL.nil ?_
  have hB2' : Blk w3 w.heap.size 26 c := (show Blk _ _ _ c from hB2).bel hb3
  have hB3' : Blk w3 w2.heap.size 26 d := hB3
  have hk := k3
  refine WC.seqR rfl ?_
  refine WL.y rfl (Y.loadK Tryd.underlying26 rfl ti26 (hl) rfl (hB2'.cells)) ?_
  refine WL.y rfl (Y.loadK Tryd.underlying26 rfl ti26 (hl2) rfl (hB3'.cells)) ?_
  refine WL.call rfl (C.func go25) (rcompare_ret x y _ _ _ (hv.bel k3) (hu.bel k3)) ?_
  rintro _ w8 ⟨rfl, hb8⟩
  have k8 := Below.step k3 hb8
  refine WL.y rfl (Y.assign) ?_
  refine WL.nil ?_
  refine WC.seqR rfl ?_
  refine WL.y rfl (Y.loadK Tryd.underlying26 rfl ti26 (hl) rfl ((hB2'.bel hb8).cells)) ?_
  refine WL.y rfl (Y.loadK Tryd.underlying26 rfl ti26 (hl2) rfl ((hB3'.bel hb8).cells)) ?_
  refine WL.call rfl (C.func go27) (compare_ret x y _ _ _ (hv.bel k8) (hu.bel k8)) ?_
  rintro _ w11 ⟨rfl, hb11⟩
  have k11 := Below.step k8 hb11
  refine WL.call rfl (C.func go26) (lsignV_ret _ x y) ?_
  rintro _ _ ⟨rfl, rfl⟩
  refine WL.y rfl (Y.move) ?_
  refine WL.y rfl (Y.dT (Y.eqi rfl rfl) (by omega)) ?_
  refine WL.y rfl (Y.move) ?_
  refine WL.y rfl (Y.loadK Tryd.underlying26 rfl ti26 (hl) rfl (((hB2'.bel hb8).bel hb11).cells)) ?_
  refine WL.y rfl (Y.loadK Tryd.underlying26 rfl ti26 (hl2) rfl (((hB3'.bel hb8).bel hb11).cells)) ?_
  refine WL.call rfl (C.func go28) (same_ret x y _ _ _ (hv.bel k11) (hu.bel k11)) ?_
  rintro _ w18 ⟨rfl, hb18⟩
  have k18 := Below.step k11 hb18
  refine WL.y rfl (Y.move) ?_
  refine WL.y rfl (Y.eqi rfl rfl) ?_
  refine WL.y rfl (Y.bT (Y.eqb Tryd.underlying4 rfl rfl) (by simp)) ?_
  refine WL.y rfl (Y.pickT rfl) ?_
  refine WL.y rfl (Y.move) ?_
  refine WL.call rfl (C.func go17) (known_ret _ (hT.bel k18)) ?_
  rintro _ w24 ⟨rfl, hb24⟩
  have k24 := Below.step k18 hb24
  refine WL.y rfl (Y.pickT rfl) ?_
  refine WL.y rfl (Y.assign) ?_
  refine WL.nil ?_
  refine WC.ret (endQ.one (.inr rfl) ?_)
  exact ⟨rfl, k24⟩
theorem valueWithin_ret (w : World) (a : Value) (v : V) (hx : VArg w v a) (hT : Tabs w) : Ret Tryd.prog 6 [a].toArray w fun r w' => r = .bool true ∧ Below w.heap.size w w' := by
  obtain ⟨c, rfl, hv⟩ := hx
  have hl := hv.len
  have hs1 := sizeV_w v
  have hs2 := deepV_w v
  have hlen := wV_len hv
  refine Ret.of (n := 43) (rs := #[.tmp 2]) Tryd.func6 rfl rfl rfl (by simp) ?_
  refine WC.seqR rfl ?_
  refine WL.eex rfl (E.boxX) ?_
  rintro _ w1 ⟨rfl, hB1, hb1⟩
  refine WL.y rfl (Y.assign) ?_
  refine WL.nil ?_
  refine WC.seqR rfl ?_
  refine WL.y rfl (Y.loadK Tryd.underlying26 rfl ti26 (hl) rfl ((show Blk _ _ _ c from hB1).cells)) ?_
  refine WL.call rfl (C.func go24) (within_ret v _ c (hv.bel hb1)) ?_
  rintro r7 w7 ⟨hl7, hb7⟩
  refine WL.y rfl (Y.assign) ?_
  refine WL.nil ?_
  refine WC.seqR rfl ?_
  refine WL.y rfl (Y.assign) ?_
  refine WL.y rfl (Y.assign) ?_
  refine WL.nil ?_
  refine WC.seq ?_
  refine WC.seqR rfl ?_
  refine WL.y rfl (Y.assign) ?_
  refine WL.nil ?_
  refine WC.block ?_
  have hb := Below.step hb1 hb7
  have hB : Blk w7 w.heap.size 26 c := (show Blk _ _ _ c from hB1).bel hb7
  generalize wV v = l at *
  refine WC.loop (fun j => l.length - j) (fun j f ds w' => j ≤ l.length ∧ ds = [] ∧ Below w.heap.size w w' ∧ Blk w' w.heap.size 26 c ∧ LAt w' l r7 ∧ ∃ a m J, (sumL a (l.drop j) = sumL 1 l ∧ maxL m (l.drop j) = maxL 0 l) ∧ f = Go.Cx.ov J [(1, .pointer (some ⟨w.heap.size, 0, none⟩)), (3, r7), (4, .int .i64 a), (5, .int .i64 m), (6, .int .i64 (j : Int))]) 0 ?_ ?_
  · exact ⟨by omega, rfl, hb, hB, hl7, 1, 0, _, ⟨rfl, rfl⟩, ov_mk ⟨rfl, rfl, rfl, rfl, rfl, trivial⟩⟩
  · rintro j _ _ w2 ⟨hj, rfl, hb2, hB2, hl2, a, m, J, ⟨ha, hm⟩, rfl⟩
    have hl2' := hl2
    have hqq := hl2'
    obtain ⟨lc, q1, q2, q3⟩ := hqq
    refine WC.seq ?_
    refine WC.seqR rfl ?_
    refine WL.y rfl (Y.move) ?_
    refine WL.y rfl (Y.move) ?_
    refine WL.y rfl (Y.lenSl Tryd.underlying24 (q2) _) ?_
    refine WL.y rfl (Y.lss rfl rfl) ?_
    refine WL.nil ?_
    refine WC.condD rfl (fun h0 => ?_) (fun h0 => ?_)
    · have hjl : j < l.length := by omega
      have hjc : j < lc.length := by omega
      have hst := sumL_step a l j hjl
      have hsm := maxL_step m l j hjl
      refine WC.skip (thenQ.normal ?_)
      refine WC.seq ?_
      refine WC.block ?_
      refine WC.seqR rfl ?_
      refine WL.y rfl (Y.move) ?_
      refine WL.y rfl (Y.move) ?_
      refine WL.y rfl (Y.move) ?_
      refine WL.yex rfl (Y.idx Tryd.underlying24 ti26 (by decide) (q2) rfl (by omega) (by omega)) ?_
      rintro _ ⟨b18, o18, rfl, hc18⟩
      refine WL.y rfl (Y.loadK Tryd.underlying26 rfl ti26 (lc[j].h) rfl (elem_cells hjc hc18)) ?_
      refine WL.call rfl (C.func go22) (size_ret _ _ _ (q3 j hjl hjc)) ?_
      rintro _ w20 ⟨rfl, hb20⟩
      refine WL.y rfl (Y.add rfl rfl) ?_
      refine WL.y rfl (Y.assign) ?_
      refine WL.nil ?_
      refine WC.region rfl ?_
      refine WL.y rfl (Y.move) ?_
      refine WL.y rfl (Y.move) ?_
      refine WL.y rfl (Y.move) ?_
      refine WL.yex rfl (Y.idx Tryd.underlying24 ti26 (by decide) (q2.bel hb20) rfl (by omega) (by omega)) ?_
      rintro _ ⟨b25, o25, rfl, hc25⟩
      refine WL.y rfl (Y.loadK Tryd.underlying26 rfl ti26 (lc[j].h) rfl (elem_cells hjc hc25)) ?_
      refine WL.call rfl (C.func go20) (deep_ret _ _ _ ((q3 j hjl hjc).bel hb20)) ?_
      rintro _ w27 ⟨rfl, hb27⟩
      refine WL.y rfl (Y.max2 rfl rfl) ?_
      refine WL.y rfl (Y.assign) ?_
      refine WL.nil (inBlockQ.normal (thenQ.normal ?_))
      refine WC.region rfl ?_
      refine WL.y rfl (Y.move) ?_
      refine WL.y rfl (Y.add64 rfl rfl (by omega)) ?_
      refine WL.y rfl (Y.assign) ?_
      refine WL.nil (thenQ.normal ?_)
      have hbb := Below.step hb20 hb27
      exact ⟨j + 1, by omega, by omega, rfl, Below.step hb2 hbb, hB2.bel hbb, hl2.bel hbb, _, _, _, ⟨by rw [← ha, hst]; rfl, by rw [← hm, hsm]⟩, ov_mk ⟨rfl, rfl, rfl, rfl, rfl, trivial⟩⟩
    · have hje : j = l.length := by omega
      subst hje
      rw [List.drop_length, sumL] at ha
      rw [List.drop_length, maxL] at hm
      have e1 : sizeV v = a := by rw [hs1, ha]
      have e2 : deepV v = IntKind.i64.wrap (m + 1) := by rw [hs2, hm, Int.add_comm]; rfl
      refine WC.exit (thenQ.exit (thenQ.exit (inBlockQ.hit (thenQ.normal ?_))))
      refine WC.seqR rfl ?_
      refine WL.y rfl (Y.loadK Tryd.underlying26 rfl ti26 (hl) rfl (hB2.cells)) ?_
      refine WL.call rfl (C.func go22) (size_ret v _ _ (hv.bel hb2)) ?_
      rintro _ w30 ⟨rfl, hb30⟩
      refine WL.y rfl (Y.move) ?_
      refine WL.y rfl (Y.dT (Y.eqi rfl rfl) (by omega)) ?_
      refine WL.y rfl (Y.move) ?_
      refine WL.y rfl (Y.loadK Tryd.underlying26 rfl ti26 (hl) rfl ((hB2.bel hb30).cells)) ?_
      refine WL.call rfl (C.func go20) (deep_ret v _ _ ((hv.bel hb2).bel hb30)) ?_
      rintro _ w35 ⟨rfl, hb35⟩
      have hbb := Below.step (Below.step hb2 hb30) hb35
      refine WL.y rfl (Y.move) ?_
      refine WL.y rfl (Y.add rfl rfl) ?_
      refine WL.y rfl (Y.dT (Y.eqi rfl rfl) (e2)) ?_
      refine WL.y rfl (Y.pickT rfl) ?_
      refine WL.y rfl (Y.move) ?_
      refine WL.call rfl (C.func go17) (known_ret _ (hT.bel hbb)) ?_
      rintro _ w41 ⟨rfl, hb41⟩
      refine WL.y rfl (Y.pickT rfl) ?_
      refine WL.y rfl (Y.assign) ?_
      refine WL.nil ?_
      refine WC.ret (endQ.one (.inr rfl) ?_)
      exact ⟨rfl, Below.step hbb hb41⟩
end Go.Proofs.YthcppegkpkgnpaaDoor
