/-
  law02: known: walk.
-/
import Derived.Test.YthcppegkpkgnpaaDoorVal13
namespace Go.Proofs.YthcppegkpkgnpaaDoor
open Go Go.RowKit Go.Cx
set_option linter.unusedVariables false
set_option maxHeartbeats 4000000
def V0 : V := listT [numT 1, listT [numT 2], objT [97] (listT [])]
def bareT (k : Int) (t : List UInt8) : V := .mk k false 0 t [] [] []
def L7 : List V := [bareT 1 [], bareT 2 [], numT 3, bareT 4 [97], listT [], listT [numT 1], bareT 6 []]
theorem validD_a : Lib.validD [97] = true := by
  rw [validD_atL _ (by simp)]
  have e : atL [97] = (97, 1) := by decide
  rw [e, if_neg (by decide)]
  exact Lib.validD_nil
theorem V0_size : sizeV V0 = 6 := by decide
theorem V0_deep : deepV V0 = 3 := by decide
theorem L7_cmp : ∀ j (h : j + 1 < 7), cmpV (L7[j]'(by show j < 7; omega)) (L7[j + 1]'(by show j + 1 < 7; omega)) < 0
  | 0, _ => show cmpV (bareT 1 []) (bareT 2 []) < 0 by decide
  | 1, _ => show cmpV (bareT 2 []) (numT 3) < 0 by decide
  | 2, _ => show cmpV (numT 3) (bareT 4 [97]) < 0 by decide
  | 3, _ => show cmpV (bareT 4 [97]) (listT []) < 0 by decide
  | 4, _ => show cmpV (listT []) (listT [numT 1]) < 0 by decide
  | 5, _ => show cmpV (listT [numT 1]) (bareT 6 []) < 0 by decide
  | j + 6, h => absurd h (by omega)
theorem mayV_bare {v : V} (h : bareV v = true) (ht : Lib.validD v.t = true) (hl : v.l = []) (ho : v.vs = []) : mayV v 1 = 0 := by
  rw [mayV_eq, if_neg (by rw [h]; decide), if_neg (by decide), if_neg (by rw [ht]; decide), hl, ho, mayL, mayM]
  rfl
theorem mayN (n : Int) (d : Int) (hd : ¬ 64 < d) : mayV (numT n) d = 0 := by
  have h : bareV (numT n) = true := by simp [bareV, numT, V.k, V.b, V.i, V.t, V.l, V.vs]
  rw [mayV_eq, if_neg (by rw [h]; decide), if_neg hd, if_neg (by show ¬ Lib.validD [] = false; rw [Lib.validD_nil]; decide)]
  rfl
theorem L7_may : ∀ j (h : j + 1 < 7), mayV (L7[j]'(by show j < 7; omega)) 1 = 0
  | 0, _ => mayV_bare (v := bareT 1 []) (by decide) Lib.validD_nil rfl rfl
  | 1, _ => mayV_bare (v := bareT 2 []) (by decide) Lib.validD_nil rfl rfl
  | 2, _ => mayN 3 1 (by decide)
  | 3, _ => mayV_bare (v := bareT 4 [97]) (by decide) validD_a rfl rfl
  | 4, _ => mayV_bare (v := listT []) (by decide) Lib.validD_nil rfl rfl
  | 5, _ => by
    show mayV (listT [numT 1]) 1 = 0
    rw [mayV_eq, if_neg (by decide), if_neg (by decide), if_neg (by show ¬ Lib.validD [] = false; rw [Lib.validD_nil]; decide)]
    show (if mayL [numT 1] 2 ≠ 0 then mayL [numT 1] 2 else mayM [] [] none 2) = 0
    rw [mayL, mayN 1 2 (by decide), mayL, mayM]
    rfl
  | j + 6, h => absurd h (by omega)
theorem LAt_of {w : World} {l : List V} {r : Value} (cs : List VC) (h1 : cs.length = l.length) (h2 : SlK w 6 r l.length (cs.flatMap VC.c)) (h3 : ∀ j (h : j < l.length) (h' : j < cs.length), VAt w l[j] cs[j].c) : LAt w l r := ⟨cs, h1, h2, h3⟩
theorem LAt_nil (w : World) : LAt w [] nilS := ⟨[], rfl, SlK.nil, fun j h => absurd h (by simp)⟩
theorem bareT_ok (k : Int) (t : List UInt8) (hk : 0 ≤ k ∧ k ≤ 9) (ht : t.length ≤ 100) : VOk (bareT k t) :=
  ⟨⟨by show _ ≤ k; omega, by show k ≤ _; omega⟩, rg _ (.inl rfl), by show t.length ≤ _; omega, by simp [bareT, V.l], by simp [bareT, V.vs], rfl, by simp [bareT, V.ks]⟩
theorem all1 {w : World} {a : V} {c : List Value} (h : VAt w a c) : ∀ j (q : j < [a].length) (q' : j < ([⟨c, h.len⟩] : List VC).length), VAt w [a][j] ([⟨c, h.len⟩] : List VC)[j].c
  | 0, _, _ => h
  | j + 1, q, _ => absurd q (by simp)
theorem known_ret (w : World) (hT : Tabs w) : Ret Tryd.prog 17 #[] w fun v w' => v = .bool true ∧ Below w.heap.size w w' := by
  refine Ret.of (n := 56) (rs := #[.tmp 0]) Tryd.func17 rfl rfl rfl (by simp) ?_
  refine WC.seqR rfl ?_
  refine WL.y rfl (Y.assign) ?_
  refine WL.nil ?_
  refine WC.seqR rfl ?_
  refine WL.call rfl (C.func go35) (num_ret _ 1 (by omega)) ?_
  rintro _ w4 ⟨⟨c4, rfl, h4⟩, hb4⟩
  refine WL.call rfl (C.func go35) (num_ret _ 2 (by omega)) ?_
  rintro _ w5 ⟨⟨c5, rfl, h5⟩, hb5⟩
  refine WL.eex rfl (E.build1A (c := c5) Tryd.underlying24 ti26 h5.len (by decide) (by decide) rfl) ?_
  rintro _ w6 ⟨rfl, ho6, hb6, -⟩
  have l6 : LAt w6 [numT 2] (.slice (some ⟨w5.heap.size, 0, none⟩) 1 1) := ⟨[⟨c5, h5.len⟩], rfl, by simpa using ownsRow_sl ho6, all1 (h5.bel hb6)⟩
  refine WL.call rfl (C.func go34) (list_ret _ _ _ l6 (by simp)) ?_
  rintro _ w7 ⟨⟨c7, rfl, h7⟩, hb7⟩
  refine WL.call rfl (C.func go34) (list_ret _ _ _ (LAt_nil _) (by simp)) ?_
  rintro _ w8 ⟨⟨c8, rfl, h8⟩, hb8⟩
  refine WL.call rfl (C.func go36) (obj_ret _ [97] _ c8 h8 (by simp)) ?_
  rintro _ w9 ⟨⟨c9, rfl, h9⟩, hb9⟩
  have h4' := ((((h4.bel hb5).bel hb6).bel hb7).bel hb8).bel hb9
  have h7' := (h7.bel hb8).bel hb9
  have hqq := six h4'.len
  obtain ⟨p0, p1, p2, p3, p4, p5, rfl⟩ := hqq
  have hqq := six h7'.len
  obtain ⟨q0, q1, q2, q3, q4, q5, rfl⟩ := hqq
  have hqq := six h9.len
  obtain ⟨r0, r1, r2, r3, r4, r5, rfl⟩ := hqq
  refine WL.eex rfl (E.buildSliceX (cs := [p0, p1, p2, p3, p4, p5, q0, q1, q2, q3, q4, q5, r0, r1, r2, r3, r4, r5]) Tryd.underlying24 ti26 (by decide) (by decide) (by kernel_rfl) rfl) ?_
  rintro _ w10 ⟨rfl, ho10, hb10, -⟩
  have l10 : LAt w10 [numT 1, listT [numT 2], objT [97] (listT [])] (.slice (some ⟨w9.heap.size, 0, none⟩) 3 3) := ⟨[⟨[p0, p1, p2, p3, p4, p5], rfl⟩, ⟨[q0, q1, q2, q3, q4, q5], rfl⟩, ⟨[r0, r1, r2, r3, r4, r5], rfl⟩], rfl, ownsRow_sl ho10, fun j h h' => match j, h, h' with | 0, _, _ => h4'.bel hb10 | 1, _, _ => h7'.bel hb10 | 2, _, _ => h9.bel hb10 | j + 3, h, _ => absurd h (by simp)⟩
  refine WL.call rfl (C.func go34) (list_ret _ _ _ l10 (by simp)) ?_
  rintro _ w11 ⟨⟨c11, rfl, h11⟩, hb11⟩
  refine WL.eex rfl (E.allocX ti26) ?_
  rintro _ w1 ⟨rfl, hB1, hb1⟩
  refine WL.eex rfl (E.storeAllK (us := c11) ti26 h11.len rfl rfl h11.one hB1 rfl) ?_
  rintro _ w1s ⟨hBs, hgs⟩
  refine WL.nil ?_
  have hb11' := Below.step (Below.step (Below.step (Below.step (Below.step (Below.step (Below.step hb4 hb5) hb6) hb7) hb8) hb9) hb10) hb11
  have hb1' := Below.step hb11' hb1
  have b1 : Below w.heap.size w w1s := Below.stepG hb1' hgs (by have := hb11'.size; omega)
  have h11' : VAt w1s V0 c11 := h11.bel (Below.stepG hb1 hgs (Nat.le_refl _))
  clear h4 h5 ho6 l6 h7 h8 h9 h4' h7' ho10 l10 hB1 hgs
  refine WC.seqR rfl ?_
  refine WL.y rfl (Y.build (cells := (vcell (bareT 1 []) nilS nilS).toArray) (by kernel_rfl) _) ?_
  refine WL.y rfl (Y.build (cells := (vcell (bareT 2 []) nilS nilS).toArray) (by kernel_rfl) _) ?_
  refine WL.call rfl (C.func go35) (num_ret _ 3 (by omega)) ?_
  rintro _ w14 ⟨⟨c14, rfl, h14⟩, hb14⟩
  refine WL.y rfl (Y.build (cells := (vcell (bareT 4 [97]) nilS nilS).toArray) (by kernel_rfl) _) ?_
  refine WL.call rfl (C.func go34) (list_ret _ _ _ (LAt_nil _) (by simp)) ?_
  rintro _ w16 ⟨⟨c16, rfl, h16⟩, hb16⟩
  refine WL.call rfl (C.func go35) (num_ret _ 1 (by omega)) ?_
  rintro _ w17 ⟨⟨c17, rfl, h17⟩, hb17⟩
  refine WL.eex rfl (E.build1A (c := c17) Tryd.underlying24 ti26 h17.len (by decide) (by decide) rfl) ?_
  rintro _ w18 ⟨rfl, ho18, hb18, -⟩
  have l18 : LAt w18 [numT 1] (.slice (some ⟨w17.heap.size, 0, none⟩) 1 1) := ⟨[⟨c17, h17.len⟩], rfl, by simpa using ownsRow_sl ho18, all1 (h17.bel hb18)⟩
  refine WL.call rfl (C.func go34) (list_ret _ _ _ l18 (by simp)) ?_
  rintro _ w19 ⟨⟨c19, rfl, h19⟩, hb19⟩
  refine WL.y rfl (Y.build (cells := (vcell (bareT 6 []) nilS nilS).toArray) (by kernel_rfl) _) ?_
  have h14' := (((h14.bel hb16).bel hb17).bel hb18).bel hb19
  have h16' := ((h16.bel hb17).bel hb18).bel hb19
  have hqq := six h14'.len
  obtain ⟨p0, p1, p2, p3, p4, p5, rfl⟩ := hqq
  have hqq := six h16'.len
  obtain ⟨q0, q1, q2, q3, q4, q5, rfl⟩ := hqq
  have hqq := six h19.len
  obtain ⟨r0, r1, r2, r3, r4, r5, rfl⟩ := hqq
  have hcs : ∃ cs : List VC, cs = [⟨vcell (bareT 1 []) nilS nilS, rfl⟩, ⟨vcell (bareT 2 []) nilS nilS, rfl⟩, ⟨[p0, p1, p2, p3, p4, p5], rfl⟩, ⟨vcell (bareT 4 [97]) nilS nilS, rfl⟩, ⟨[q0, q1, q2, q3, q4, q5], rfl⟩, ⟨[r0, r1, r2, r3, r4, r5], rfl⟩, ⟨vcell (bareT 6 []) nilS nilS, rfl⟩] := ⟨_, rfl⟩
  obtain ⟨cs, hcs⟩ := hcs
  have ecs : cs.flatMap VC.c = vcell (bareT 1 []) nilS nilS ++ vcell (bareT 2 []) nilS nilS ++ [p0, p1, p2, p3, p4, p5] ++ vcell (bareT 4 [97]) nilS nilS ++ [q0, q1, q2, q3, q4, q5] ++ [r0, r1, r2, r3, r4, r5] ++ vcell (bareT 6 []) nilS nilS := by rw [hcs]; rfl
  refine WL.eex rfl (E.buildSliceX (cs := vcell (bareT 1 []) nilS nilS ++ vcell (bareT 2 []) nilS nilS ++ [p0, p1, p2, p3, p4, p5] ++ vcell (bareT 4 [97]) nilS nilS ++ [q0, q1, q2, q3, q4, q5] ++ [r0, r1, r2, r3, r4, r5] ++ vcell (bareT 6 []) nilS nilS) Tryd.underlying24 ti26 (by decide) (by decide) (by kernel_rfl) rfl) ?_
  rintro _ w21 ⟨rfl, ho21, hb21, -⟩
  refine WL.y rfl (Y.assign) ?_
  refine WL.nil ?_
  refine WC.seq ?_
  refine WC.seqR rfl ?_
  refine WL.y rfl (Y.assign) ?_
  refine WL.nil ?_
  refine WC.block ?_
  have hs21 := ownsRow_sl ho21
  have hb19' := Below.step (Below.step (Below.step (Below.step hb14 hb16) hb17) hb18) hb19
  have hb21' := Below.step hb19' hb21
  have bb := Below.step b1 hb21'
  have l21 : SlK w21 6 (.slice (some ⟨w19.heap.size, 0, none⟩) 7 7) 7 (cs.flatMap VC.c) := by rw [ecs]; exact hs21
  have hl7 : cs.length = L7.length := by rw [hcs]; rfl
  have hv7 : ∀ j (h : j < L7.length) (h' : j < cs.length), VAt w21 L7[j] cs[j].c := by
    subst hcs
    intro j h h'
    match j, h, h' with
    | 0, _, _ => exact numT_at w21 (bareT_ok 1 [] (by omega) (by simp)) rfl rfl
    | 1, _, _ => exact numT_at w21 (bareT_ok 2 [] (by omega) (by simp)) rfl rfl
    | 2, _, _ => exact h14'.bel hb21
    | 3, _, _ => exact numT_at w21 (bareT_ok 4 [97] (by omega) (by simp)) rfl rfl
    | 4, _, _ => exact h16'.bel hb21
    | 5, _, _ => exact h19.bel hb21
    | 6, _, _ => exact numT_at w21 (bareT_ok 6 [] (by omega) (by simp)) rfl rfl
    | j + 7, h, _ => exact absurd h (by show ¬ (j + 7 < 7); omega)
  have hV := h11'.bel hb21'
  have hBV := hBs.bel hb21'
  have hTT := hT.bel bb
  clear hcs ecs ho21 hs21 h14' h16' l18 ho18 h14 h16 h17 h19 h11' h11
  generalize Value.slice (some ⟨w19.heap.size, 0, none⟩) 7 7 = rv at *
  refine WC.loop (fun j => 6 - j) (fun j f ds w' => j ≤ 6 ∧ ds = [] ∧ Below w.heap.size w w' ∧ Below w21.heap.size w21 w' ∧ ∃ J, f = Go.Cx.ov J [(1, .pointer (some ⟨w11.heap.size, 0, none⟩)), (2, rv), (3, .int .i64 (j : Int))]) 0 ?_ ?_
  · exact ⟨by omega, rfl, bb, Below.refl _ _, _, ov_mk ⟨rfl, rfl, rfl, trivial⟩⟩
  · rintro j _ _ w2 ⟨hj, rfl, hb2, hb3, J, rfl⟩
    refine WC.seq ?_
    refine WC.seqR rfl ?_
    refine WL.y rfl (Y.move) ?_
    refine WL.y rfl (Y.add64 rfl rfl (by omega)) ?_
    refine WL.y rfl (Y.move) ?_
    refine WL.y rfl (Y.lenSl Tryd.underlying24 (l21.bel hb3) _) ?_
    refine WL.y rfl (Y.lss rfl rfl) ?_
    refine WL.nil ?_
    refine WC.condD rfl (fun h0 => ?_) (fun h0 => ?_)
    · have hj7 : j + 1 < 7 := by omega
      have hc := L7_cmp j hj7
      have hm := L7_may j hj7
      have j1 : j < cs.length := by rw [hl7]; show j < 7; omega
      have j2 : j + 1 < cs.length := by rw [hl7]; exact hj7
      have v1 := (hv7 j (by show j < 7; omega) j1).bel hb3
      have v2 := (hv7 (j + 1) hj7 j2).bel hb3
      refine WC.skip (thenQ.normal ?_)
      refine WC.seq ?_
      refine WC.block ?_
      refine WC.seq ?_
      refine WC.regionB (fun i => Nat.beq i 16) [(0, .any), (1, .any), (2, .any), (3, .held), (4, .any), (5, .any), (6, .any), (7, .any), (8, .held), (9, .seq), (10, .any), (11, .any), (12, .any), (13, .any), (14, .any), (15, .held), (16, .seq), (17, .any), (18, .any)] mixed (by kernel_rfl) (fun w6 hS6 hheap => ?_)
      refine RL.any rfl rfl (fun _ => Y.move) ?_
      refine RL.any rfl rfl (fun _ => Y.move) ?_
      refine RL.yex rfl rfl (Y.idx Tryd.underlying24 ti26 (by decide) (l21.bel hb3) rfl (by omega) (by omega)) ?_
      rintro _ ⟨b31, o31, rfl, hc31⟩
      refine RL.held rfl rfl hS6 (fun _ hb9 => Y.loadK Tryd.underlying26 rfl ti26 (cs[j].h) rfl (Cells.bel (elem_cells j1 hc31) hb9)) ?_
      refine RL.any rfl rfl (fun _ => Y.move) ?_
      refine RL.any rfl rfl (fun _ => Y.move) ?_
      refine RL.any rfl rfl (fun _ => Y.add64 rfl rfl (by omega)) ?_
      refine RL.yex rfl rfl (Y.idx Tryd.underlying24 ti26 (by decide) (l21.bel hb3) rfl (by omega) (by omega)) ?_
      rintro _ ⟨b36, o36, rfl, hc36⟩
      refine RL.held rfl rfl hS6 (fun _ hb9 => Y.loadK Tryd.underlying26 rfl ti26 (cs[j + 1].h) rfl (Cells.bel (elem_cells (j := j + 1) j2 hc36) hb9)) ?_
      refine RL.call rfl rfl (C.func go27) (compare_ret _ _ _ _ _ (v1.bel hS6) (v2.bel hS6)) ?_
      rintro _ w38 ⟨rfl, hb38⟩
      refine ⟨.inr (fun h => Below.step h hb38), ?_⟩
      refine RL.any rfl rfl (fun _ => Y.dF (Y.geq rfl rfl) (by omega)) ?_
      refine RL.any rfl rfl (fun _ => Y.move) ?_
      refine RL.any rfl rfl (fun _ => Y.move) ?_
      refine RL.any rfl rfl (fun _ => Y.move) ?_
      refine RL.yex rfl rfl (Y.idx Tryd.underlying24 ti26 (by decide) (l21.bel hb3) rfl (by omega) (by omega)) ?_
      rintro _ ⟨b43, o43, rfl, hc43⟩
      refine RL.held rfl rfl (Below.step hS6 hb38) (fun _ hb9 => Y.loadK Tryd.underlying26 rfl ti26 (cs[j].h) rfl (Cells.bel (elem_cells j1 hc43) hb9)) ?_
      refine RL.call rfl rfl (C.func go18) (vmay_ret _ _ _ ((hTT.bel hb3).bel (Below.step hS6 hb38)) ((v1.bel hS6).bel hb38)) ?_
      rintro _ w45 ⟨rfl, hb45⟩
      refine ⟨.inl rfl, ?_⟩
      refine RL.any rfl rfl (fun _ => Y.dF (Y.nei rfl rfl) (fun h => h hm)) ?_
      refine RL.any rfl rfl (fun _ => Y.pickF rfl) ?_
      refine RL.nil (thenQ.normal ?_)
      refine WC.condF (rfl) ?_
      refine WC.skip (inBlockQ.normal (thenQ.normal ?_))
      refine WC.region rfl ?_
      refine WL.y rfl (Y.move) ?_
      refine WL.y rfl (Y.add64 rfl rfl (by omega)) ?_
      refine WL.y rfl (Y.assign) ?_
      refine WL.nil (thenQ.normal ?_)
      have hs6 := Below.step (Below.step hS6 hb38) hb45
      exact ⟨j + 1, by omega, by omega, rfl, Below.step hb2 hs6, Below.step hb3 hs6, _, ov_mk ⟨rfl, rfl, rfl, trivial⟩⟩
    · have e1 := V0_deep
      have e2 := V0_size
      have hV2 := hV.bel hb3
      have hBV2 := hBV.bel hb3
      refine WC.exit (thenQ.exit (thenQ.exit (inBlockQ.hit (thenQ.normal ?_))))
      refine WC.seqR rfl ?_
      refine WL.y rfl (Y.loadK Tryd.underlying26 rfl ti26 (hV2.len) rfl (hBV2.cells)) ?_
      refine WL.call rfl (C.func go20) (deep_ret V0 _ _ hV2) ?_
      rintro _ w49 ⟨rfl, hb49⟩
      refine WL.y rfl (Y.dT (Y.eqi rfl rfl) (by omega)) ?_
      refine WL.y rfl (Y.move) ?_
      refine WL.y rfl (Y.loadK Tryd.underlying26 rfl ti26 (hV2.len) rfl ((hBV2.bel hb49).cells)) ?_
      refine WL.call rfl (C.func go22) (size_ret V0 _ _ (hV2.bel hb49)) ?_
      rintro _ w53 ⟨rfl, hb53⟩
      refine WL.y rfl (Y.dT (Y.eqi rfl rfl) (by omega)) ?_
      refine WL.y rfl (Y.pickT rfl) ?_
      refine WL.y rfl (Y.assign) ?_
      refine WL.nil ?_
      refine WC.ret (endQ.one (.inr rfl) ?_)
      exact ⟨rfl, Below.step (Below.step hb2 hb49) hb53⟩
end Go.Proofs.YthcppegkpkgnpaaDoor
