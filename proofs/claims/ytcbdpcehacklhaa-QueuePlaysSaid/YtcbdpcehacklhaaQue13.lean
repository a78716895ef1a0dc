/-
  law23: asks: walk.
-/
import Derived.Test.YtcbdpcehacklhaaQue12
namespace Go.Proofs.Ytcbdpcehacklhaa
open Go Go.RowKit Go.Cx
set_option linter.unusedVariables false
set_option maxHeartbeats 8000000
set_option maxRecDepth 20000
theorem asks_ret {w0 w : World} {MQ MR : Nat → Prop} {q rb : Nat} {last : Int} {ms : List Mt} (hq : QW w MQ q last ms) (hr : RQ w0 w MR rb last ms) (hw : Below w0.heap.size w0 w) (n : Int) (hn : n ≤ 9223372036854775807) (x : Int) (hx : 0 ≤ x ∧ x ≤ 18446744073709551615) : Ret Try.prog 26 [.pointer (some ⟨q, 0, none⟩), .pointer (some ⟨rb, 0, none⟩), .int .i64 n, .int .u64 x].toArray w fun v w' => v = .bool true ∧ Below w.heap.size w w' := by
  have hr' := hr
  obtain ⟨r, hB, hM, hR, hrg⟩ := hr
  have hNL := hR.at hw
  have hqq := hR.sl
  obtain ⟨bl, lc, n1, hs, n4⟩ := hqq
  have hnl := numd_len last ms
  have hlen : (numd last ms).length ≤ 517417236585 := by omega
  have hlen2 : ((numd last ms).take (batchK last ms.length n x)).length ≤ 517417236585 := by rw [List.length_take]; omega
  refine Ret.of (n := 92) (rs := #[.tmp 8]) Try.func26 rfl rfl rfl (by simp) ?_
  refine WC.seqR rfl ?_
  refine WL.y rfl (Y.assign) ?_
  refine WL.nil ?_
  refine WC.seq ?_
  refine WC.seq ?_
  refine WC.regionB (fun i => Nat.beq i 33 || Nat.beq i 40 || Nat.beq i 44 || Nat.beq i 45) [(0, .any), (2, .any), (3, .any), (4, .any), (5, .held), (1, .seq), (6, .any), (7, .any), (8, .any), (10, .any), (11, .any), (12, .any), (13, .held), (9, .seq), (14, .any), (15, .any), (16, .any), (17, .any), (19, .any), (20, .any), (21, .any), (22, .held), (23, .any), (18, .seq), (24, .any), (25, .any), (26, .any), (27, .any), (29, .any), (30, .any), (31, .any), (32, .held), (28, .seq), (33, .seq), (34, .any), (35, .any), (36, .any), (37, .any), (38, .any), (39, .any), (41, .any), (42, .any), (43, .any), (40, .seq), (44, .seq), (45, .seq), (46, .any), (47, .any)] mixed (by kernel_rfl) (fun wr1 hS1 hheap => ?_)
  have kr1 := hS1
  refine RL.any rfl rfl (fun _ => Y.move) ?_
  refine RL.any rfl rfl (fun _ => Y.move) ?_
  refine RL.any rfl rfl (fun _ => Y.nilCheck rfl) ?_
  refine RL.any rfl rfl (fun _ => Y.fieldAddr fi63f0 ti33 (by decide) rfl (rfl) _) ?_
  refine RL.held rfl rfl hS1 (fun _ hb9 => Y.load1 Try.underlying33 rfl rfl (cell_bel (hB.cell 0) hb9)) ?_
  refine RL.call rfl rfl (C.func go20) (qlast_ret (hq.bel kr1)) ?_
  rintro _ _ ⟨rfl, rfl⟩
  refine ⟨.inr id, ?_⟩
  refine RL.any rfl rfl (fun _ => Y.dF (Y.nei rfl rfl) (fun h => h rfl)) ?_
  refine RL.any rfl rfl (fun _ => Y.move) ?_
  refine RL.any rfl rfl (fun _ => Y.move) ?_
  refine RL.any rfl rfl (fun _ => Y.move) ?_
  refine RL.any rfl rfl (fun _ => Y.nilCheck rfl) ?_
  refine RL.any rfl rfl (fun _ => Y.fieldAddr fi63f1 ti33 (by decide) rfl (rfl) _) ?_
  refine RL.held rfl rfl hS1 (fun _ hb9 => Y.load1 Try.underlying33 rfl rfl (cell_bel (hB.cell 1) hb9)) ?_
  refine RL.call rfl rfl (C.func go17) (qnext_ret (hq.bel kr1)) ?_
  rintro _ w21 ⟨rfl, hb21⟩
  refine ⟨.inr (fun h => Below.step h hb21), ?_⟩
  have k21 := Below.step kr1 hb21
  refine RL.any rfl rfl (fun _ => Y.dF (Y.nei rfl rfl) (fun h => h rfl)) ?_
  refine RL.any rfl rfl (fun _ => Y.pickF rfl) ?_
  refine RL.any rfl rfl (fun _ => Y.move) ?_
  refine RL.any rfl rfl (fun _ => Y.move) ?_
  refine RL.any rfl rfl (fun _ => Y.move) ?_
  refine RL.any rfl rfl (fun _ => Y.nilCheck rfl) ?_
  refine RL.any rfl rfl (fun _ => Y.fieldAddr fi63f2 ti34 (by decide) rfl (rfl) _) ?_
  refine RL.held rfl rfl (Below.step hS1 hb21) (fun _ hb9 => Y.load1 Try.underlying34 rfl rfl (cell_bel (hB.cell 2) hb9)) ?_
  refine RL.any rfl rfl (fun _ => Y.lenSl Try.underlying34 (hs) _) ?_
  refine RL.call rfl rfl (C.func go21) (qlen_ret (hq.bel k21)) ?_
  rintro _ _ ⟨rfl, rfl⟩
  refine ⟨.inr id, ?_⟩
  refine RL.any rfl rfl (fun _ => Y.dF (Y.nei rfl rfl) (fun h => h rfl)) ?_
  refine RL.any rfl rfl (fun _ => Y.pickF rfl) ?_
  refine RL.any rfl rfl (fun _ => Y.move) ?_
  refine RL.any rfl rfl (fun _ => Y.move) ?_
  refine RL.any rfl rfl (fun _ => Y.move) ?_
  refine RL.any rfl rfl (fun _ => Y.nilCheck rfl) ?_
  refine RL.any rfl rfl (fun _ => Y.fieldAddr fi63f2 ti34 (by decide) rfl (rfl) _) ?_
  refine RL.held rfl rfl (Below.step hS1 hb21) (fun _ hb9 => Y.load1 Try.underlying34 rfl rfl (cell_bel (hB.cell 2) hb9)) ?_
  refine RL.call rfl rfl (C.func go12) (qall_ret (hq.bel k21)) ?_
  rintro r40 w40 ⟨h40, hb40⟩
  refine ⟨.inr (fun h => Below.step h hb40), ?_⟩
  have k40 := Below.step k21 hb40
  refine RL.call rfl rfl (C.func go19) (sameT_ret _ _ _ _ h40.at (hNL.bel k40) hlen) ?_
  rintro _ w45 ⟨rfl, hb45⟩
  refine ⟨.inl rfl, ?_⟩
  have k45 := Below.step k40 hb45
  refine RL.any rfl rfl (fun _ => Y.bF (Y.not rfl) (rfl)) ?_
  refine RL.any rfl rfl (fun _ => Y.pickF rfl) ?_
  refine RL.any rfl rfl (fun _ => Y.move) ?_
  refine RL.any rfl rfl (fun _ => Y.move) ?_
  refine RL.any rfl rfl (fun _ => Y.move) ?_
  refine RL.any rfl rfl (fun _ => Y.move) ?_
  refine RL.any rfl rfl (fun _ => Y.move) ?_
  refine RL.any rfl rfl (fun _ => Y.move) ?_
  refine RL.any rfl rfl (fun _ => Y.move) ?_
  refine RL.call rfl rfl (C.func go13) (qbatch_ret (hq.bel k45) n x hn hx.1) ?_
  rintro r52 w52 ⟨h52, hb52⟩
  refine ⟨.inl rfl, ?_⟩
  have k52 := Below.step k45 hb52
  refine RL.call rfl rfl (C.func go33) (rbatch_ret (hr'.bel k52) n x (hw.trans ((k52).mono hw.size))) ?_
  rintro r56 w56 ⟨h56, hb56⟩
  refine ⟨.inl rfl, ?_⟩
  have k56 := Below.step k52 hb56
  refine RL.call rfl rfl (C.func go19) (sameT_ret _ _ _ _ (h52.at.bel hb56) h56 hlen2) ?_
  rintro _ w57 ⟨rfl, hb57⟩
  refine ⟨.inl rfl, ?_⟩
  have k57 := Below.step k56 hb57
  refine RL.any rfl rfl (fun _ => Y.bF (Y.not rfl) (rfl)) ?_
  refine RL.any rfl rfl (fun _ => Y.pickF rfl) ?_
  refine RL.nil (thenQ.normal ?_)
  refine WC.condF (rfl) ?_
  refine WC.skip (thenQ.normal ?_)
  refine WC.seqR rfl ?_
  refine WL.y rfl (Y.move) ?_
  refine WL.y rfl (Y.move) ?_
  refine WL.call rfl (C.func go14) (qfind_ret (hq.bel k57) x hx) ?_
  rintro _ w63 ⟨c63, rfl, h63, hb63⟩
  have k63 := Below.step k57 hb63
  refine WL.y rfl (Y.move) ?_
  refine WL.y rfl (Y.extract rfl rfl) ?_
  refine WL.y rfl (Y.extract rfl rfl) ?_
  refine WL.eex rfl (E.allocX ti30) ?_
  rintro _ w9 ⟨rfl, hB9, hb9⟩
  have k9 := Below.step k63 hb9
  refine WL.eex rfl (E.storeAllK (us := c63) ti30 h63.len rfl rfl h63.one hB9 rfl) ?_
  rintro _ w9s ⟨hB9', hg9⟩
  refine WL.y rfl (Y.assign) ?_
  refine WL.nil ?_
  have k9 : Below w.heap.size w w9s := Below.stepG k9 hg9 (by have := (k63).size; omega)
  have hr9 := hr'.bel k9
  have l63 := h63.len
  have h63' := (MtW.kept (Kept.of_grown (M := fun b => b = w63.heap.size) hg9 rfl) (fun b h1 h2 => by omega) ((h63.mono (M' := fun b => b < w63.heap.size) (fun b h1 _ => h1)).bel hb9)).at
  have hB9k := hB.bel k9
  clear h63 hB9 hg9
  refine WC.seqR rfl ?_
  refine WL.y rfl (Y.move) ?_
  refine WL.y rfl (Y.move) ?_
  refine WL.call rfl (C.func go34) (rfind_ret hr9 x) ?_
  rintro _ _ ⟨rfl, rfl⟩
  refine WL.y rfl (Y.assign) ?_
  refine WL.nil ?_
  refine WC.seq ?_
  by_cases c0 : last < x ∧ x ≤ last + ms.length
  · have e1 : findI last ms.length x = x - last - 1 := if_pos c0
    have e2 : (findQ last ms x).2 = 0 := by unfold findQ; rw [if_pos c0]
    have hj : (x - last - 1).toNat < ms.length := by omega
    have e3 : (findQ last ms x).1 = ms[(x - last - 1).toNat] := by
      unfold findQ
      rw [if_pos c0]
      show ms.getD _ nilMt = _
      rw [List.getD_eq_getElem?_getD, List.getElem?_eq_getElem hj]
      rfl
    rw [e3] at h63'
    have hjl : (x - last - 1).toNat < (numd last ms).length := by omega
    have hjc : (x - last - 1).toNat < lc.length := by omega
    have hm := n4 _ hjl hjc
    have hg : (numd last ms)[(x - last - 1).toNat].2 = ms[(x - last - 1).toNat] := by rw [numd_get last ms _ hj hjl]
    rw [hg] at hm
    refine WC.seqR rfl ?_
    refine WL.y rfl (Y.move) ?_
    refine WL.y rfl (Y.dF (Y.lss rfl rfl) (by omega)) ?_
    refine WL.nil ?_
    refine WC.condF (rfl) ?_
    refine WC.skip (thenQ.normal ?_)
    refine WC.seq ?_
    refine WC.regionB (fun i => Nat.beq i 12) [(0, .any), (1, .any), (2, .any), (3, .held), (4, .any), (5, .any), (6, .any), (7, .held), (8, .any), (9, .any), (10, .any), (11, .held), (12, .seq), (13, .any), (14, .any)] mixed (by kernel_rfl) (fun w7 hS7 hheap => ?_)
    have kr7 := Below.step k9 hS7
    refine RL.any rfl rfl (fun _ => Y.move) ?_
    refine RL.any rfl rfl (fun _ => Y.dT (Y.eqi rfl rfl) (e2)) ?_
    refine RL.any rfl rfl (fun _ => Y.move) ?_
    refine RL.held rfl rfl hS7 (fun _ hb9 => Y.loadK Try.underlying30 rfl ti30 (l63) rfl (Cells.bel hB9'.cells hb9)) ?_
    refine RL.any rfl rfl (fun _ => Y.move) ?_
    refine RL.any rfl rfl (fun _ => Y.nilCheck rfl) ?_
    refine RL.any rfl rfl (fun _ => Y.fieldAddr fi63f2 ti34 (by decide) rfl (rfl) _) ?_
    refine RL.held rfl rfl hS7 (fun _ hb9 => Y.load1 Try.underlying34 rfl rfl (cell_bel (hB9k.cell 2) hb9)) ?_
    refine RL.any rfl rfl (fun _ => Y.move) ?_
    refine RL.yex rfl rfl (Y.idx Try.underlying34 ti43 (by decide) (hs.bel k9) rfl (by omega) (by omega)) ?_
    rintro _ ⟨b87, o87, rfl, hc87⟩
    refine RL.any rfl rfl (fun _ => Y.fieldAddr fi43f1 ti30 (by decide) rfl (rfl) _) ?_
    refine RL.held rfl rfl hS7 (fun _ hb9 => Y.loadK Try.underlying30 rfl ti30 (lc[(x - last - 1).toNat].h) rfl (Cells.bel (Cells.tl (elem_num' hjl hjc (by rw [e1]) hc87)) hb9)) ?_
    refine RL.call rfl rfl (C.func go15) (rmequalT_ret _ _ _ _ (h63'.bel hS7) ((hm.bel (hw.trans (k9.mono hw.size))).bel hS7)) ?_
    rintro _ w90 ⟨rfl, hb90⟩
    refine ⟨.inl rfl, ?_⟩
    have k90 := Below.step kr7 hb90
    refine RL.any rfl rfl (fun _ => Y.pickT rfl) ?_
    refine RL.any rfl rfl (fun _ => Y.assign) ?_
    refine RL.nil (thenQ.normal ?_)
    refine WC.ret (endQ.one (.inr rfl) ?_)
    exact ⟨rfl, Below.step (Below.step k9 hS7) hb90⟩
  · have e1 : findI last ms.length x = -1 := if_neg c0
    have e4 : findQ last ms x = (nilMt, 12) := if_neg c0
    have e2 : (findQ last ms x).2 = 12 := by rw [e4]
    have e3 : (findQ last ms x).1 = nilMt := by rw [e4]
    rw [e3] at h63'
    skip
    refine WC.seqR rfl ?_
    refine WL.y rfl (Y.move) ?_
    refine WL.y rfl (Y.dT (Y.lss rfl rfl) (by omega)) ?_
    refine WL.nil ?_
    refine WC.condT (rfl) ?_
    refine WC.seqR rfl ?_
    refine WL.y rfl (Y.move) ?_
    refine WL.y rfl (Y.dT (Y.eqi rfl rfl) (e2)) ?_
    refine WL.y rfl (Y.move) ?_
    refine WL.y rfl (Y.loadK Try.underlying30 rfl ti30 (l63) rfl (hB9'.cells)) ?_
    refine WL.y rfl (Y.build (cells := (mtcell nilMt nilV nilV (.slice none 0 0)).toArray) (by kernel_rfl) _) ?_
    refine WL.call rfl (C.func go15) (rmequalT_ret nilMt _ _ _ h63' (nilMt_w (M := fun _ => True)).at) ?_
    rintro _ w76 ⟨rfl, hb76⟩
    have k76 := Below.step k9 hb76
    refine WL.y rfl (Y.pickT rfl) ?_
    refine WL.y rfl (Y.assign) ?_
    refine WL.nil ?_
    refine WC.ret (thenQ.ret (endQ.one (.inr rfl) ?_))
    exact ⟨rfl, Below.step k9 hb76⟩
end Go.Proofs.Ytcbdpcehacklhaa
