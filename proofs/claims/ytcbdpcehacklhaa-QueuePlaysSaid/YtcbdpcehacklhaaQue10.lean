/-
  The law QueueOwn: walk.
-/
import Derived.Test.YtcbdpcehacklhaaQue9
namespace Go.Proofs.Ytcbdpcehacklhaa
open Go Go.RowKit Go.Cx
set_option linter.unusedVariables false
set_option maxHeartbeats 8000000
set_option maxRecDepth 20000
def seqMt (m : Mt) : Mt := .mk 7 [] [] 0 false V.nil false V.nil [m]
theorem seq_at {w : World} {m : Mt} {c : List Value} {lv : Value} (h : MtAt w m c) (hs : SlK w 19 lv 1 c) : MtAt w (seqMt m) (mtcell (seqMt m) nilV nilV lv) :=
  .mk (lc := [⟨c, h.len⟩]) ⟨by simp [seqMt, Mt.k], by simp [seqMt, Mt.i], by simp [seqMt, Mt.key], by simp [seqMt, Mt.to], by simp [seqMt, Mt.l]⟩ (VW.nil (M := fun _ => True)).at (VW.nil (M := fun _ => True)).at rfl (fun j h1 h2 => match j, h1, h2 with | 0, _, _ => h | j + 1, h1, _ => absurd h1 (by simp [seqMt, Mt.l])) (by simpa [seqMt, Mt.l] using hs)
theorem seq_parts {w : World} {M : Nat → Prop} {m : Mt} {c : List Value} (h : MtW w M (seqMt m) c) : ∃ bl o cap c', c[18]? = some (.slice (some ⟨bl, o, none⟩) 1 cap) ∧ M bl ∧ OwnK w bl 30 19 (.slice (some ⟨bl, o, none⟩) 1 cap) 1 c' ∧ MtW w M m c' := by
  cases h with
  | @mk _ wc vc lv lc bl ok hw hv h1 h2 hm hs =>
    have hl1 : lc.length = 1 := h1
    match lc, hl1 with
    | [x], _ =>
      have hx := h2 0 (by show 0 < 1; omega) (by simp)
      have hs1 : OwnK w bl 30 19 lv 1 x.c := by
        have e : [x].flatMap MC.c = x.c := by simp
        rw [e] at hs
        exact hs
      have hqq := hs1.form (by omega)
      obtain ⟨o, cap, rfl, _, _, _⟩ := hqq
      refine ⟨bl, o, cap, x.c, ?_, ?_, hs1, hx⟩
      · have hqq := six hw.len
        obtain ⟨a0, a1, a2, a3, a4, a5, rfl⟩ := hqq
        have hqq := six hv.len
        obtain ⟨b0, b1, b2, b3, b4, b5, rfl⟩ := hqq
        rfl
      · rcases hm with e | e
        · cases e
        · exact e
theorem blk_sl1 {w : World} {b k : Nat} {t : TypeId} {c : List Value} (h : Blk w b t c) (hk : c.length = k) : SlK w k (.slice (some ⟨b, 0, none⟩) 1 1) 1 c :=
  ⟨by omega, by unfold maxLen; omega, _, 1, rfl, Nat.le_refl _, by unfold maxLen; omega, fun i u hu => ⟨b, 0, rfl, by rw [h.cell]; simpa using hu⟩⟩
/-- the first of a list of one, and its list -/
theorem first_parts {w : World} {M : Nat → Prop} {m : Mt} {r : Value} (h : NLW w M (numd 0 [seqMt m]) r) : ∃ lc : List MC, SlK w 20 r 1 ((nums (numd 0 [seqMt m]) lc).flatMap nc) ∧ ∃ (hl : 0 < lc.length), MtW w M (seqMt m) lc[0].c := by
  obtain ⟨bl, lc, p1, p2, p3, p4⟩ := h
  have hl : 0 < lc.length := by rw [p1]; show 0 < 1; omega
  exact ⟨lc, p3.sl, hl, (p4 0 (by show 0 < 1; omega) hl).mono (fun b _ h => h.1)⟩
theorem rmequalT_ret (m : Mt) (w : World) (c d : List Value) (hc : MtAt w m c) (hd : MtAt w m d) : Ret Try.prog 15 [.agg c.toArray, .agg d.toArray].toArray w fun r w' => r = .bool true ∧ Below w.heap.size w w' :=
  (rmequal_ret m m w c d hc hd).mono fun r w' ⟨⟨e, h1, h2⟩, h3⟩ => ⟨by rw [h1, h2.2 rfl], h3⟩
def spoiltS : List UInt8 := [115, 112, 111, 105, 108, 116]
theorem spoilt_one : ∀ u ∈ dc spoiltS, One u = true := (delMt_w (w := default) (M := fun _ => True) (k := spoiltS) (by simp [spoiltS])).one
theorem nilV_one : ∀ u ∈ nilV, One u = true := one_vcell rfl rfl
theorem queueOwn_ret (w : World) (a : Value) (m : Mt) (ha : MArg w m a) : Ret Try.prog 3 [a].toArray w fun v w' => v = .bool true ∧ Below w.heap.size w w' := by
  obtain ⟨c, rfl, hm⟩ := ha
  have hcl := hm.len
  refine Ret.of (n := 114) (rs := #[.tmp 2]) Try.func3 rfl rfl rfl (by simp) ?_
  refine WC.seqR rfl ?_
  refine WL.eex rfl (E.boxX) ?_
  rintro _ w1 ⟨rfl, hB1, hb1⟩
  refine WL.y rfl (Y.assign) ?_
  refine WL.nil ?_
  refine WC.seqR rfl ?_
  refine WL.y rfl (Y.loadK Try.underlying30 rfl ti30 (hcl) rfl ((show Blk _ _ _ c from hB1).cells)) ?_
  refine WL.call rfl (C.func go9) (rmcopy_ret m _ _ (hm.bel hb1)) ?_
  rintro _ w13 ⟨c13, rfl, h13, hb13⟩
  refine WL.eex rfl (E.allocX ti30) ?_
  rintro _ w3 ⟨rfl, hB3, hb3⟩
  refine WL.eex rfl (E.storeAllK (us := c13) ti30 h13.len rfl rfl h13.one hB3 rfl) ?_
  rintro _ w3s ⟨hB3', hg3⟩
  refine WL.nil ?_
  have l1 := (show Blk w1 _ _ _ from hB1).lt
  have l3 := (show Blk w3 _ _ _ from hB3).lt
  have s13 := hb13.size
  have s3 := hb3.size
  have t3 := hg3.size
  have k3 : Below w.heap.size w w3s := Below.stepG (Below.step (Below.step hb1 hb13) hb3) hg3 (by omega)
  have B1 : Blk w3s w.heap.size 30 c := (((show Blk _ _ _ c from hB1).bel hb13).bel hb3).grown hg3 (by omega)
  have A3 : MtW w3s (fun b => w1.heap.size ≤ b ∧ b < w13.heap.size) m c13 := MtW.kept (Kept.of_grown (M := fun b => b = w13.heap.size) hg3 rfl) (fun b h1 h2 => by omega) ((h13.mono (fun b h1 h2 => ⟨h2, h1⟩)).bel hb3)
  clear hB1 hB3 h13
  refine WC.seqR rfl ?_
  refine WL.y rfl (Y.loadK Try.underlying30 rfl ti30 (A3.len) rfl (hB3'.cells)) ?_
  refine WL.eex rfl (E.build1A Try.underlying28 ti30 A3.len (by decide) (by decide) rfl) ?_
  rintro _ w15 ⟨rfl, ho15, hb15, hB15⟩
  refine WL.y rfl (Y.build (cells := (mtcell (seqMt m) nilV nilV (.slice (some ⟨w3s.heap.size, 0, none⟩) 1 1)).toArray) (by kernel_rfl) _) ?_
  refine WL.eex rfl (E.allocX ti30) ?_
  rintro _ w4 ⟨rfl, hB4, hb4⟩
  refine WL.eex rfl (E.storeAllK (us := mtcell (seqMt m) nilV nilV (.slice (some ⟨w3s.heap.size, 0, none⟩) 1 1)) ti30 rfl rfl rfl (one_mt nilV_one nilV_one rfl) hB4 rfl) ?_
  rintro _ w4s ⟨hB4', hg4⟩
  refine WL.nil ?_
  have l15 := hB15.lt
  have l4 := (show Blk w4 _ _ _ from hB4).lt
  have s15 := hb15.size
  have s4 := hb4.size
  have t4 := hg4.size
  have k4 : Below w.heap.size w w4s := Below.stepG (Below.step (Below.step k3 hb15) hb4) hg4 (by omega)
  have B1' : Blk w4s w.heap.size 30 c := ((B1.bel hb15).bel hb4).grown hg4 (by omega)
  have B15' : Blk w4s w3s.heap.size 30 c13 := (hB15.bel hb4).grown hg4 (by omega)
  have A4 : MtW w4s (fun b => w1.heap.size ≤ b ∧ b < w13.heap.size) m c13 := MtW.kept (Kept.of_grown (M := fun b => b = w15.heap.size) hg4 rfl) (fun b h1 h2 => by omega) ((A3.bel hb15).bel hb4)
  have S15 : SlK w4s 19 (.slice (some ⟨w3s.heap.size, 0, none⟩) 1 1) 1 c13 := blk_sl1 B15' A4.len
  clear hB4 B1 hB3' A3 ho15 hB15
  refine WC.seqR rfl ?_
  refine WL.y rfl (Y.build (cells := #[.int .u64 0, .slice none 0 0]) (by kernel_rfl) _) ?_
  refine WL.eex rfl (E.boxX) ?_
  rintro _ w18 ⟨rfl, hB18, hb18⟩
  refine WL.y rfl (Y.assign) ?_
  refine WL.nil ?_
  have hq0 : QW w18 (fun b => w4s.heap.size ≤ b) w4s.heap.size 0 [] := QW.zero hB18 (Nat.le_refl _)
  have s18 := hb18.size
  clear hB18
  refine WC.seqR rfl ?_
  refine WL.y rfl (Y.move) ?_
  refine WL.y rfl (Y.loadK Try.underlying30 rfl ti30 (rfl) rfl ((hB4'.bel hb18).cells)) ?_
  refine WL.call rfl (C.func go10) (qadd_at hq0 s18 (seqMt m) _ (seq_at (A4.at.bel hb18) (S15.bel hb18)) (by simp) (by simp)) ?_
  rintro _ w21 ⟨rfl, h21, hb21⟩
  refine WL.nil ?_
  have s21 := hb21.size
  have k21 : Below w.heap.size w w21 := Below.trans (Below.step k4 hb18) (hb21.mono (by omega))
  have q21 : QW w21 (fun b => w4s.heap.size ≤ b ∧ b < w21.heap.size) w4s.heap.size 0 [seqMt m] := h21.mono (fun b h1 h2 => ⟨h2, h1⟩)
  have C1 : Blk w21 w.heap.size 30 c := (B1'.bel hb18).belB hb21 (by omega)
  have C4 : Blk w21 w15.heap.size 30 (mtcell (seqMt m) nilV nilV (.slice (some ⟨w3s.heap.size, 0, none⟩) 1 1)) := (hB4'.bel hb18).belB hb21 (by omega)
  have C15 : Blk w21 w3s.heap.size 30 c13 := (B15'.bel hb18).belB hb21 (by omega)
  have l13 := A4.len
  clear h21 B1' hB4' B15' A4 S15
  refine WC.seq ?_
  refine WC.regionB (fun i => Nat.beq i 4) [(0, .any), (1, .held), (2, .seq), (3, .any), (4, .seq)] mixed (by kernel_rfl) (fun w5 hS5 hheap => ?_)
  refine RL.any rfl rfl (fun _ => Y.fieldAddr fi30f8 ti28 (by decide) rfl (rfl) _) ?_
  refine RL.held rfl rfl hS5 (fun _ hb9 => Y.load1 Try.underlying28 rfl rfl (cell_bel (C4.cell 18) hb9)) ?_
  refine RL.call rfl rfl (C.func go11) (del_ret _ spoiltS (by simp [spoiltS])) ?_
  rintro _ w24 ⟨rfl, hb24⟩
  refine ⟨.inr (fun h => Below.step h hb24), ?_⟩
  refine RL.any rfl rfl (fun _ => Y.idxV Try.underlying28 ti30 rfl rfl (by omega) (by omega) _) ?_
  refine RL.eex rfl rfl (E.storeAllK (us := dc spoiltS) ti30 rfl rfl rfl spoilt_one ((C15.bel hS5).bel hb24) l13) ?_ ?_
  · exact fun _ _ _ => .inl rfl
  rintro _ w5s ⟨-, hg5⟩
  refine RL.nil (thenQ.normal ?_)
  have s5 := hS5.size
  have s24 := hb24.size
  have t5 := hg5.size
  have b5 := Below.step hS5 hb24
  have k5 : Below w.heap.size w w5s := Below.stepG (Below.step k21 b5) hg5 (by omega)
  have kG5 : Kept (fun b => b = w3s.heap.size) w24 w5s := Kept.of_grown hg5 rfl
  have q5 := (q21.bel b5).kept kG5 (fun b h1 h2 => by omega)
  have D1 : Blk w5s w.heap.size 30 c := (C1.bel b5).grown hg5 (by omega)
  clear q21 C1 C4 C15
  refine WC.seqR rfl ?_
  refine WL.y rfl (Y.move) ?_
  refine WL.call rfl (C.func go12) (qall_ret q5) ?_
  rintro r27 w27 ⟨h27, hb27⟩
  refine WL.y rfl (Y.assign) ?_
  refine WL.nil ?_
  refine WC.seq ?_
  have hqq := first_parts h27
  obtain ⟨lc, hs27, hl27, hf27⟩ := hqq
  have hqq := seq_parts hf27
  obtain ⟨bl, o, cap, c', hc18, hMbl, hOw, hx⟩ := hqq
  have s27 := hb27.size
  replace hMbl : w5s.heap.size ≤ bl := hMbl
  have q27 := q5.bel hb27
  have k27 := Below.step k5 hb27
  have E1 := D1.bel hb27
  have z1 : 0 < (numd 0 [seqMt m]).length := by show 0 < 1; omega
  clear q5 D1 h27 hf27 hx
  refine WC.seqR rfl ?_
  refine WL.y rfl (Y.move) ?_
  refine WL.y rfl (Y.lenSl Try.underlying34 (hs27) _) ?_
  refine WL.y rfl (Y.dF (Y.nei rfl rfl) (fun h => h rfl)) ?_
  refine WL.y rfl (Y.move) ?_
  refine WL.y rfl (Y.move) ?_
  refine WL.yex rfl (Y.idx Try.underlying34 ti43 (by decide) (hs27) rfl (by omega) (by omega)) ?_
  rintro _ ⟨b33, o33, rfl, hc33⟩
  refine WL.y rfl (Y.fieldAddr fi43f1 ti30 (by decide) rfl (rfl) _) ?_
  refine WL.y rfl (Y.fieldAddr fi30f8 ti28 (by decide) rfl (rfl) _) ?_
  refine WL.y rfl (Y.load1 Try.underlying28 rfl rfl (elem_num' z1 hl27 rfl hc33 19 _ hc18)) ?_
  refine WL.y rfl (Y.lenSl Try.underlying28 (hOw.sl) _) ?_
  refine WL.y rfl (Y.dF (Y.nei rfl rfl) (fun h => h rfl)) ?_
  refine WL.y rfl (Y.pickF rfl) ?_
  refine WL.nil ?_
  refine WC.condF (rfl) ?_
  refine WC.skip (thenQ.normal ?_)
  refine WC.seq ?_
  refine WC.regionB (fun i => Nat.beq i 7) [(0, .any), (1, .any), (2, .any), (3, .any), (4, .held), (5, .seq), (6, .any), (7, .seq)] mixed (by kernel_rfl) (fun w9x hS9 hheap => ?_)
  refine RL.any rfl rfl (fun _ => Y.move) ?_
  refine RL.yex rfl rfl (Y.idx Try.underlying34 ti43 (by decide) (hs27) rfl (by omega) (by omega)) ?_
  rintro _ ⟨b41, o41, rfl, hc41⟩
  refine RL.any rfl rfl (fun _ => Y.fieldAddr fi43f1 ti30 (by decide) rfl (rfl) _) ?_
  refine RL.any rfl rfl (fun _ => Y.fieldAddr fi30f8 ti28 (by decide) rfl (rfl) _) ?_
  refine RL.held rfl rfl hS9 (fun _ hb9 => Y.load1 Try.underlying28 rfl rfl (cell_bel (elem_num' z1 hl27 rfl hc41 19 _ hc18) hb9)) ?_
  refine RL.call rfl rfl (C.func go11) (del_ret _ spoiltS (by simp [spoiltS])) ?_
  rintro _ w45 ⟨rfl, hb45⟩
  refine ⟨.inr (fun h => Below.step h hb45), ?_⟩
  refine RL.any rfl rfl (fun _ => Y.idxV Try.underlying28 ti30 rfl rfl (by omega) (by omega) _) ?_
  refine RL.eex rfl rfl (E.storeK (i := 0) (us := dc spoiltS) ti30 rfl rfl rfl spoilt_one ((hOw.bel hS9).bel hb45) (by omega) rfl) ?_ ?_
  · exact fun _ _ _ => .inl rfl
  rintro _ w9s ⟨-, hg9⟩
  refine RL.nil (thenQ.normal ?_)
  have s9 := hS9.size
  have s45 := hb45.size
  have t9 := hg9.size
  have b9 := Below.step hS9 hb45
  have k9 : Below w.heap.size w w9s := Below.stepG (Below.step k27 b9) hg9 (by omega)
  have kG9 : Kept (fun b => b = bl) w45 w9s := Kept.of_grown hg9 rfl
  have q9 := (q27.bel b9).kept kG9 (fun b h1 h2 => by omega)
  have F1 : Blk w9s w.heap.size 30 c := (E1.bel b9).grown hg9 (by omega)
  clear q27 E1 hOw hs27 hc18 hg9
  refine WC.seqR rfl ?_
  refine WL.y rfl (Y.move) ?_
  refine WL.call rfl (C.func go13) (qbatch_ret q9 1 9 (by omega) (by omega)) ?_
  rintro r48 w48 ⟨h48, hb48⟩
  refine WL.y rfl (Y.assign) ?_
  refine WL.nil ?_
  refine WC.seq ?_
  have h48' : NLW w48 (fun b => w9s.heap.size ≤ b) (numd 0 [seqMt m]) r48 := h48
  have hqq := first_parts h48'
  obtain ⟨ld, hs48, hl48, hf48⟩ := hqq
  have hqq := seq_parts hf48
  obtain ⟨bm, o2, cap2, c2', hd18, hMbm, hOm, hx2⟩ := hqq
  have s48 := hb48.size
  replace hMbm : w9s.heap.size ≤ bm := hMbm
  have q48 := q9.bel hb48
  have k48 := Below.step k9 hb48
  have G1 := F1.bel hb48
  clear q9 F1 h48 h48' hf48 hx2
  refine WC.seqR rfl ?_
  refine WL.y rfl (Y.move) ?_
  refine WL.y rfl (Y.lenSl Try.underlying34 (hs48) _) ?_
  refine WL.y rfl (Y.dF (Y.nei rfl rfl) (fun h => h rfl)) ?_
  refine WL.y rfl (Y.move) ?_
  refine WL.y rfl (Y.move) ?_
  refine WL.yex rfl (Y.idx Try.underlying34 ti43 (by decide) (hs48) rfl (by omega) (by omega)) ?_
  rintro _ ⟨b54, o54, rfl, hc54⟩
  refine WL.y rfl (Y.fieldAddr fi43f1 ti30 (by decide) rfl (rfl) _) ?_
  refine WL.y rfl (Y.fieldAddr fi30f8 ti28 (by decide) rfl (rfl) _) ?_
  refine WL.y rfl (Y.load1 Try.underlying28 rfl rfl (elem_num' z1 hl48 rfl hc54 19 _ hd18)) ?_
  refine WL.y rfl (Y.lenSl Try.underlying28 (hOm.sl) _) ?_
  refine WL.y rfl (Y.dF (Y.nei rfl rfl) (fun h => h rfl)) ?_
  refine WL.y rfl (Y.pickF rfl) ?_
  refine WL.nil ?_
  refine WC.condF (rfl) ?_
  refine WC.skip (thenQ.normal ?_)
  refine WC.seq ?_
  refine WC.regionB (fun i => Nat.beq i 7) [(0, .any), (1, .any), (2, .any), (3, .any), (4, .held), (5, .seq), (6, .any), (7, .seq)] mixed (by kernel_rfl) (fun w13x hS13 hheap => ?_)
  refine RL.any rfl rfl (fun _ => Y.move) ?_
  refine RL.yex rfl rfl (Y.idx Try.underlying34 ti43 (by decide) (hs48) rfl (by omega) (by omega)) ?_
  rintro _ ⟨b62, o62, rfl, hc62⟩
  refine RL.any rfl rfl (fun _ => Y.fieldAddr fi43f1 ti30 (by decide) rfl (rfl) _) ?_
  refine RL.any rfl rfl (fun _ => Y.fieldAddr fi30f8 ti28 (by decide) rfl (rfl) _) ?_
  refine RL.held rfl rfl hS13 (fun _ hb9 => Y.load1 Try.underlying28 rfl rfl (cell_bel (elem_num' z1 hl48 rfl hc62 19 _ hd18) hb9)) ?_
  refine RL.call rfl rfl (C.func go11) (del_ret _ spoiltS (by simp [spoiltS])) ?_
  rintro _ w66 ⟨rfl, hb66⟩
  refine ⟨.inr (fun h => Below.step h hb66), ?_⟩
  refine RL.any rfl rfl (fun _ => Y.idxV Try.underlying28 ti30 rfl rfl (by omega) (by omega) _) ?_
  refine RL.eex rfl rfl (E.storeK (i := 0) (us := dc spoiltS) ti30 rfl rfl rfl spoilt_one ((hOm.bel hS13).bel hb66) (by omega) rfl) ?_ ?_
  · exact fun _ _ _ => .inl rfl
  rintro _ w13s ⟨-, hg13⟩
  refine RL.nil (thenQ.normal ?_)
  have s13x := hS13.size
  have s66 := hb66.size
  have t13 := hg13.size
  have b13 := Below.step hS13 hb66
  have k13 : Below w.heap.size w w13s := Below.stepG (Below.step k48 b13) hg13 (by omega)
  have kG13 : Kept (fun b => b = bm) w66 w13s := Kept.of_grown hg13 rfl
  have q13 := (q48.bel b13).kept kG13 (fun b h1 h2 => by omega)
  have H1 : Blk w13s w.heap.size 30 c := (G1.bel b13).grown hg13 (by omega)
  have hff : findQ 0 [seqMt m] 1 = (seqMt m, 0) := by
    unfold findQ
    rw [if_pos (by simp)]
    rfl
  have hf2 : (findQ 0 [seqMt m] 1).2 = 0 := by rw [hff]
  clear q48 G1 hOm hs48 hd18 hg13
  refine WC.seqR rfl ?_
  refine WL.y rfl (Y.move) ?_
  refine WL.call rfl (C.func go14) (qfind_ret q13 1 (by omega)) ?_
  rintro _ w70 ⟨c70, rfl, h70, hb70⟩
  refine WL.y rfl (Y.move) ?_
  refine WL.y rfl (Y.extract rfl rfl) ?_
  refine WL.y rfl (Y.extract rfl rfl) ?_
  refine WL.eex rfl (E.allocX ti30) ?_
  rintro _ w8 ⟨rfl, hB8, hb8⟩
  refine WL.eex rfl (E.storeAllK (us := c70) ti30 h70.len rfl rfl h70.one hB8 rfl) ?_
  rintro _ w8s ⟨hB8', hg8⟩
  refine WL.y rfl (Y.assign) ?_
  refine WL.nil ?_
  refine WC.seq ?_
  rw [hff] at h70
  have l8 := (show Blk w8 _ _ _ from hB8).lt
  have s70 := hb70.size
  have s8 := hb8.size
  have t8 := hg8.size
  have k8 : Below w.heap.size w w8s := Below.stepG (Below.step (Below.step k13 hb70) hb8) hg8 (by omega)
  have kG8 : Kept (fun b => b = w70.heap.size) w8 w8s := Kept.of_grown hg8 rfl
  have q8 := ((q13.bel hb70).bel hb8).kept kG8 (fun b h1 h2 => by omega)
  have J1 : Blk w8s w.heap.size 30 c := ((H1.bel hb70).bel hb8).grown hg8 (by omega)
  have h70' := MtW.kept kG8 (fun b h1 h2 => by omega) ((h70.mono (M' := fun b => w13s.heap.size ≤ b ∧ b < w70.heap.size) (fun b h1 h2 => ⟨h2, h1⟩)).bel hb8)
  have l70 := h70.len
  have hqq := seq_parts h70'
  obtain ⟨bf, of, capf, cf, he18, hMf, hOf, hxf⟩ := hqq
  replace hMf : w13s.heap.size ≤ bf ∧ bf < w70.heap.size := hMf
  have lf := hxf.len
  clear q13 H1 h70 h70' hB8
  refine WC.seq ?_
  refine WC.regionB (fun i => Nat.beq i 14) [(0, .any), (1, .any), (2, .any), (3, .any), (4, .held), (5, .any), (6, .any), (7, .any), (8, .any), (9, .any), (10, .held), (11, .any), (12, .held), (13, .held), (14, .seq), (15, .any), (16, .any)] mixed (by kernel_rfl) (fun w15x hS15 hheap => ?_)
  refine RL.any rfl rfl (fun _ => Y.move) ?_
  refine RL.any rfl rfl (fun _ => Y.dF (Y.nei rfl rfl) (fun h => h hf2)) ?_
  refine RL.any rfl rfl (fun _ => Y.move) ?_
  refine RL.any rfl rfl (fun _ => Y.fieldAddr fi30f8 ti28 (by decide) rfl (rfl) _) ?_
  refine RL.held rfl rfl hS15 (fun _ hb9 => Y.load1 Try.underlying28 rfl rfl (cell_bel ((hB8'.cell 18).trans he18) hb9)) ?_
  refine RL.any rfl rfl (fun _ => Y.lenSl Try.underlying28 (hOf.sl) _) ?_
  refine RL.any rfl rfl (fun _ => Y.dF (Y.nei rfl rfl) (fun h => h rfl)) ?_
  refine RL.any rfl rfl (fun _ => Y.pickF rfl) ?_
  refine RL.any rfl rfl (fun _ => Y.move) ?_
  refine RL.any rfl rfl (fun _ => Y.fieldAddr fi30f8 ti28 (by decide) rfl (rfl) _) ?_
  refine RL.held rfl rfl hS15 (fun _ hb9 => Y.load1 Try.underlying28 rfl rfl (cell_bel ((hB8'.cell 18).trans he18) hb9)) ?_
  refine RL.any rfl rfl (fun _ => Y.idxV Try.underlying28 ti30 rfl rfl (by omega) (by omega) _) ?_
  refine RL.held rfl rfl hS15 (fun _ hb9 => Y.loadK Try.underlying30 rfl ti30 (lf) rfl (Cells.bel hOf.cells hb9)) ?_
  refine RL.held rfl rfl hS15 (fun _ hb9 => Y.loadK Try.underlying30 rfl ti30 (hcl) rfl (Cells.bel J1.cells hb9)) ?_
  refine RL.call rfl rfl (C.func go15) (rmequalT_ret m _ _ _ (hxf.at.bel hS15) ((hm.bel k8).bel hS15)) ?_
  rintro _ w87 ⟨rfl, hb87⟩
  refine ⟨.inl rfl, ?_⟩
  refine RL.any rfl rfl (fun _ => Y.bF (Y.not rfl) (rfl)) ?_
  refine RL.any rfl rfl (fun _ => Y.pickF rfl) ?_
  refine RL.nil (thenQ.normal ?_)
  refine WC.condF (rfl) ?_
  refine WC.skip (thenQ.normal ?_)
  refine WC.seq ?_
  have b15 := Below.step hS15 hb87
  have q15 := q8.bel b15
  have J2 := J1.bel b15
  have B82 := hB8'.bel b15
  have hOf2 := hOf.bel b15
  have k15 := Below.step k8 b15
  have s15x := hS15.size
  have s87 := hb87.size
  clear q8 J1 hB8' hOf hxf
  refine WC.regionB (fun i => Nat.beq i 4) [(0, .any), (1, .held), (2, .seq), (3, .any), (4, .seq)] mixed (by kernel_rfl) (fun w17x hS17 hheap => ?_)
  refine RL.any rfl rfl (fun _ => Y.fieldAddr fi30f8 ti28 (by decide) rfl (rfl) _) ?_
  refine RL.held rfl rfl hS17 (fun _ hb9 => Y.load1 Try.underlying28 rfl rfl (cell_bel ((B82.cell 18).trans he18) hb9)) ?_
  refine RL.call rfl rfl (C.func go11) (del_ret _ spoiltS (by simp [spoiltS])) ?_
  rintro _ w92 ⟨rfl, hb92⟩
  refine ⟨.inr (fun h => Below.step h hb92), ?_⟩
  refine RL.any rfl rfl (fun _ => Y.idxV Try.underlying28 ti30 rfl rfl (by omega) (by omega) _) ?_
  refine RL.eex rfl rfl (E.storeK (i := 0) (us := dc spoiltS) ti30 rfl rfl rfl spoilt_one ((hOf2.bel hS17).bel hb92) (by omega) rfl) ?_ ?_
  · exact fun _ _ _ => .inl rfl
  rintro _ w17s ⟨-, hg17⟩
  refine RL.nil (thenQ.normal ?_)
  have s17x := hS17.size
  have s92 := hb92.size
  have t17 := hg17.size
  have b17 := Below.step hS17 hb92
  have k17 : Below w.heap.size w w17s := Below.stepG (Below.step k15 b17) hg17 (by omega)
  have kG17 : Kept (fun b => b = bf) w92 w17s := Kept.of_grown hg17 rfl
  have q17 := (q15.bel b17).kept kG17 (fun b h1 h2 => by omega)
  have L1 : Blk w17s w.heap.size 30 c := (J2.bel b17).grown hg17 (by omega)
  clear q15 J2 hOf2 B82 he18 hg17
  refine WC.seqR rfl ?_
  refine WL.y rfl (Y.move) ?_
  refine WL.call rfl (C.func go14) (qfind_ret q17 1 (by omega)) ?_
  rintro _ w96 ⟨c96, rfl, h96, hb96⟩
  refine WL.y rfl (Y.move) ?_
  refine WL.y rfl (Y.extract rfl rfl) ?_
  refine WL.y rfl (Y.extract rfl rfl) ?_
  refine WL.eex rfl (E.allocX ti30) ?_
  rintro _ w10 ⟨rfl, hB10, hb10⟩
  refine WL.eex rfl (E.storeAllK (us := c96) ti30 h96.len rfl rfl h96.one hB10 rfl) ?_
  rintro _ w10s ⟨hB10', hg10⟩
  refine WL.y rfl (Y.assign) ?_
  refine WL.nil ?_
  rw [hff] at h96
  have l10 := (show Blk w10 _ _ _ from hB10).lt
  have s96 := hb96.size
  have s10 := hb10.size
  have t10 := hg10.size
  have k10 : Below w.heap.size w w10s := Below.stepG (Below.step (Below.step k17 hb96) hb10) hg10 (by omega)
  have kG10 : Kept (fun b => b = w96.heap.size) w10 w10s := Kept.of_grown hg10 rfl
  have N1 : Blk w10s w.heap.size 30 c := ((L1.bel hb96).bel hb10).grown hg10 (by omega)
  have h96' := MtW.kept kG10 (fun b h1 h2 => by omega) ((h96.mono (M' := fun b => w17s.heap.size ≤ b ∧ b < w96.heap.size) (fun b h1 h2 => ⟨h2, h1⟩)).bel hb10)
  have hqq := seq_parts h96'
  obtain ⟨bz, oz, capz, cz, hz18, hMz, hOz, hxz⟩ := hqq
  have lz := hxz.len
  clear q17 L1 h96 h96' hB10
  refine WC.seq ?_
  refine WC.regionB (fun i => Nat.beq i 10 || Nat.beq i 13) [(0, .any), (1, .held), (2, .any), (3, .any), (4, .any), (5, .any), (6, .held), (7, .any), (8, .held), (9, .held), (10, .seq), (11, .any), (12, .any), (13, .seq), (14, .any), (15, .any)] mixed (by kernel_rfl) (fun w19x hS19 hheap => ?_)
  refine RL.any rfl rfl (fun _ => Y.fieldAddr fi30f8 ti28 (by decide) rfl (rfl) _) ?_
  refine RL.held rfl rfl hS19 (fun _ hb9 => Y.load1 Try.underlying28 rfl rfl (cell_bel ((hB10'.cell 18).trans hz18) hb9)) ?_
  refine RL.any rfl rfl (fun _ => Y.lenSl Try.underlying28 (hOz.sl) _) ?_
  refine RL.any rfl rfl (fun _ => Y.dT (Y.eqi rfl rfl) (rfl)) ?_
  refine RL.any rfl rfl (fun _ => Y.move) ?_
  refine RL.any rfl rfl (fun _ => Y.fieldAddr fi30f8 ti28 (by decide) rfl (rfl) _) ?_
  refine RL.held rfl rfl hS19 (fun _ hb9 => Y.load1 Try.underlying28 rfl rfl (cell_bel ((hB10'.cell 18).trans hz18) hb9)) ?_
  refine RL.any rfl rfl (fun _ => Y.idxV Try.underlying28 ti30 rfl rfl (by omega) (by omega) _) ?_
  refine RL.held rfl rfl hS19 (fun _ hb9 => Y.loadK Try.underlying30 rfl ti30 (lz) rfl (Cells.bel hOz.cells hb9)) ?_
  refine RL.held rfl rfl hS19 (fun _ hb9 => Y.loadK Try.underlying30 rfl ti30 (hcl) rfl (Cells.bel N1.cells hb9)) ?_
  refine RL.call rfl rfl (C.func go15) (rmequalT_ret m _ _ _ (hxz.at.bel hS19) ((hm.bel k10).bel hS19)) ?_
  rintro _ w109 ⟨rfl, hb109⟩
  refine ⟨.inl rfl, ?_⟩
  refine RL.any rfl rfl (fun _ => Y.pickT rfl) ?_
  refine RL.any rfl rfl (fun _ => Y.move) ?_
  refine RL.call rfl rfl (C.func go16) (known_ret _) ?_
  rintro _ w112 ⟨rfl, hb112⟩
  refine ⟨.inl rfl, ?_⟩
  refine RL.any rfl rfl (fun _ => Y.pickT rfl) ?_
  refine RL.any rfl rfl (fun _ => Y.assign) ?_
  refine RL.nil (thenQ.normal ?_)
  refine WC.ret (endQ.one (.inr rfl) ?_)
  exact ⟨rfl, Below.step (Below.step (Below.step k10 hS19) hb109) hb112⟩
end Go.Proofs.Ytcbdpcehacklhaa
