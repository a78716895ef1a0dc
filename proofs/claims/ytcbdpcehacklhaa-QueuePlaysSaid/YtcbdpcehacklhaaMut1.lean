/-
  mutator, ref11: Copy: walks.
-/
import Derived.Test.YtcbdpcehacklhaaMut0
import Derived.Test.YtcbdpcehacklhaaVal21
import Derived.Test.YtcbdpcehacklhaaBase18
namespace Go.Proofs.Ytcbdpcehacklhaa
open Go Go.RowKit Go.Cx
set_option linter.unusedVariables false
set_option maxHeartbeats 8000000
/-- mutators, in rows of M -/
def TW (w : World) (M : Nat → Prop) (l : List Mt) (r : Value) : Prop := ∃ (bl : Nat) (lc : List MC), lc.length = l.length ∧ (r = .slice none 0 0 ∨ M bl) ∧ OwnK w bl 30 19 r l.length (lc.flatMap MC.c) ∧ ∀ j (h : j < l.length) (h' : j < lc.length), MtW w M l[j] lc[j].c
def CopyOfM (f : Nat) (m : Mt) : Prop := ∀ (w : World) (c : List Value), MtAt w m c → Ret Try.prog f [.agg c.toArray].toArray w fun r w' => ∃ c', r = .agg c'.toArray ∧ MtW w' (fun b => w.heap.size ≤ b) m c' ∧ Below w.heap.size w w'
/-- mutators appended so far -/
def TB (w : World) (B : Nat) (l : List Mt) (j : Nat) (r : Value) (bl : Nat) (lc : List MC) : Prop := lc.length = j ∧ bl < w.heap.size ∧ (r = .slice none 0 0 ∨ B ≤ bl) ∧ OwnK w bl 30 19 r j (lc.flatMap MC.c) ∧ ∀ i (h : i < l.length) (h' : i < lc.length), MtW w (fun b => B ≤ b ∧ b ≠ bl) l[i] lc[i].c
theorem TB.bel {w w' : World} {B : Nat} {l : List Mt} {j : Nat} {r : Value} {bl : Nat} {lc : List MC} (h : TB w B l j r bl lc) (hb : Below w.heap.size w w') : TB w' B l j r bl lc :=
  ⟨h.1, Nat.lt_of_lt_of_le h.2.1 hb.size, h.2.2.1, h.2.2.2.1.bel hb, fun i h1 h2 => (h.2.2.2.2 i h1 h2).bel hb⟩
theorem TB.kept {w w' : World} {M : Nat → Prop} {B : Nat} {l : List Mt} {j : Nat} {r : Value} {bl : Nat} {lc : List MC} (h : TB w B l j r bl lc) (hk : Kept M w w') (hM : ∀ b, B ≤ b → ¬ M b) : TB w' B l j r bl lc :=
  ⟨h.1, Nat.lt_of_lt_of_le h.2.1 hk.size, h.2.2.1, by
    rcases h.2.2.1 with e | e
    · have := h.2.2.2.1
      rw [e] at this ⊢
      exact own_nilAny this
    · exact h.2.2.2.1.kept hk (hM _ e), fun i h1 h2 => MtW.kept hk (fun b hb => hM b hb.1) (h.2.2.2.2 i h1 h2)⟩
theorem TB.zero {w : World} {B : Nat} {l : List Mt} (h : 0 < w.heap.size) : TB w B l 0 (.slice none 0 0) 0 [] := ⟨rfl, h, .inl rfl, OwnK.nil, fun i _ h => absurd h (by simp)⟩
theorem TB.done {w : World} {B : Nat} {l : List Mt} {r : Value} {bl : Nat} {lc : List MC} (h : TB w B l l.length r bl lc) : TW w (fun b => B ≤ b) l r :=
  ⟨bl, lc, h.1, h.2.2.1, h.2.2.2.1, fun i h1 h2 => (h.2.2.2.2 i h1 h2).mono (fun _ _ h => h.1)⟩
theorem TB.apart {w : World} {B : Nat} {l : List Mt} {j : Nat} {r : Value} {bl : Nat} {lc : List MC} (h : TB w B l j r bl lc) : ∀ b, r.ownBlock = some b → B ≤ b := by
  intro b hb
  rcases h.2.2.1 with e | e
  · rw [e] at hb; cases hb
  · rcases h.2.2.2.1.own with e2 | e2 <;> rw [e2] at hb <;> cases hb
    exact e
theorem MtW.append {w w' : World} {B bl bl' : Nat} {v : Mt} {c : List Value} {r : Value} (he : MtW w (fun b => B ≤ b ∧ b ≠ bl) v c) (hbl : (bl' = bl ∧ r ≠ .slice none 0 0) ∨ w.heap.size ≤ bl') (hk : Kept (fun b => b = bl) w w') : MtW w' (fun b => B ≤ b ∧ b ≠ bl') v c := by
  have h1 : MtW w (fun b => B ≤ b ∧ b ≠ bl ∧ b ≠ bl') v c := he.mono (fun b hb h => ⟨h.1, h.2, by rcases hbl with ⟨rfl, _⟩ | e; exact h.2; omega⟩)
  have h2 : MtW w' (fun b => B ≤ b ∧ b ≠ bl ∧ b ≠ bl') v c := MtW.kept hk (fun b h => h.2.1) h1
  exact h2.mono (fun b _ h => ⟨h.1, h.2.2⟩)
theorem TB.append {w w' : World} {B bl bl' j : Nat} {l : List Mt} {r r' : Value} {lc : List MC} {c : MC} (h : TB w B l j r bl lc) (hB : B ≤ w.heap.size) (hj : j < l.length) (hx : MtW w (fun b => B ≤ b ∧ b ≠ bl) l[j] c.c) (ho : OwnK w' bl' 30 19 r' (j + 1) (lc.flatMap MC.c ++ c.c)) (hbl : (bl' = bl ∧ r ≠ .slice none 0 0) ∨ w.heap.size ≤ bl') (hg : w.grownBy w' r.ownBlock) : TB w' B l (j + 1) r' bl' (lc ++ [c]) := by
  obtain ⟨h1, h2, h3, h4, h5⟩ := h
  have hk := own_row h4 hg
  refine ⟨by simp [h1], ?_, ?_, by simpa using ho, fun i hi hi' => ?_⟩
  · have hqq := ho.form (by omega)
    obtain ⟨_, _, _, _, _, h⟩ := hqq
    exact h
  · right
    rcases hbl with ⟨rfl, e⟩ | e
    · exact h3.resolve_left e
    · omega
  · by_cases e : i < lc.length
    · rw [List.getElem_append_left e]
      exact MtW.append (h5 i hi e) hbl hk
    · have e2 : i = j := by simp only [List.length_append, List.length_cons, List.length_nil] at hi'; omega
      subst e2
      rw [List.getElem_append_right (by omega)]
      simp only [h1, Nat.sub_self, List.getElem_cons_zero]
      exact MtW.append hx hbl hk
theorem mcopy_ret (m : Mt) : CopyOfM 30 m := by
  induction m using Mt.ind with
  | h m ih =>
    intro w c hm
    have hqq := hm.parts
    obtain ⟨w0, w1_, w2_, w3_, w4_, w5_, v0, v1_, v2_, v3_, v4_, v5_, lv, lc, ok, hw, hv, h1, h2, hs, rfl⟩ := hqq
    have hol := ok.l
    have hmx : maxLen = 9223372036854775807 := rfl
    refine Ret.of (n := 30) (rs := #[.cell 2 30]) Try.func30 rfl rfl rfl (by simp) ?_
    refine WC.seqR rfl ?_
    refine WL.eex rfl (E.boxX) ?_
    rintro _ w1 ⟨rfl, hB1, hb1⟩
    refine WL.eex rfl (E.allocX ti30) ?_
    rintro _ w2 ⟨rfl, hB2, hb2⟩
    refine WL.nil ?_
    have hx1 : Blk w2 w.heap.size 30 (mtcell m [w0, w1_, w2_, w3_, w4_, w5_] [v0, v1_, v2_, v3_, v4_, v5_] lv) := (show Blk _ _ _ (mtcell m [w0, w1_, w2_, w3_, w4_, w5_] [v0, v1_, v2_, v3_, v4_, v5_] lv) from hB1).bel hb2
    have hx2 : ∃ us, us.length = 19 ∧ Blk w2 w1.heap.size 30 us := ⟨_, rfl, hB2⟩
    obtain ⟨us, hus, hx2⟩ := hx2
    have l1 := (show Blk w1 _ _ _ from hB1).lt
    have l2 := hx2.lt
    have s2 := hb2.size
    have k2 : Below w.heap.size w w2 := Below.step hb1 hb2
    clear hB1 hB2
    refine WC.seqR rfl ?_
    refine WL.y rfl (Y.fieldAddr fi30f5 ti27 (by decide) rfl (rfl) _) ?_
    refine WL.y rfl (Y.loadK Try.underlying27 rfl ti27 ((show [w0, w1_, w2_, w3_, w4_, w5_].length = 6 from rfl)) rfl ((hx1.cells).sub 5 6)) ?_
    refine WL.call rfl (C.func go35) (copy_ret m.was _ _ (hw.bel k2)) ?_
    rintro _ w8 ⟨c8, rfl, h8, hb8⟩
    have hqq := six h8.len
    obtain ⟨p0, p1, p2, p3, p4, p5, rfl⟩ := hqq
    refine WL.y rfl (Y.fieldAddr fi30f5 ti27 (by decide) rfl (rfl) _) ?_
    refine WL.eex rfl (E.storeSub (us := [p0, p1, p2, p3, p4, p5]) ti27 rfl rfl rfl h8.one (hx1.bel hb8) (by simp [mtcell])) ?_
    rintro _ wA ⟨hA, hgA⟩
    have hxA : Blk wA w.heap.size 30 (mtcell m [p0, p1, p2, p3, p4, p5] [v0, v1_, v2_, v3_, v4_, v5_] lv) := hA
    have s8 := hb8.size
    have sA := hgA.size
    have kA : Below w.heap.size w wA := Below.stepG (Below.step k2 hb8) hgA (by omega)
    have hA8 := VW.kept (Kept.of_grown (M := fun b => b = w.heap.size) hgA rfl) (fun b h1 h2 => by omega) h8
    refine WL.nil ?_
    refine WC.seqR rfl ?_
    refine WL.y rfl (Y.fieldAddr fi30f7 ti27 (by decide) rfl (rfl) _) ?_
    refine WL.y rfl (Y.loadK Try.underlying27 rfl ti27 ((show [v0, v1_, v2_, v3_, v4_, v5_].length = 6 from rfl)) rfl ((hxA.cells).sub 12 6)) ?_
    refine WL.call rfl (C.func go35) (copy_ret m.val _ _ (hv.bel kA)) ?_
    rintro _ w12 ⟨c12, rfl, h12, hb12⟩
    have hqq := six h12.len
    obtain ⟨q0, q1, q2, q3, q4, q5, rfl⟩ := hqq
    refine WL.y rfl (Y.fieldAddr fi30f7 ti27 (by decide) rfl (rfl) _) ?_
    refine WL.eex rfl (E.storeSub (us := [q0, q1, q2, q3, q4, q5]) ti27 rfl rfl rfl h12.one (hxA.bel hb12) (by simp [mtcell])) ?_
    rintro _ wB ⟨hB, hgB⟩
    have hxB : Blk wB w.heap.size 30 (mtcell m [p0, p1, p2, p3, p4, p5] [q0, q1, q2, q3, q4, q5] lv) := hB
    have s12 := hb12.size
    have sB := hgB.size
    have kB : Below w.heap.size w wB := Below.stepG (Below.step kA hb12) hgB (by omega)
    have hW := VW.kept (Kept.of_grown (M := fun b => b = w.heap.size) hgB rfl) (fun b h1 h2 => by omega) (hA8.bel hb12)
    have hV := VW.kept (Kept.of_grown (M := fun b => b = w.heap.size) hgB rfl) (fun b h1 h2 => by omega) h12
    refine WL.nil ?_
    refine WC.seqR rfl ?_
    refine WL.y rfl (Y.assign) ?_
    refine WL.nil ?_
    refine WC.seq ?_
    refine WC.seqR rfl ?_
    refine WL.y rfl (Y.fieldAddr fi30f8 ti28 (by decide) rfl (rfl) _) ?_
    refine WL.y rfl (Y.load1 Try.underlying28 rfl rfl ((hxB.cell 18))) ?_
    refine WL.y rfl (Y.lenSl Try.underlying28 (hs.bel kB) _) ?_
    refine WL.y rfl (Y.move) ?_
    refine WL.nil ?_
    refine WC.block ?_
    have hW' := hW.mono (M' := fun b => w2.heap.size ≤ b ∧ b < wB.heap.size) (fun b h1 h2 => ⟨by omega, h1⟩)
    have hV' := hV.mono (M' := fun b => w2.heap.size ≤ b ∧ b < wB.heap.size) (fun b h1 h2 => ⟨by omega, h1⟩)
    have hx2B : Blk wB w1.heap.size 30 us := (((hx2.bel hb8).grown hgA (by omega)).bel hb12).grown hgB (by omega)
    have pB : 0 < wB.heap.size := by omega
    clear hx1 hx2 hxA hA hB hA8 h8 h12 hW hV
    refine WC.loop (fun j => m.l.length - j) (fun j f ds w' => j ≤ m.l.length ∧ ds = [] ∧ Below w.heap.size w w' ∧ wB.heap.size ≤ w'.heap.size ∧ (Blk w' w.heap.size 30 (mtcell m [p0, p1, p2, p3, p4, p5] [q0, q1, q2, q3, q4, q5] lv) ∧ Blk w' w1.heap.size 30 us ∧ VW w' (fun b => w2.heap.size ≤ b ∧ b < wB.heap.size) m.was [p0, p1, p2, p3, p4, p5] ∧ VW w' (fun b => w2.heap.size ≤ b ∧ b < wB.heap.size) m.val [q0, q1, q2, q3, q4, q5]) ∧ ∃ r bl lc' J, TB w' wB.heap.size m.l j r bl lc' ∧ f = Go.Cx.ov J [(1, .pointer (some ⟨w.heap.size, 0, none⟩)), (2, .pointer (some ⟨w1.heap.size, 0, none⟩)), (3, r), (15, lv), (16, .int .i64 (m.l.length : Int)), (17, .int .i64 (j : Int))]) 0 ?_ ?_
    · exact ⟨by omega, rfl, kB, Nat.le_refl _, ⟨hxB, hx2B, hW', hV'⟩, _, 0, [], _, TB.zero pB, ov_mk ⟨rfl, rfl, rfl, rfl, rfl, rfl, trivial⟩⟩
    · clear hxB hx2B hW' hV' kB
      rintro j _ _ wL ⟨hj, rfl, kL, sL, ⟨hx1, hx2, hW, hV⟩, r, bl, lc', J, hTB, rfl⟩
      refine WC.seqR rfl ?_
      refine WL.y rfl (Y.lss rfl rfl) ?_
      refine WL.nil ?_
      refine WC.seq ?_
      refine WC.condD rfl (fun h0 => ?_) (fun h0 => ?_)
      · have hjl : j < m.l.length := by omega
        have hjc : j < lc.length := by omega
        have hbl := hTB.2.1
        refine WC.skip (thenQ.normal ?_)
        refine WC.seq ?_
        refine WC.block ?_
        refine WC.seqR rfl ?_
        refine WL.yex rfl (Y.idx Try.underlying28 ti30 (by decide) (hs.bel kL) rfl (by omega) (by omega)) ?_
        rintro _ ⟨b19, o19, rfl, hc19⟩
        refine WL.y rfl (Y.loadK Try.underlying30 rfl ti30 (lc[j].h) rfl (elem_mt hjc hc19)) ?_
        refine WL.eex rfl (E.allocX ti30) ?_
        rintro _ w5 ⟨rfl, hB5, hb5⟩
        refine WL.eex rfl (E.storeAllK (us := lc[j].c) ti30 lc[j].h rfl rfl (h2 j hjl hjc).one hB5 rfl) ?_
        rintro _ w5s ⟨hB5', hg5⟩
        have b5 : Below wL.heap.size wL w5s := Below.stepG hb5 hg5 (Nat.le_refl _)
        have hv5 := ((h2 j hjl hjc).bel kL).bel b5
        refine WL.nil ?_
        refine WC.region rfl ?_
        refine WL.y rfl (Y.move) ?_
        refine WL.y rfl (Y.loadK Try.underlying30 rfl ti30 (lc[j].h) rfl (hB5'.cells)) ?_
        refine WL.call rfl (C.func go30) (ih _ (List.getElem_mem hjl) _ _ hv5) ?_
        rintro _ w23 ⟨c23, rfl, h23, hb23⟩
        refine WL.eex rfl (E.build1A Try.underlying28 ti30 h23.len (by decide) (by decide) rfl) ?_
        rintro _ w24 ⟨rfl, ho24, hb24, -⟩
        have bb : Below wL.heap.size wL w24 := Below.step (Below.step b5 hb23) hb24
        have hTB' := hTB.bel bb
        refine WL.eex rfl (E.appendN Try.underlying28 ti30 rfl (by decide) hTB'.2.2.2.1 (ownsRow_sl ho24) h23.one (by omega) (by omega)) ?_
        rintro v25 w25 ⟨⟨bl', ho25, hbl'⟩, hg25⟩
        refine WL.y rfl (Y.assign) ?_
        refine WL.nil (inBlockQ.normal (thenQ.normal ?_))
        refine WC.region rfl ?_
        refine WL.y rfl (Y.add64 rfl rfl (by omega)) ?_
        refine WL.y rfl (Y.move) ?_
        refine WL.nil (thenQ.normal ?_)
        have s5 := b5.size
        have s23 := hb23.size
        have s24 := hb24.size
        have s25 := hg25.size
        have k25 : Below w.heap.size w w25 := (Below.step kL bb).trans (below_of_grown hg25 (by omega) (fun b e => by have := hTB'.apart b e; omega))
        have kM : Kept (fun b => wB.heap.size ≤ b) w24 w25 := Kept.of_grownR hg25 (fun b e => hTB'.apart b e)
        have hTn := hTB'.append (c := ⟨c23, h23.len⟩) (by omega) hjl ((h23.bel hb24).mono (fun b _ h => ⟨by omega, by omega⟩)) ho25 hbl' hg25
        exact ⟨j + 1, by omega, by omega, rfl, k25, by omega, ⟨(hx1.bel bb).grownR hg25 (fun b e => by have := hTB'.apart b e; omega), (hx2.bel bb).grownR hg25 (fun b e => by have := hTB'.apart b e; omega), VW.kept kM (fun b h1 h2 => by omega) (hW.bel bb), VW.kept kM (fun b h1 h2 => by omega) (hV.bel bb)⟩, _, _, _, _, hTn, ov_mk ⟨rfl, rfl, rfl, rfl, rfl, rfl, trivial⟩⟩
      · have hje : j = m.l.length := by omega
        subst hje
        have hT := hTB.done
        have hor : One r = true := by
          obtain ⟨_, _, _, _, h, _⟩ := hT
          exact h.sl.one
        refine WC.exit (thenQ.exit (thenQ.exit (inBlockQ.hit (thenQ.normal ?_))))
        refine WC.seqR rfl ?_
        refine WL.y rfl (Y.move) ?_
        refine WL.y rfl (Y.fieldAddr fi30f8 ti28 (by decide) rfl (rfl) _) ?_
        refine WL.eex rfl (E.storeX (u := r) ti28 rfl rfl hor hx1 (by simp [mtcell])) ?_
        rintro _ wC ⟨hC, hgC, -⟩
        have hxC : Blk wC w.heap.size 30 (mtcell m [p0, p1, p2, p3, p4, p5] [q0, q1, q2, q3, q4, q5] r) := hC
        have hx2C := hx2.grown hgC (by omega)
        refine WL.nil ?_
        refine WC.seqR rfl ?_
        refine WL.y rfl (Y.loadK Try.underlying30 rfl ti30 ((show (mtcell m [p0, p1, p2, p3, p4, p5] [q0, q1, q2, q3, q4, q5] r).length = 19 from rfl)) rfl (hxC.cells)) ?_
        refine WL.eex rfl (E.storeAllK (us := mtcell m [p0, p1, p2, p3, p4, p5] [q0, q1, q2, q3, q4, q5] r) ti30 rfl rfl rfl (one_mt hW.one hV.one hor) hx2C hus) ?_
        rintro _ wD ⟨hD, hgD⟩
        refine WL.nil ?_
        refine WC.ret ?_
        have sC := hgC.size
        have kD : Below w.heap.size w wD := Below.stepG (Below.stepG kL hgC (Nat.le_refl _)) hgD (by omega)
        have kM : Kept (fun b => b = w.heap.size ∨ b = w1.heap.size) wL wD := (Kept.of_grown hgC (.inl rfl)).trans (Kept.of_grown hgD (.inr rfl))
        obtain ⟨bT, lT, t1, t2, t3, t4⟩ := hT
        have hD2 : MtW wD (fun b => w.heap.size ≤ b) m (mtcell m [p0, p1, p2, p3, p4, p5] [q0, q1, q2, q3, q4, q5] r) := by
          refine .mk (bl := bT) (lc := lT) ok ((VW.kept kM (fun b h1 h2 => by omega) hW).mono (fun b _ h => by omega)) ((VW.kept kM (fun b h1 h2 => by omega) hV).mono (fun b _ h => by omega)) t1 (fun j h h' => (MtW.kept kM (fun b h1 h2 => by omega) (t4 j h h')).mono (fun b _ h => by omega)) (t2.imp id (fun h => by omega)) ?_
          rcases t2 with e | e
          · rw [e] at t3 ⊢; exact own_nilAny t3
          · exact t3.kept kM (by omega)
        exact endQ.cellN Try.underlying30 rfl ti30 (.inr rfl) rfl hD.cells ⟨_, rfl, hD2, kD⟩
end Go.Proofs.Ytcbdpcehacklhaa
