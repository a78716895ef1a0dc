/-
  net: At, Take, Spoil.
-/
import Derived.Test.YtjlclaimpepgiaaNet2
namespace Go.Proofs.Ytjlclaimpepgiaa
open Go Go.RowKit Go.Cx
set_option linter.unusedVariables false
open Crc
theorem atFn_ret (w : World) (p : LS × Value) (hs : Bs w p.2 p.1.bs) (hl : p.1.bs.length ≤ 140737488355328) (b1 : Nat) (vs : List Value) (h1 : Blk w b1 36 vs) (hvs : vs.length = 3) :
    Ret Try.prog 34 [.agg (encL p).toArray, .pointer (some ⟨b1, 0, none⟩)].toArray w fun v w' => v = .int .i64 0 ∧ ∃ fv, Blk w' b1 36 (encL (p.1, fv)) ∧ Own w' w.heap.size fv p.1.bs ∧ Kept (fun b => b = b1) w w' := by
  refine Ret.of (n := 6) (rs := #[.tmp 3]) Try.func34 rfl rfl rfl (by simp) ?_
  refine WC.seqR rfl ?_
  refine WL.eex rfl (E.boxX) ?_
  rintro _ w2 ⟨rfl, hB2, hb2⟩
  have k2 := hb2
  refine WL.y rfl (Y.assign) ?_
  refine WL.nil ?_
  refine WC.seqR rfl ?_
  refine WL.y rfl (Y.loadN Try.underlying36 rfl ti36 rfl ((show Cells _ _ _ (encL p) from hB2.cells))) ?_
  refine WL.call rfl (C.func go29) (told_ret _ p.1 p.2 (hs.bel k2) hl) ?_
  rintro _ w5 ⟨⟨fv, rfl, ho5⟩, hb5⟩
  have k5 := Below.step k2 hb5
  refine WL.eex rfl (E.storeAll (us := encL (p.1, fv)) ti36 rfl rfl (one_enc ho5.bs.one) (h1.bel k5) (by rw [hvs]; rfl)) ?_
  rintro _ w6 ⟨hB6, hg6⟩
  refine WL.nil ?_
  refine WC.seqR rfl ?_
  refine WL.y rfl (Y.assign) ?_
  refine WL.nil ?_
  refine WC.ret (endQ.one (.inr rfl) ?_)
  have hlt := h1.lt
  have h2s := hb2.size
  exact ⟨rfl, fv, hB6, ownsRow_mono (own_grown ho5 hg6 (by omega)) (by omega), (Kept.of_bel k5).trans (Kept.of_grown hg6 rfl)⟩
theorem at_nil (w : World) (i : Int) : Ret Try.prog 15 [.pointer none, .int .i64 i].toArray w fun v w' => v = .tuple #[.agg (encL zeroL).toArray, .int .i64 1] ∧ Below w.heap.size w w' := by
  refine Ret.of (n := 14) (rs := #[.cell 4 36, .tmp 5]) Try.func15 rfl rfl rfl (by simp) ?_
  refine WC.seqR rfl ?_
  refine WL.eex rfl (E.allocX ti36) ?_
  rintro _ w4 ⟨rfl, hB4, hb4⟩
  have k4 := hb4
  refine WL.y rfl (Y.assign) ?_
  refine WL.nil ?_
  refine WC.seqR rfl ?_
  refine WL.eex rfl (E.allocX ti36) ?_
  rintro _ w6 ⟨rfl, hB6, hb6⟩
  have k6 := Below.step k4 hb6
  refine WL.nil ?_
  refine WC.seqR rfl ?_
  refine WL.y rfl (Y.move) ?_
  refine WL.y rfl (Y.move) ?_
  refine WL.y rfl (Y.makeFunc) ?_
  refine WL.call rfl (C.func go30) (with_nil _ i _) ?_
  rintro _ _ ⟨rfl, rfl⟩
  refine WL.y rfl (Y.assign) ?_
  refine WL.nil ?_
  refine WC.seqR rfl ?_
  refine WL.y rfl (Y.loadN Try.underlying36 rfl ti36 rfl ((show Cells _ _ _ (encL zeroL) from hB6.cells))) ?_
  refine WL.y rfl (Y.move) ?_
  refine WL.eex rfl (E.storeAll (us := encL zeroL) ti36 rfl rfl zeroL_one (hB4.bel hb6) rfl) ?_
  rintro _ w12 ⟨hB12, hg12⟩
  refine WL.y rfl (Y.assign) ?_
  refine WL.nil ?_
  refine WC.ret ?_
  exact endQ.cell2 Try.underlying36 rfl ti36 (.inr rfl) rfl hB12.cells ⟨rfl, (k6).trans (below_of_grown hg12 (k6).size (fun k e => by cases e; omega))⟩
theorem at_out (w : World) (M : Nat → Prop) (bn bl : Nat) (ps : List (LS × Value)) (h : NetAt w M bn bl ps) (i : Int) (hi : ¬ (0 ≤ i ∧ i < ps.length)) : Ret Try.prog 15 [.pointer (some ⟨bn, 0, none⟩), .int .i64 i].toArray w fun v w' => v = .tuple #[.agg (encL zeroL).toArray, .int .i64 17] ∧ Below w.heap.size w w' := by
  refine Ret.of (n := 14) (rs := #[.cell 4 36, .tmp 5]) Try.func15 rfl rfl rfl (by simp) ?_
  refine WC.seqR rfl ?_
  refine WL.eex rfl (E.allocX ti36) ?_
  rintro _ w4 ⟨rfl, hB4, hb4⟩
  have k4 := hb4
  refine WL.y rfl (Y.assign) ?_
  refine WL.nil ?_
  refine WC.seqR rfl ?_
  refine WL.eex rfl (E.allocX ti36) ?_
  rintro _ w6 ⟨rfl, hB6, hb6⟩
  have k6 := Below.step k4 hb6
  refine WL.nil ?_
  refine WC.seqR rfl ?_
  refine WL.y rfl (Y.move) ?_
  refine WL.y rfl (Y.move) ?_
  refine WL.y rfl (Y.makeFunc) ?_
  refine WL.call rfl (C.func go30) (with_out _ M bn bl ps (h.bel k6) i hi _) ?_
  rintro _ _ ⟨rfl, rfl⟩
  refine WL.y rfl (Y.assign) ?_
  refine WL.nil ?_
  refine WC.seqR rfl ?_
  refine WL.y rfl (Y.loadN Try.underlying36 rfl ti36 rfl ((show Cells _ _ _ (encL zeroL) from hB6.cells))) ?_
  refine WL.y rfl (Y.move) ?_
  refine WL.eex rfl (E.storeAll (us := encL zeroL) ti36 rfl rfl zeroL_one (hB4.bel hb6) rfl) ?_
  rintro _ w12 ⟨hB12, hg12⟩
  refine WL.y rfl (Y.assign) ?_
  refine WL.nil ?_
  refine WC.ret ?_
  exact endQ.cell2 Try.underlying36 rfl ti36 (.inr rfl) rfl hB12.cells ⟨rfl, (k6).trans (below_of_grown hg12 (k6).size (fun k e => by cases e; omega))⟩
theorem at_in (w : World) (M : Nat → Prop) (bn bl : Nat) (ps : List (LS × Value)) (h : NetAt w M bn bl ps) (i : Nat) (hi : i < ps.length) : Ret Try.prog 15 [.pointer (some ⟨bn, 0, none⟩), .int .i64 (i : Int)].toArray w fun v w' => (∃ fv, v = .tuple #[.agg (encL (ps[i].1, fv)).toArray, .int .i64 0] ∧ Own w' w.heap.size fv ps[i].1.bs) ∧ Below w.heap.size w w' := by
  have hl := h.2.choose_spec.2.2.2.2 ps[i] (List.getElem_mem hi)
  refine Ret.of (n := 14) (rs := #[.cell 4 36, .tmp 5]) Try.func15 rfl rfl rfl (by simp) ?_
  refine WC.seqR rfl ?_
  refine WL.eex rfl (E.allocX ti36) ?_
  rintro _ w4 ⟨rfl, hB4, hb4⟩
  have k4 := hb4
  refine WL.y rfl (Y.assign) ?_
  refine WL.nil ?_
  refine WC.seqR rfl ?_
  refine WL.eex rfl (E.allocX ti36) ?_
  rintro _ w6 ⟨rfl, hB6, hb6⟩
  have k6 := Below.step k4 hb6
  refine WL.nil ?_
  refine WC.seqR rfl ?_
  refine WL.y rfl (Y.move) ?_
  refine WL.y rfl (Y.move) ?_
  refine WL.y rfl (Y.makeFunc) ?_
  refine WL.call rfl (C.func go30) (with_in _ M bn bl ps (h.bel k6) i hi (fst := []) (cap := [.pointer (some ⟨w4.heap.size, 0, none⟩)]) go34 (atFn_ret _ ps[i] (hl.1.sl.bel k6) hl.2 _ _ hB6 rfl)) ?_
  rintro _ w11 ⟨rfl, fv, hB11, ho11, hk11⟩
  have hlt := hB4.lt
  have h6s := hb6.size
  have h11s := hk11.size
  have k11 : Below w.heap.size w w11 := Below.kept k6 hk11 (fun b hb => by subst hb; exact hb4.size) (Nat.le_refl _)
  refine WL.y rfl (Y.assign) ?_
  refine WL.nil ?_
  refine WC.seqR rfl ?_
  refine WL.y rfl (Y.loadN Try.underlying36 rfl ti36 rfl (hB11.cells)) ?_
  refine WL.y rfl (Y.move) ?_
  refine WL.eex rfl (E.storeAll (us := encL (ps[i].1, fv)) ti36 rfl rfl (one_enc ho11.bs.one) ((hB4.bel hb6).kept hk11 (by omega)) rfl) ?_
  rintro _ w12 ⟨hB12, hg12⟩
  refine WL.y rfl (Y.assign) ?_
  refine WL.nil ?_
  refine WC.ret ?_
  exact endQ.cell2 Try.underlying36 rfl ti36 (.inr rfl) rfl hB12.cells ⟨⟨fv, rfl, ownsRow_mono (own_grown ho11 hg12 (by omega)) (by have := hb4.size; omega)⟩, k11.trans (below_of_grown hg12 k11.size (fun k e => by cases e; omega))⟩
/-! Take -/
theorem takeFn_ret (w : World) (M : Nat → Prop) (bn bl : Nat) (ps : List (LS × Value)) (h : NetAt w M bn bl ps) (i : Nat) (hi : i < ps.length) (b1 b2 b3 : Nat) (vs : List Value) (h1 : Blk w b1 36 vs) (hvs : vs.length = 3) (hb1 : M b1) (hbn : b1 ≠ bn) (hbl : b1 ≠ bl) (h2 : Blk w b2 25 [.pointer (some ⟨bn, 0, none⟩)]) (h3 : Blk w b3 3 [.int .i64 (i : Int)]) :
    Ret Try.prog 41 [.agg (encL ps[i]).toArray, .pointer (some ⟨b1, 0, none⟩), .pointer (some ⟨b2, 0, none⟩), .pointer (some ⟨b3, 0, none⟩)].toArray w fun v w' => v = .int .i64 0 ∧ ∃ fv, Blk w' b1 36 (encL (ps[i].1, fv)) ∧ Own w' w.heap.size fv ps[i].1.bs ∧ NetAt w' M bn bl (ps.eraseIdx i) ∧ Kept (fun b => b = b1 ∨ NB bn bl b) w w' := by
  have hl := h.2.choose_spec.2.2.2.2 ps[i] (List.getElem_mem hi)
  have hMb : M bn ∧ M bl := ⟨h.2.choose_spec.2.2.1, h.2.choose_spec.2.2.2.1⟩
  have hMs := h.1
  have hlt1 := h1.lt
  have hlt2 := h2.lt
  have hlt3 := h3.lt
  have hne12 : b2 ≠ b1 := by rintro rfl; have := h1.symm.trans h2; cases this
  have hne13 : b3 ≠ b1 := by rintro rfl; have := h1.symm.trans h3; cases this
  refine Ret.of (n := 11) (rs := #[.tmp 5]) Try.func41 rfl rfl rfl (by simp) ?_
  refine WC.seqR rfl ?_
  refine WL.eex rfl (E.boxX) ?_
  rintro _ w4 ⟨rfl, hB4, hb4⟩
  have k4 := hb4
  refine WL.y rfl (Y.assign) ?_
  refine WL.nil ?_
  refine WC.seqR rfl ?_
  refine WL.y rfl (Y.loadN Try.underlying36 rfl ti36 rfl ((show Cells _ _ _ (encL ps[i]) from hB4.cells))) ?_
  refine WL.call rfl (C.func go29) (told_ret _ ps[i].1 ps[i].2 (hl.1.sl.bel k4) hl.2) ?_
  rintro _ w7 ⟨⟨fv, rfl, ho7⟩, hb7⟩
  have k7 := Below.step k4 hb7
  refine WL.eex rfl (E.storeAll (us := encL (ps[i].1, fv)) ti36 rfl rfl (one_enc ho7.bs.one) (h1.bel k7) (by rw [hvs]; rfl)) ?_
  rintro _ w8 ⟨hB8, hg8⟩
  have hk8 : Kept (fun b => b = b1) w w8 := (Kept.of_bel k7).trans (Kept.of_grown hg8 rfl)
  have hN8 : NetAt w8 M bn bl ps := h.kept hk8 (fun b hb _ => by subst hb; exact hb1) (fun e => hbn e.symm) (fun e => hbl e.symm)
  refine WL.nil ?_
  refine WC.seqR rfl ?_
  refine WL.y rfl (Y.load1 Try.underlying25 rfl rfl ((h2.kept hk8 hne12).one)) ?_
  refine WL.y rfl (Y.load1 Try.underlying3 rfl rfl ((h3.kept hk8 hne13).one)) ?_
  refine WL.call rfl (C.func go32) (remove_ret _ M bn bl ps hN8 i hi) ?_
  rintro _ w10 ⟨rfl, hN10, hk10⟩
  refine WL.nil ?_
  refine WC.seqR rfl ?_
  refine WL.y rfl (Y.assign) ?_
  refine WL.nil ?_
  refine WC.ret (endQ.one (.inr rfl) ?_)
  have h4s := hb4.size
  have h7s := hb7.size
  have h8s := hg8.size
  have hMn := hMs bn hMb.1
  have hMl := hMs bl hMb.2
  refine ⟨rfl, fv, hB8.kept hk10 (fun e => by rcases e with e | e; exact hbn e; exact hbl e), ?_, hN10, (hk8.mono (fun b hb _ => .inl hb)).trans (hk10.mono (fun b hb _ => .inr hb))⟩
  exact ownsRow_mono (own_kept (own_grown ho7 hg8 (by omega)) hk10 (fun b hb _ => by rcases hb with rfl | rfl <;> omega)) (by omega)
theorem take_nil (w : World) (i : Int) : Ret Try.prog 23 [.pointer none, .int .i64 i].toArray w fun v w' => v = .tuple #[.agg (encL zeroL).toArray, .int .i64 1] ∧ Below w.heap.size w w' := by
  refine Ret.of (n := 14) (rs := #[.cell 4 36, .tmp 5]) Try.func23 rfl rfl rfl (by simp) ?_
  refine WC.seqR rfl ?_
  refine WL.eex rfl (E.boxX) ?_
  rintro _ w2 ⟨rfl, hB2, hb2⟩
  have k2 := hb2
  refine WL.eex rfl (E.boxX) ?_
  rintro _ w3 ⟨rfl, hB3, hb3⟩
  have k3 := Below.step k2 hb3
  refine WL.eex rfl (E.allocX ti36) ?_
  rintro _ w4 ⟨rfl, hB4, hb4⟩
  have k4 := Below.step k3 hb4
  refine WL.y rfl (Y.assign) ?_
  refine WL.nil ?_
  refine WC.seqR rfl ?_
  refine WL.eex rfl (E.allocX ti36) ?_
  rintro _ w6 ⟨rfl, hB6, hb6⟩
  have k6 := Below.step k4 hb6
  refine WL.nil ?_
  refine WC.seqR rfl ?_
  refine WL.y rfl (Y.load1 Try.underlying25 rfl rfl ((((hB2.bel hb3).bel hb4).bel hb6).one)) ?_
  refine WL.y rfl (Y.load1 Try.underlying3 rfl rfl (((hB3.bel hb4).bel hb6).one)) ?_
  refine WL.y rfl (Y.makeFunc) ?_
  refine WL.call rfl (C.func go30) (with_nil _ i _) ?_
  rintro _ _ ⟨rfl, rfl⟩
  refine WL.y rfl (Y.assign) ?_
  refine WL.nil ?_
  refine WC.seqR rfl ?_
  refine WL.y rfl (Y.loadN Try.underlying36 rfl ti36 rfl ((show Cells _ _ _ (encL zeroL) from hB6.cells))) ?_
  refine WL.y rfl (Y.move) ?_
  refine WL.eex rfl (E.storeAll (us := encL zeroL) ti36 rfl rfl zeroL_one (hB4.bel hb6) rfl) ?_
  rintro _ w12 ⟨hB12, hg12⟩
  refine WL.y rfl (Y.assign) ?_
  refine WL.nil ?_
  refine WC.ret ?_
  exact endQ.cell2 Try.underlying36 rfl ti36 (.inr rfl) rfl hB12.cells ⟨rfl, (k6).trans (below_of_grown hg12 (k6).size (fun k e => by cases e; have := hb2.size; have := hb3.size; omega))⟩
theorem take_out (w : World) (M : Nat → Prop) (bn bl : Nat) (ps : List (LS × Value)) (h : NetAt w M bn bl ps) (i : Int) (hi : ¬ (0 ≤ i ∧ i < ps.length)) : Ret Try.prog 23 [.pointer (some ⟨bn, 0, none⟩), .int .i64 i].toArray w fun v w' => v = .tuple #[.agg (encL zeroL).toArray, .int .i64 17] ∧ Below w.heap.size w w' := by
  refine Ret.of (n := 14) (rs := #[.cell 4 36, .tmp 5]) Try.func23 rfl rfl rfl (by simp) ?_
  refine WC.seqR rfl ?_
  refine WL.eex rfl (E.boxX) ?_
  rintro _ w2 ⟨rfl, hB2, hb2⟩
  have k2 := hb2
  refine WL.eex rfl (E.boxX) ?_
  rintro _ w3 ⟨rfl, hB3, hb3⟩
  have k3 := Below.step k2 hb3
  refine WL.eex rfl (E.allocX ti36) ?_
  rintro _ w4 ⟨rfl, hB4, hb4⟩
  have k4 := Below.step k3 hb4
  refine WL.y rfl (Y.assign) ?_
  refine WL.nil ?_
  refine WC.seqR rfl ?_
  refine WL.eex rfl (E.allocX ti36) ?_
  rintro _ w6 ⟨rfl, hB6, hb6⟩
  have k6 := Below.step k4 hb6
  refine WL.nil ?_
  refine WC.seqR rfl ?_
  refine WL.y rfl (Y.load1 Try.underlying25 rfl rfl ((((hB2.bel hb3).bel hb4).bel hb6).one)) ?_
  refine WL.y rfl (Y.load1 Try.underlying3 rfl rfl (((hB3.bel hb4).bel hb6).one)) ?_
  refine WL.y rfl (Y.makeFunc) ?_
  refine WL.call rfl (C.func go30) (with_out _ M bn bl ps (h.bel k6) i hi _) ?_
  rintro _ _ ⟨rfl, rfl⟩
  refine WL.y rfl (Y.assign) ?_
  refine WL.nil ?_
  refine WC.seqR rfl ?_
  refine WL.y rfl (Y.loadN Try.underlying36 rfl ti36 rfl ((show Cells _ _ _ (encL zeroL) from hB6.cells))) ?_
  refine WL.y rfl (Y.move) ?_
  refine WL.eex rfl (E.storeAll (us := encL zeroL) ti36 rfl rfl zeroL_one (hB4.bel hb6) rfl) ?_
  rintro _ w12 ⟨hB12, hg12⟩
  refine WL.y rfl (Y.assign) ?_
  refine WL.nil ?_
  refine WC.ret ?_
  exact endQ.cell2 Try.underlying36 rfl ti36 (.inr rfl) rfl hB12.cells ⟨rfl, (k6).trans (below_of_grown hg12 (k6).size (fun k e => by cases e; have := hb2.size; have := hb3.size; omega))⟩
theorem take_in (w : World) (M : Nat → Prop) (bn bl : Nat) (ps : List (LS × Value)) (h : NetAt w M bn bl ps) (i : Nat) (hi : i < ps.length) : Ret Try.prog 23 [.pointer (some ⟨bn, 0, none⟩), .int .i64 (i : Int)].toArray w fun v w' => (∃ fv, v = .tuple #[.agg (encL (ps[i].1, fv)).toArray, .int .i64 0] ∧ Own w' w.heap.size fv ps[i].1.bs) ∧ NetAt w' M bn bl (ps.eraseIdx i) ∧ Kept (NB bn bl) w w' := by
  have hMb : M bn ∧ M bl := ⟨h.2.choose_spec.2.2.1, h.2.choose_spec.2.2.2.1⟩
  have hMs := h.1
  have hMn := hMs bn hMb.1
  have hMl := hMs bl hMb.2
  refine Ret.of (n := 14) (rs := #[.cell 4 36, .tmp 5]) Try.func23 rfl rfl rfl (by simp) ?_
  refine WC.seqR rfl ?_
  refine WL.eex rfl (E.boxX) ?_
  rintro _ w2 ⟨rfl, hB2, hb2⟩
  have k2 := hb2
  refine WL.eex rfl (E.boxX) ?_
  rintro _ w3 ⟨rfl, hB3, hb3⟩
  have k3 := Below.step k2 hb3
  refine WL.eex rfl (E.allocX ti36) ?_
  rintro _ w4 ⟨rfl, hB4, hb4⟩
  have k4 := Below.step k3 hb4
  refine WL.y rfl (Y.assign) ?_
  refine WL.nil ?_
  refine WC.seqR rfl ?_
  refine WL.eex rfl (E.allocX ti36) ?_
  rintro _ w6 ⟨rfl, hB6, hb6⟩
  have k6 := Below.step k4 hb6
  refine WL.nil ?_
  refine WC.seqR rfl ?_
  refine WL.y rfl (Y.load1 Try.underlying25 rfl rfl ((((hB2.bel hb3).bel hb4).bel hb6).one)) ?_
  refine WL.y rfl (Y.load1 Try.underlying3 rfl rfl (((hB3.bel hb4).bel hb6).one)) ?_
  have k6' := k6
  have hlt2 := hb2.size
  have hlt3 := hb3.size
  have hlt4 := hB4.lt
  have h6s := hb6.size
  have hN : NetAt w6 (fun b => M b ∨ b = w3.heap.size ∨ b = w4.heap.size) bn bl ps := h.widen k6' (fun b hb hs => by rcases hb with hb | hb | hb; exact hb; omega; omega) (fun b hb => by have := hB6.lt; rcases hb with hb | hb | hb; (have := hMs b hb; omega); omega; omega) (.inl hMb.1) (.inl hMb.2)
  refine WL.y rfl (Y.makeFunc) ?_
  refine WL.call rfl (C.func go30) (with_in _ _ bn bl ps hN i hi (fst := []) (cap := [.pointer (some ⟨w4.heap.size, 0, none⟩), .pointer (some ⟨w.heap.size, 0, none⟩), .pointer (some ⟨w2.heap.size, 0, none⟩)]) go41 (takeFn_ret _ _ bn bl ps hN i hi _ _ _ _ hB6 rfl (.inr (.inr rfl)) (by omega) (by omega) (((hB2.bel hb3).bel hb4).bel hb6) ((hB3.bel hb4).bel hb6))) ?_
  rintro _ w11 ⟨rfl, fv, hB11, ho11, hN11, hk11⟩
  refine WL.y rfl (Y.assign) ?_
  refine WL.nil ?_
  refine WC.seqR rfl ?_
  refine WL.y rfl (Y.loadN Try.underlying36 rfl ti36 rfl (hB11.cells)) ?_
  refine WL.y rfl (Y.move) ?_
  refine WL.eex rfl (E.storeAll (us := encL (ps[i].1, fv)) ti36 rfl rfl (one_enc ho11.bs.one) ((hB4.bel hb6).kept hk11 (by rintro (e | e | e) <;> omega)) rfl) ?_
  rintro _ w12 ⟨hB12, hg12⟩
  refine WL.y rfl (Y.assign) ?_
  refine WL.nil ?_
  refine WC.ret ?_
  have hk12 : Kept (NB bn bl) w w12 := ((Kept.of_bel (M := NB bn bl) k6').trans' hk11 (fun b hb hs => by rcases hb with rfl | hb; omega; exact hb)).trans' (Kept.of_grown (M := fun b => b = w3.heap.size) hg12 rfl) (fun b hb hs => by subst hb; omega)
  refine endQ.cell2 Try.underlying36 rfl ti36 (.inr rfl) rfl hB12.cells ⟨⟨fv, rfl, ownsRow_mono (own_grown ho11 hg12 (by omega)) (by omega)⟩, ?_, hk12⟩
  have h11s := hk11.size
  refine (hN11.kept (Kept.of_grown (M := fun b => b = w3.heap.size) hg12 rfl) (fun b hb hs => .inr (.inl hb)) (by omega) (by omega)).mono (fun b hb _ => .inl hb) (fun b hb => Nat.lt_of_lt_of_le (hMs b hb) hk12.size) hMb.1 hMb.2
/-! Spoil -/
theorem spoilFn_err {c : Int} {xs : List UInt8} (hc : c ≠ 0) (w : World) (p : LS × Value) (hs : Bs w p.2 p.1.bs) (hl : p.1.bs.length ≤ 140737488355328) (at' : Int) (m : UInt8) (hsp : spoilOf p.1.bs at' m = (xs, c)) (b1 b2 b3 b4 : Nat) (h1 : Blk w b1 3 [.int .i64 at']) (h2 : Blk w b2 5 [u8v m]) :
    Ret Try.prog 35 [.agg (encL p).toArray, .pointer (some ⟨b1, 0, none⟩), .pointer (some ⟨b2, 0, none⟩), .pointer (some ⟨b3, 0, none⟩), .pointer (some ⟨b4, 0, none⟩)].toArray w fun v w' => v = .int .i64 c ∧ Below w.heap.size w w' := by
  refine Ret.of (n := 32) (rs := #[.tmp 6]) Try.func35 rfl rfl rfl (by simp) ?_
  refine WC.seqR rfl ?_
  refine WL.eex rfl (E.boxX) ?_
  rintro _ w5 ⟨rfl, hB5, hb5⟩
  have k5 := hb5
  refine WL.y rfl (Y.assign) ?_
  refine WL.nil ?_
  refine WC.seqR rfl ?_
  refine WL.y rfl (Y.fieldAddr fi36f1 ti32 (by decide) rfl (rfl) _) ?_
  refine WL.y rfl (Y.load1 Try.underlying32 rfl rfl ((show _ = some p.2 from (hB5.cell 1).trans rfl))) ?_
  refine WL.y rfl (Y.load1 Try.underlying3 rfl rfl ((h1.bel k5).one)) ?_
  refine WL.y rfl (Y.load1 Try.underlying5 rfl rfl ((h2.bel k5).one)) ?_
  refine WL.call rfl (C.func go36) (spoil_is _ p.2 _ (hs.bel k5) hl hsp) ?_
  rintro _ w14 ⟨⟨x14, rfl, ho14⟩, hb14⟩
  have k14 := Below.step k5 hb14
  refine WL.y rfl (Y.move) ?_
  refine WL.y rfl (Y.extract rfl rfl) ?_
  refine WL.y rfl (Y.extract rfl rfl) ?_
  refine WL.y rfl (Y.assign) ?_
  refine WL.y rfl (Y.assign) ?_
  refine WL.nil ?_
  refine WC.seq ?_
  refine WC.seqR rfl ?_
  refine WL.y rfl (Y.move) ?_
  refine WL.y rfl (Y.dT (Y.nei rfl rfl) (by omega)) ?_
  refine WL.nil ?_
  refine WC.condT (rfl) ?_
  refine WC.seqR rfl ?_
  refine WL.y rfl (Y.move) ?_
  refine WL.y rfl (Y.assign) ?_
  refine WL.nil ?_
  refine WC.ret (thenQ.ret (endQ.one (.inr rfl) ?_))
  exact ⟨rfl, k14⟩
theorem spoilFn_spoilt {xs : List UInt8} (w : World) (p : LS × Value) (hp : p.1.sp = true) (hs : Bs w p.2 p.1.bs) (hl : p.1.bs.length ≤ 140737488355328) (at' : Int) (m : UInt8) (hsp : spoilOf p.1.bs at' m = (xs, 0)) (b1 b2 b3 b4 : Nat) (h1 : Blk w b1 3 [.int .i64 at']) (h2 : Blk w b2 5 [u8v m]) :
    Ret Try.prog 35 [.agg (encL p).toArray, .pointer (some ⟨b1, 0, none⟩), .pointer (some ⟨b2, 0, none⟩), .pointer (some ⟨b3, 0, none⟩), .pointer (some ⟨b4, 0, none⟩)].toArray w fun v w' => v = .int .i64 13 ∧ Below w.heap.size w w' := by
  refine Ret.of (n := 32) (rs := #[.tmp 6]) Try.func35 rfl rfl rfl (by simp) ?_
  refine WC.seqR rfl ?_
  refine WL.eex rfl (E.boxX) ?_
  rintro _ w5 ⟨rfl, hB5, hb5⟩
  have k5 := hb5
  refine WL.y rfl (Y.assign) ?_
  refine WL.nil ?_
  refine WC.seqR rfl ?_
  refine WL.y rfl (Y.fieldAddr fi36f1 ti32 (by decide) rfl (rfl) _) ?_
  refine WL.y rfl (Y.load1 Try.underlying32 rfl rfl ((show _ = some p.2 from (hB5.cell 1).trans rfl))) ?_
  refine WL.y rfl (Y.load1 Try.underlying3 rfl rfl ((h1.bel k5).one)) ?_
  refine WL.y rfl (Y.load1 Try.underlying5 rfl rfl ((h2.bel k5).one)) ?_
  refine WL.call rfl (C.func go36) (spoil_is _ p.2 _ (hs.bel k5) hl hsp) ?_
  rintro _ w14 ⟨⟨x14, rfl, ho14⟩, hb14⟩
  have k14 := Below.step k5 hb14
  refine WL.y rfl (Y.move) ?_
  refine WL.y rfl (Y.extract rfl rfl) ?_
  refine WL.y rfl (Y.extract rfl rfl) ?_
  refine WL.y rfl (Y.assign) ?_
  refine WL.y rfl (Y.assign) ?_
  refine WL.nil ?_
  refine WC.seq ?_
  refine WC.seqR rfl ?_
  refine WL.y rfl (Y.move) ?_
  refine WL.y rfl (Y.dF (Y.nei rfl rfl) (by omega)) ?_
  refine WL.nil ?_
  refine WC.condF (rfl) ?_
  refine WC.skip (thenQ.normal ?_)
  refine WC.seq ?_
  refine WC.seqR rfl ?_
  refine WL.y rfl (Y.fieldAddr fi36f2 ti4 (by decide) rfl (rfl) _) ?_
  refine WL.y rfl (Y.load1 Try.underlying4 rfl rfl ((show _ = some (Value.bool true) from ((hB5.bel hb14).cell 2).trans (by rw [← hp]; rfl)))) ?_
  refine WL.nil ?_
  refine WC.condT (rfl) ?_
  refine WC.seqR rfl ?_
  refine WL.y rfl (Y.assign) ?_
  refine WL.nil ?_
  refine WC.ret (thenQ.ret (endQ.one (.inr rfl) ?_))
  exact ⟨rfl, k14⟩
theorem spoilFn_ok {xs : List UInt8} (w : World) (M : Nat → Prop) (bn bl : Nat) (ps : List (LS × Value)) (h : NetAt w M bn bl ps) (i : Nat) (hi : i < ps.length) (hp : ps[i].1.sp = false) (at' : Int) (m : UInt8) (hsp : spoilOf ps[i].1.bs at' m = (xs, 0)) (hx : xs.length ≤ 140737488355328) (b1 b2 b3 b4 : Nat) (h1 : Blk w b1 3 [.int .i64 at']) (h2 : Blk w b2 5 [u8v m]) (h3 : Blk w b3 25 [.pointer (some ⟨bn, 0, none⟩)]) (h4 : Blk w b4 3 [.int .i64 (i : Int)]) :
    Ret Try.prog 35 [.agg (encL ps[i]).toArray, .pointer (some ⟨b1, 0, none⟩), .pointer (some ⟨b2, 0, none⟩), .pointer (some ⟨b3, 0, none⟩), .pointer (some ⟨b4, 0, none⟩)].toArray w fun v w' => v = .int .i64 0 ∧ ∃ fv, NetAt w' M bn bl (ps.set i (⟨ps[i].1.to, xs, true⟩, fv)) ∧ Kept (NB bn bl) w w' := by
  have hl := h.2.choose_spec.2.2.2.2 ps[i] (List.getElem_mem hi)
  have h' := h
  obtain ⟨hMs, v, hB, ho, hm1, hm2, hlt⟩ := h'
  obtain ⟨o, cap, rfl, hnc, hcm, hbl⟩ := ho.form (by omega)
  have hMn := hMs bn hm1
  refine Ret.of (n := 32) (rs := #[.tmp 6]) Try.func35 rfl rfl rfl (by simp) ?_
  refine WC.seqR rfl ?_
  refine WL.eex rfl (E.boxX) ?_
  rintro _ w5 ⟨rfl, hB5, hb5⟩
  have k5 := hb5
  refine WL.y rfl (Y.assign) ?_
  refine WL.nil ?_
  refine WC.seqR rfl ?_
  refine WL.y rfl (Y.fieldAddr fi36f1 ti32 (by decide) rfl (rfl) _) ?_
  refine WL.y rfl (Y.load1 Try.underlying32 rfl rfl ((show _ = some ps[i].2 from (hB5.cell 1).trans rfl))) ?_
  refine WL.y rfl (Y.load1 Try.underlying3 rfl rfl ((h1.bel k5).one)) ?_
  refine WL.y rfl (Y.load1 Try.underlying5 rfl rfl ((h2.bel k5).one)) ?_
  refine WL.call rfl (C.func go36) (spoil_is _ ps[i].2 _ (hl.1.sl.bel k5) hl.2 hsp) ?_
  rintro _ w14 ⟨⟨x14, rfl, ho14⟩, hb14⟩
  have k14 := Below.step k5 hb14
  have hB14 : Blk w14 w.heap.size 36 (encL ps[i]) := hB5.bel hb14
  refine WL.y rfl (Y.move) ?_
  refine WL.y rfl (Y.extract rfl rfl) ?_
  refine WL.y rfl (Y.extract rfl rfl) ?_
  refine WL.y rfl (Y.assign) ?_
  refine WL.y rfl (Y.assign) ?_
  refine WL.nil ?_
  refine WC.seq ?_
  refine WC.seqR rfl ?_
  refine WL.y rfl (Y.move) ?_
  refine WL.y rfl (Y.dF (Y.nei rfl rfl) (by omega)) ?_
  refine WL.nil ?_
  refine WC.condF (rfl) ?_
  refine WC.skip (thenQ.normal ?_)
  refine WC.seq ?_
  refine WC.seqR rfl ?_
  refine WL.y rfl (Y.fieldAddr fi36f2 ti4 (by decide) rfl (rfl) _) ?_
  refine WL.y rfl (Y.load1 Try.underlying4 rfl rfl ((show _ = some (Value.bool false) from (hB14.cell 2).trans (by rw [← hp]; rfl)))) ?_
  refine WL.nil ?_
  refine WC.condF (rfl) ?_
  refine WC.skip (thenQ.normal ?_)
  refine WC.seqR rfl ?_
  refine WL.y rfl (Y.move) ?_
  refine WL.y rfl (Y.fieldAddr fi36f1 ti32 (by decide) rfl (rfl) _) ?_
  refine WL.eex rfl (E.storeX (u := x14) ti32 rfl rfl ho14.bs.one hB14 (show 1 < 3 by decide)) ?_
  rintro _ w15 ⟨hB15, hg15, -⟩
  have ho15 := own_grown ho14 hg15 hB5.lt
  have k15 : Below w.heap.size w w15 := k14.trans (below_of_grown hg15 k14.size (fun k e => by cases e; omega))
  refine WL.y rfl (Y.fieldAddr fi36f2 ti4 (by decide) rfl (rfl) _) ?_
  refine WL.eex rfl (E.storeX (u := .bool true) ti4 rfl rfl rfl hB15 (show 2 < 3 by decide)) ?_
  rintro _ w16 ⟨hB16, hg16, -⟩
  have ho16 := own_grown ho15 hg16 hB5.lt
  have k16 : Below w.heap.size w w16 := k15.trans (below_of_grown hg16 k15.size (fun k e => by cases e; omega))
  refine WL.nil ?_
  refine WC.seq ?_
  refine WC.regionB (fun i => Nat.beq i 7) [(0, .held), (1, .any), (2, .any), (3, .held), (4, .held), (5, .held), (6, .any), (7, .seq)] mixed (by kernel_rfl) (fun wr7 hS7 hheap => ?_)
  have kr7 := Below.step k16 hS7
  refine RL.held rfl rfl hS7 (fun _ hb9 => Y.load1 Try.underlying25 rfl rfl (cell_bel (h3.bel k16).one hb9)) ?_
  refine RL.any rfl rfl (fun _ => Y.nilCheck rfl) ?_
  refine RL.any rfl rfl (fun _ => Y.fieldAddr fi28f0 ti26 (by decide) rfl (rfl) _) ?_
  refine RL.held rfl rfl hS7 (fun _ hb9 => Y.load1 Try.underlying26 rfl rfl (cell_bel (hB.bel k16).one hb9)) ?_
  refine RL.held rfl rfl hS7 (fun _ hb9 => Y.load1 Try.underlying3 rfl rfl (cell_bel (h4.bel k16).one hb9)) ?_
  refine RL.held rfl rfl hS7 (fun _ hb9 => Y.loadN Try.underlying36 rfl ti36 rfl ((show Cells _ _ _ (encL (⟨ps[i].1.to, xs, true⟩, x14)) from (hB16.bel hb9).cells))) ?_
  refine RL.any rfl rfl (fun _ => Y.idxV Try.underlying26 ti36 rfl rfl (by omega) (by omega) _) ?_
  refine RL.eex rfl rfl (E.storeK (i := i) (us := encL (⟨ps[i].1.to, xs, true⟩, x14)) ti36 rfl rfl rfl (one_enc ho14.bs.one) (ho.bel kr7) (by omega) rfl) ?_ ?_
  · exact fun _ _ _ => .inl rfl
  rintro _ w31 ⟨ho31, hg31⟩
  refine RL.nil (thenQ.normal ?_)
  refine WC.seqR rfl ?_
  refine WL.y rfl (Y.assign) ?_
  refine WL.nil ?_
  refine WC.ret (endQ.one (.inr rfl) ?_)
  rw [flat_st ps i (⟨ps[i].1.to, xs, true⟩, x14) hi] at ho31
  have hk31 : Kept (NB bn bl) w w31 := (Kept.of_bel kr7).trans (Kept.of_grown hg31 (.inr rfl))
  have hne : bn ≠ bl := fun e => (ho.other hB (by decide)) (by rw [e]; rfl)
  have h5s := hb5.size
  have hrs := hS7.size
  have hk1431 : Kept (fun b => b = w.heap.size ∨ b = bl) w14 w31 := (((Kept.of_grown hg15 (.inl rfl)).trans (Kept.of_grown hg16 (.inl rfl))).trans (Kept.of_bel hS7)).trans (Kept.of_grown hg31 (.inr rfl))
  refine ⟨rfl, x14, ⟨fun b hb => Nat.lt_of_lt_of_le (hMs b hb) hk31.size, _, (hB.bel kr7).grown hg31 hne, by rw [List.length_set]; exact ho31, hm1, hm2, ?_⟩, hk31⟩
  intro q hq
  rcases List.mem_or_eq_of_mem_set hq with hq | rfl
  · exact ⟨(hlt q hq).1.kept hk31 (fun b hb hs => by rcases hb with rfl | rfl <;> assumption), (hlt q hq).2⟩
  · have hlt5 := hB5.lt
    have h1 : SlA w14 (fun b => M b ∨ b = w.heap.size) 1 x14 xs.length (xs.map u8v) := SlA.of_own ho14 (fun b hb _ => by rcases hb with hb | hb; (have := hMs b hb; omega); omega)
    exact ⟨(h1.kept hk1431 (fun b hb _ => by rcases hb with hb | hb; exact .inr hb; exact .inl (hb ▸ hm2))).mono (fun b hb _ => .inl hb), hx⟩
theorem nspoil_nil (w : World) (i at' : Int) (m : UInt8) : Ret Try.prog 16 [.pointer none, .int .i64 i, .int .i64 at', u8v m].toArray w fun v w' => v = .int .i64 1 ∧ Below w.heap.size w w' := by
  refine Ret.of (n := 13) (rs := #[.tmp 8]) Try.func16 rfl rfl rfl (by simp) ?_
  refine WC.seqR rfl ?_
  refine WL.eex rfl (E.boxX) ?_
  rintro _ w4 ⟨rfl, hB4, hb4⟩
  have k4 := hb4
  refine WL.eex rfl (E.boxX) ?_
  rintro _ w5 ⟨rfl, hB5, hb5⟩
  have k5 := Below.step k4 hb5
  refine WL.eex rfl (E.boxX) ?_
  rintro _ w6 ⟨rfl, hB6, hb6⟩
  have k6 := Below.step k5 hb6
  refine WL.eex rfl (E.boxX) ?_
  rintro _ w7 ⟨rfl, hB7, hb7⟩
  have k7 := Below.step k6 hb7
  refine WL.y rfl (Y.assign) ?_
  refine WL.nil ?_
  refine WC.seqR rfl ?_
  refine WL.y rfl (Y.load1 Try.underlying25 rfl rfl ((((hB4.bel hb5).bel hb6).bel hb7).one)) ?_
  refine WL.y rfl (Y.load1 Try.underlying3 rfl rfl (((hB5.bel hb6).bel hb7).one)) ?_
  refine WL.y rfl (Y.makeFunc) ?_
  refine WL.call rfl (C.func go30) (with_nil _ i _) ?_
  rintro _ _ ⟨rfl, rfl⟩
  refine WL.y rfl (Y.assign) ?_
  refine WL.nil ?_
  refine WC.ret (endQ.one (.inr rfl) ?_)
  exact ⟨rfl, k7⟩
theorem nspoil_out (w : World) (M : Nat → Prop) (bn bl : Nat) (ps : List (LS × Value)) (h : NetAt w M bn bl ps) (i : Int) (hi : ¬ (0 ≤ i ∧ i < ps.length)) (at' : Int) (m : UInt8) : Ret Try.prog 16 [.pointer (some ⟨bn, 0, none⟩), .int .i64 i, .int .i64 at', u8v m].toArray w fun v w' => v = .int .i64 17 ∧ Below w.heap.size w w' := by
  refine Ret.of (n := 13) (rs := #[.tmp 8]) Try.func16 rfl rfl rfl (by simp) ?_
  refine WC.seqR rfl ?_
  refine WL.eex rfl (E.boxX) ?_
  rintro _ w4 ⟨rfl, hB4, hb4⟩
  have k4 := hb4
  refine WL.eex rfl (E.boxX) ?_
  rintro _ w5 ⟨rfl, hB5, hb5⟩
  have k5 := Below.step k4 hb5
  refine WL.eex rfl (E.boxX) ?_
  rintro _ w6 ⟨rfl, hB6, hb6⟩
  have k6 := Below.step k5 hb6
  refine WL.eex rfl (E.boxX) ?_
  rintro _ w7 ⟨rfl, hB7, hb7⟩
  have k7 := Below.step k6 hb7
  refine WL.y rfl (Y.assign) ?_
  refine WL.nil ?_
  refine WC.seqR rfl ?_
  refine WL.y rfl (Y.load1 Try.underlying25 rfl rfl ((((hB4.bel hb5).bel hb6).bel hb7).one)) ?_
  refine WL.y rfl (Y.load1 Try.underlying3 rfl rfl (((hB5.bel hb6).bel hb7).one)) ?_
  refine WL.y rfl (Y.makeFunc) ?_
  refine WL.call rfl (C.func go30) (with_out _ M bn bl ps (h.bel k7) i hi _) ?_
  rintro _ _ ⟨rfl, rfl⟩
  refine WL.y rfl (Y.assign) ?_
  refine WL.nil ?_
  refine WC.ret (endQ.one (.inr rfl) ?_)
  exact ⟨rfl, k7⟩
theorem nspoil_err {c : Int} {xs : List UInt8} (hc : c ≠ 0) (w : World) (M : Nat → Prop) (bn bl : Nat) (ps : List (LS × Value)) (h : NetAt w M bn bl ps) (i : Nat) (hi : i < ps.length) (at' : Int) (m : UInt8) (hsp : spoilOf ps[i].1.bs at' m = (xs, c)) : Ret Try.prog 16 [.pointer (some ⟨bn, 0, none⟩), .int .i64 (i : Int), .int .i64 at', u8v m].toArray w fun v w' => v = .int .i64 c ∧ Below w.heap.size w w' := by
  have hl := h.2.choose_spec.2.2.2.2 ps[i] (List.getElem_mem hi)
  refine Ret.of (n := 13) (rs := #[.tmp 8]) Try.func16 rfl rfl rfl (by simp) ?_
  refine WC.seqR rfl ?_
  refine WL.eex rfl (E.boxX) ?_
  rintro _ w4 ⟨rfl, hB4, hb4⟩
  have k4 := hb4
  refine WL.eex rfl (E.boxX) ?_
  rintro _ w5 ⟨rfl, hB5, hb5⟩
  have k5 := Below.step k4 hb5
  refine WL.eex rfl (E.boxX) ?_
  rintro _ w6 ⟨rfl, hB6, hb6⟩
  have k6 := Below.step k5 hb6
  refine WL.eex rfl (E.boxX) ?_
  rintro _ w7 ⟨rfl, hB7, hb7⟩
  have k7 := Below.step k6 hb7
  refine WL.y rfl (Y.assign) ?_
  refine WL.nil ?_
  refine WC.seqR rfl ?_
  refine WL.y rfl (Y.load1 Try.underlying25 rfl rfl ((((hB4.bel hb5).bel hb6).bel hb7).one)) ?_
  refine WL.y rfl (Y.load1 Try.underlying3 rfl rfl (((hB5.bel hb6).bel hb7).one)) ?_
  refine WL.y rfl (Y.makeFunc) ?_
  refine WL.call rfl (C.func go30) (with_in _ M bn bl ps (h.bel k7) i hi (fst := []) (cap := [.pointer (some ⟨w5.heap.size, 0, none⟩), .pointer (some ⟨w6.heap.size, 0, none⟩), .pointer (some ⟨w.heap.size, 0, none⟩), .pointer (some ⟨w4.heap.size, 0, none⟩)]) go35 (spoilFn_err hc _ ps[i] (hl.1.sl.bel k7) hl.2 at' m hsp _ _ _ _ (hB6.bel hb7) hB7)) ?_
  rintro _ w12 ⟨rfl, hb12⟩
  have k12 := Below.step k7 hb12
  refine WL.y rfl (Y.assign) ?_
  refine WL.nil ?_
  refine WC.ret (endQ.one (.inr rfl) ?_)
  exact ⟨rfl, k12⟩
theorem nspoil_spoilt {xs : List UInt8} (w : World) (M : Nat → Prop) (bn bl : Nat) (ps : List (LS × Value)) (h : NetAt w M bn bl ps) (i : Nat) (hi : i < ps.length) (hp : ps[i].1.sp = true) (at' : Int) (m : UInt8) (hsp : spoilOf ps[i].1.bs at' m = (xs, 0)) : Ret Try.prog 16 [.pointer (some ⟨bn, 0, none⟩), .int .i64 (i : Int), .int .i64 at', u8v m].toArray w fun v w' => v = .int .i64 13 ∧ Below w.heap.size w w' := by
  have hl := h.2.choose_spec.2.2.2.2 ps[i] (List.getElem_mem hi)
  refine Ret.of (n := 13) (rs := #[.tmp 8]) Try.func16 rfl rfl rfl (by simp) ?_
  refine WC.seqR rfl ?_
  refine WL.eex rfl (E.boxX) ?_
  rintro _ w4 ⟨rfl, hB4, hb4⟩
  have k4 := hb4
  refine WL.eex rfl (E.boxX) ?_
  rintro _ w5 ⟨rfl, hB5, hb5⟩
  have k5 := Below.step k4 hb5
  refine WL.eex rfl (E.boxX) ?_
  rintro _ w6 ⟨rfl, hB6, hb6⟩
  have k6 := Below.step k5 hb6
  refine WL.eex rfl (E.boxX) ?_
  rintro _ w7 ⟨rfl, hB7, hb7⟩
  have k7 := Below.step k6 hb7
  refine WL.y rfl (Y.assign) ?_
  refine WL.nil ?_
  refine WC.seqR rfl ?_
  refine WL.y rfl (Y.load1 Try.underlying25 rfl rfl ((((hB4.bel hb5).bel hb6).bel hb7).one)) ?_
  refine WL.y rfl (Y.load1 Try.underlying3 rfl rfl (((hB5.bel hb6).bel hb7).one)) ?_
  refine WL.y rfl (Y.makeFunc) ?_
  refine WL.call rfl (C.func go30) (with_in _ M bn bl ps (h.bel k7) i hi (fst := []) (cap := [.pointer (some ⟨w5.heap.size, 0, none⟩), .pointer (some ⟨w6.heap.size, 0, none⟩), .pointer (some ⟨w.heap.size, 0, none⟩), .pointer (some ⟨w4.heap.size, 0, none⟩)]) go35 (spoilFn_spoilt _ ps[i] hp (hl.1.sl.bel k7) hl.2 at' m hsp _ _ _ _ (hB6.bel hb7) hB7)) ?_
  rintro _ w12 ⟨rfl, hb12⟩
  have k12 := Below.step k7 hb12
  refine WL.y rfl (Y.assign) ?_
  refine WL.nil ?_
  refine WC.ret (endQ.one (.inr rfl) ?_)
  exact ⟨rfl, k12⟩
theorem nspoil_ok {xs : List UInt8} (w : World) (M : Nat → Prop) (bn bl : Nat) (ps : List (LS × Value)) (h : NetAt w M bn bl ps) (i : Nat) (hi : i < ps.length) (hp : ps[i].1.sp = false) (at' : Int) (m : UInt8) (hsp : spoilOf ps[i].1.bs at' m = (xs, 0)) (hx : xs.length ≤ 140737488355328) : Ret Try.prog 16 [.pointer (some ⟨bn, 0, none⟩), .int .i64 (i : Int), .int .i64 at', u8v m].toArray w fun v w' => v = .int .i64 0 ∧ ∃ fv, NetAt w' M bn bl (ps.set i (⟨ps[i].1.to, xs, true⟩, fv)) ∧ Kept (NB bn bl) w w' := by
  refine Ret.of (n := 13) (rs := #[.tmp 8]) Try.func16 rfl rfl rfl (by simp) ?_
  refine WC.seqR rfl ?_
  refine WL.eex rfl (E.boxX) ?_
  rintro _ w4 ⟨rfl, hB4, hb4⟩
  have k4 := hb4
  refine WL.eex rfl (E.boxX) ?_
  rintro _ w5 ⟨rfl, hB5, hb5⟩
  have k5 := Below.step k4 hb5
  refine WL.eex rfl (E.boxX) ?_
  rintro _ w6 ⟨rfl, hB6, hb6⟩
  have k6 := Below.step k5 hb6
  refine WL.eex rfl (E.boxX) ?_
  rintro _ w7 ⟨rfl, hB7, hb7⟩
  have k7 := Below.step k6 hb7
  refine WL.y rfl (Y.assign) ?_
  refine WL.nil ?_
  refine WC.seqR rfl ?_
  refine WL.y rfl (Y.load1 Try.underlying25 rfl rfl ((((hB4.bel hb5).bel hb6).bel hb7).one)) ?_
  refine WL.y rfl (Y.load1 Try.underlying3 rfl rfl (((hB5.bel hb6).bel hb7).one)) ?_
  refine WL.y rfl (Y.makeFunc) ?_
  refine WL.call rfl (C.func go30) (with_in _ M bn bl ps (h.bel k7) i hi (fst := []) (cap := [.pointer (some ⟨w5.heap.size, 0, none⟩), .pointer (some ⟨w6.heap.size, 0, none⟩), .pointer (some ⟨w.heap.size, 0, none⟩), .pointer (some ⟨w4.heap.size, 0, none⟩)]) go35 (spoilFn_ok _ M bn bl ps (h.bel k7) i hi hp at' m hsp hx _ _ _ _ (hB6.bel hb7) hB7 (((hB4.bel hb5).bel hb6).bel hb7) ((hB5.bel hb6).bel hb7))) ?_
  rintro _ w12 ⟨rfl, fv, hN12, hk12⟩
  refine WL.y rfl (Y.assign) ?_
  refine WL.nil ?_
  refine WC.ret (endQ.one (.inr rfl) ?_)
  exact ⟨rfl, fv, hN12, (Kept.of_bel k7).trans hk12⟩
end Go.Proofs.Ytjlclaimpepgiaa
