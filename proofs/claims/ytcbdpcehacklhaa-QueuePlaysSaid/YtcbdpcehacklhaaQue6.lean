/-
  The laws QueueNil, QueueLast: walks.
-/
import Derived.Test.YtcbdpcehacklhaaQue5
import Derived.Test.YtcbdpcehacklhaaOpen0
namespace Go.Proofs.Ytcbdpcehacklhaa
open Go Go.RowKit Go.Cx
set_option linter.unusedVariables false
set_option maxHeartbeats 8000000
theorem u64_range {n : Int} (h : (Lit.int .u64 n).wf = true) : 0 ≤ n ∧ n ≤ 18446744073709551615 := int_range h
theorem i64_range {n : Int} (h : (Lit.int .i64 n).wf = true) : -9223372036854775808 ≤ n ∧ n ≤ 9223372036854775807 := int_range h
theorem mt_one {w : World} {M : Nat → Prop} {m : Mt} {c : List Value} (h : MtW w M m c) : ∀ u ∈ c, One u = true := h.one
theorem qfind_nilM (w : World) (id : Int) : Ret Try.prog 14 [.pointer none, .int .u64 id].toArray w fun v w' => v = .tuple #[.agg (mtcell nilMt nilV nilV (.slice none 0 0)).toArray, .int .i64 1] ∧ Below w.heap.size w w' := by
  refine Ret.of (n := 37) (rs := #[.cell 4 30, .tmp 5]) Try.func14 rfl rfl rfl (by simp) ?_
  refine WC.seqR rfl ?_
  refine WL.eex rfl (E.allocX ti30) ?_
  rintro _ w4 ⟨rfl, hB4, hb4⟩
  refine WL.y rfl (Y.assign) ?_
  refine WL.nil ?_
  refine WC.seq ?_
  refine WC.seqR rfl ?_
  refine WL.y rfl (Y.move) ?_
  refine WL.y rfl (Y.eqpn Try.underlying32 rfl rfl) ?_
  refine WL.nil ?_
  refine WC.condT (rfl) ?_
  refine WC.seqR rfl ?_
  refine WL.y rfl (Y.build (cells := (mtcell nilMt nilV nilV (.slice none 0 0)).toArray) (by kernel_rfl) _) ?_
  refine WL.eex rfl (E.storeAllK (us := mtcell nilMt nilV nilV (.slice none 0 0)) ti30 rfl rfl rfl (nilMt_w (w := w4) (M := fun _ => True)).one hB4 rfl) ?_
  rintro _ w5 ⟨hB5, hg5⟩
  refine WL.y rfl (Y.assign) ?_
  refine WL.nil ?_
  refine WC.ret (thenQ.ret ?_)
  exact endQ.cell2 Try.underlying30 rfl ti30 (.inr rfl) rfl hB5.cells ⟨rfl, Below.stepG hb4 hg5 (Nat.le_refl _)⟩
theorem nilc_one : ∀ u ∈ mtcell nilMt nilV nilV (.slice none 0 0), One u = true := (nilMt_w (w := default) (M := fun _ => True)).one
theorem queueNil_ret (w : World) (n : Int) (hn : (Lit.int .u64 n).wf = true) : Ret Try.prog 6 [.int .u64 n].toArray w fun v w' => v = .bool true ∧ Below w.heap.size w w' := by
  have hr := u64_range hn
  have hfz : findQ 0 [] n = (nilMt, 12) := if_neg (by simp)
  have hbz : batchK 0 0 3 n = 0 := by unfold batchK; omega
  refine Ret.of (n := 107) (rs := #[.tmp 2]) Try.func6 rfl rfl rfl (by simp) ?_
  refine WC.seqR rfl ?_
  refine WL.y rfl (Y.assign) ?_
  refine WL.nil ?_
  refine WC.seqR rfl ?_
  refine WL.y rfl (Y.assign) ?_
  refine WL.nil ?_
  refine WC.seqR rfl ?_
  refine WL.eex rfl (E.allocX ti36) ?_
  rintro _ w4 ⟨rfl, hB4, hb4⟩
  refine WL.nil ?_
  have hz : QW w4 (fun b => b = w.heap.size) w.heap.size 0 [] := QW.zero hB4 rfl
  clear hB4
  refine WC.seqR rfl ?_
  refine WL.y rfl (Y.move) ?_
  refine WL.call rfl (C.func go11) (del_ret _ [97] (by simp)) ?_
  rintro _ w13 ⟨rfl, hb13⟩
  refine WL.call rfl (C.func go10) (qadd_nil _ _) ?_
  rintro _ w14 ⟨rfl, hb14⟩
  refine WL.y rfl (Y.move) ?_
  refine WL.y rfl (Y.extract rfl rfl) ?_
  refine WL.y rfl (Y.extract rfl rfl) ?_
  refine WL.y rfl (Y.assign) ?_
  refine WL.y rfl (Y.assign) ?_
  refine WL.nil ?_
  refine WC.seqR rfl ?_
  refine WL.y rfl (Y.move) ?_
  refine WL.y rfl (Y.move) ?_
  refine WL.call rfl (C.func go14) (qfind_nilM _ _) ?_
  rintro _ w20 ⟨rfl, hb20⟩
  refine WL.y rfl (Y.move) ?_
  refine WL.y rfl (Y.extract rfl rfl) ?_
  refine WL.y rfl (Y.extract rfl rfl) ?_
  refine WL.eex rfl (E.allocX ti30) ?_
  rintro _ w7 ⟨rfl, hB7, hb7⟩
  refine WL.eex rfl (E.storeAllK (us := mtcell nilMt nilV nilV (.slice none 0 0)) ti30 rfl rfl rfl nilc_one hB7 rfl) ?_
  rintro _ w7s ⟨-, hg7⟩
  refine WL.y rfl (Y.assign) ?_
  refine WL.nil ?_
  have b7 : Below w20.heap.size w20 w7s := Below.stepG hb7 hg7 (Nat.le_refl _)
  have bb : Below w4.heap.size w4 w7s := Below.step (Below.step (Below.step hb13 hb14) hb20) b7
  have hz7 := hz.bel bb
  clear hg7 hb7 hB7
  refine WC.seqR rfl ?_
  refine WL.y rfl (Y.move) ?_
  refine WL.call rfl (C.func go14) (qfind_ret hz7 n hr) ?_
  rintro _ w25 ⟨c25, rfl, h25, hb25⟩
  refine WL.y rfl (Y.move) ?_
  refine WL.y rfl (Y.extract rfl rfl) ?_
  refine WL.y rfl (Y.extract rfl rfl) ?_
  refine WL.eex rfl (E.allocX ti30) ?_
  rintro _ w9 ⟨rfl, hB9, hb9⟩
  refine WL.eex rfl (E.storeAllK (us := c25) ti30 h25.len rfl rfl h25.one hB9 rfl) ?_
  rintro _ w9s ⟨-, hg9⟩
  refine WL.y rfl (Y.assign) ?_
  refine WL.nil ?_
  have b9 : Below w25.heap.size w25 w9s := Below.stepG hb9 hg9 (Nat.le_refl _)
  have hz9 := (hz7.bel hb25).bel b9
  have e2 : (findQ 0 [] n).2 = 12 := by rw [hfz]
  have hb := Below.step (Below.step (Below.step hb4 bb) hb25) b9
  clear hg9 hB9 h25 hb9
  refine WC.seqR rfl ?_
  refine WL.y rfl (Y.move) ?_
  refine WL.y rfl (Y.dT (Y.eqi rfl rfl) (rfl)) ?_
  refine WL.y rfl (Y.move) ?_
  refine WL.y rfl (Y.move) ?_
  refine WL.y rfl (Y.dT (Y.eqi rfl rfl) (rfl)) ?_
  refine WL.y rfl (Y.pickT rfl) ?_
  refine WL.y rfl (Y.move) ?_
  refine WL.y rfl (Y.move) ?_
  refine WL.y rfl (Y.move) ?_
  refine WL.call rfl (C.func go18) (qcut_nil _ n) ?_
  rintro _ _ ⟨rfl, rfl⟩
  refine WL.y rfl (Y.dT (Y.eqi rfl rfl) (rfl)) ?_
  refine WL.y rfl (Y.pickT rfl) ?_
  refine WL.y rfl (Y.move) ?_
  refine WL.y rfl (Y.move) ?_
  refine WL.call rfl (C.func go20) (qlast_nil _) ?_
  rintro _ _ ⟨rfl, rfl⟩
  refine WL.y rfl (Y.dT (Y.eqi rfl rfl) (rfl)) ?_
  refine WL.y rfl (Y.pickT rfl) ?_
  refine WL.y rfl (Y.move) ?_
  refine WL.y rfl (Y.move) ?_
  refine WL.call rfl (C.func go17) (qnext_nil _) ?_
  rintro _ _ ⟨rfl, rfl⟩
  refine WL.y rfl (Y.dT (Y.eqi rfl rfl) (rfl)) ?_
  refine WL.y rfl (Y.pickT rfl) ?_
  refine WL.y rfl (Y.move) ?_
  refine WL.y rfl (Y.move) ?_
  refine WL.call rfl (C.func go21) (qlen_nil _) ?_
  rintro _ _ ⟨rfl, rfl⟩
  refine WL.y rfl (Y.dT (Y.eqi rfl rfl) (rfl)) ?_
  refine WL.y rfl (Y.pickT rfl) ?_
  refine WL.y rfl (Y.move) ?_
  refine WL.y rfl (Y.move) ?_
  refine WL.call rfl (C.func go12) (qall_nil _) ?_
  rintro _ _ ⟨rfl, rfl⟩
  refine WL.y rfl (Y.lenSl Try.underlying34 ((SlK.nil (w := w9s) (k := 20))) _) ?_
  refine WL.y rfl (Y.dT (Y.eqi rfl rfl) (rfl)) ?_
  refine WL.y rfl (Y.pickT rfl) ?_
  refine WL.y rfl (Y.move) ?_
  refine WL.y rfl (Y.move) ?_
  refine WL.y rfl (Y.move) ?_
  refine WL.call rfl (C.func go13) (qbatch_nil _ 3 n) ?_
  rintro _ _ ⟨rfl, rfl⟩
  refine WL.y rfl (Y.lenSl Try.underlying34 ((SlK.nil (w := w9s) (k := 20))) _) ?_
  refine WL.y rfl (Y.dT (Y.eqi rfl rfl) (rfl)) ?_
  refine WL.y rfl (Y.pickT rfl) ?_
  refine WL.y rfl (Y.move) ?_
  refine WL.y rfl (Y.move) ?_
  refine WL.call rfl (C.func go23) (qcopy_nil _) ?_
  rintro _ _ ⟨rfl, rfl⟩
  refine WL.y rfl (Y.bT (Y.eqpn Try.underlying32 rfl rfl) (rfl)) ?_
  refine WL.y rfl (Y.pickT rfl) ?_
  refine WL.y rfl (Y.move) ?_
  refine WL.y rfl (Y.move) ?_
  refine WL.y rfl (Y.dT (Y.eqi rfl rfl) (e2)) ?_
  refine WL.y rfl (Y.pickT rfl) ?_
  refine WL.y rfl (Y.move) ?_
  refine WL.call rfl (C.func go20) (qlast_ret hz9) ?_
  rintro _ _ ⟨rfl, rfl⟩
  refine WL.y rfl (Y.dT (Y.eqi rfl rfl) (rfl)) ?_
  refine WL.y rfl (Y.pickT rfl) ?_
  refine WL.y rfl (Y.move) ?_
  refine WL.call rfl (C.func go17) (qnext_ret hz9) ?_
  rintro _ w82 ⟨rfl, hb82⟩
  have hz82 := hz9.bel hb82
  refine WL.y rfl (Y.dT (Y.eqi rfl rfl) (rfl)) ?_
  refine WL.y rfl (Y.pickT rfl) ?_
  refine WL.y rfl (Y.move) ?_
  refine WL.call rfl (C.func go21) (qlen_ret hz82) ?_
  rintro _ _ ⟨rfl, rfl⟩
  refine WL.y rfl (Y.dT (Y.eqi rfl rfl) (rfl)) ?_
  refine WL.y rfl (Y.pickT rfl) ?_
  refine WL.y rfl (Y.move) ?_
  refine WL.call rfl (C.func go12) (qall_ret hz82) ?_
  rintro r90 w90 ⟨h90, hb90⟩
  have hs90 := h90.sl
  obtain ⟨cs90, hs90⟩ := hs90
  have hz90 := hz82.bel hb90
  refine WL.y rfl (Y.lenSl Try.underlying34 (hs90) _) ?_
  refine WL.y rfl (Y.dT (Y.eqi rfl rfl) (rfl)) ?_
  refine WL.y rfl (Y.pickT rfl) ?_
  refine WL.y rfl (Y.move) ?_
  refine WL.y rfl (Y.move) ?_
  refine WL.call rfl (C.func go13) (qbatch_ret hz90 3 n (by omega) hr.1) ?_
  rintro r96 w96 ⟨h96, hb96⟩
  have hs96 : ∃ cs, SlK w96 20 r96 0 cs := (by obtain ⟨bl, lc, _, _, h, _⟩ := h96; have := h.sl; rw [show ((numd 0 []).take (batchK 0 ([] : List Mt).length 3 n)).length = 0 from rfl] at this; exact ⟨_, this⟩)
  obtain ⟨cs96, hs96⟩ := hs96
  have hz96 := hz90.bel hb96
  refine WL.y rfl (Y.lenSl Try.underlying34 (hs96) _) ?_
  refine WL.y rfl (Y.dT (Y.eqi rfl rfl) (rfl)) ?_
  refine WL.y rfl (Y.pickT rfl) ?_
  refine WL.y rfl (Y.move) ?_
  refine WL.call rfl (C.func go18) (qcut_ret hz96 0 (by omega) (by simp)) ?_
  rintro _ w101 ⟨rfl, -, k101⟩
  refine WL.y rfl (Y.dT (Y.eqi rfl rfl) (rfl)) ?_
  refine WL.y rfl (Y.pickT rfl) ?_
  refine WL.y rfl (Y.move) ?_
  refine WL.call rfl (C.func go16) (known_ret _) ?_
  rintro _ w105 ⟨rfl, hb105⟩
  refine WL.y rfl (Y.pickT rfl) ?_
  refine WL.y rfl (Y.assign) ?_
  refine WL.nil ?_
  refine WC.ret (endQ.one (.inr rfl) ?_)
  have b96 : Below w.heap.size w w96 := Below.step (Below.step (Below.step hb hb82) hb90) hb96
  exact ⟨rfl, Below.step (Below.kept b96 k101 (fun b h => by omega) (Nat.le_refl _)) hb105⟩
end Go.Proofs.Ytcbdpcehacklhaa
