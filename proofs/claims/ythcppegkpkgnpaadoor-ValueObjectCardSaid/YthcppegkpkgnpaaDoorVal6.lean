/-
  ref02: numbers, texts, Compare: walks.
-/
import Derived.Test.YthcppegkpkgnpaaDoorVal5
namespace Go.Proofs.YthcppegkpkgnpaaDoor
open Go Go.RowKit Go.Cx
set_option linter.unusedVariables false
set_option maxHeartbeats 4000000
theorem numbers_ret (w : World) (a b : Int) : Ret Tryd.prog 39 [.int .i64 a, .int .i64 b].toArray w fun v w' => v = .int .i64 (num a b) ∧ w = w' := by
  refine Ret.of (n := 11) (rs := #[.tmp 4]) Tryd.func39 rfl rfl rfl (by simp) ?_
  refine WC.seqR rfl ?_
  refine WL.y rfl (Y.assign) ?_
  refine WL.nil ?_
  refine WC.seq ?_
  refine WC.seqR rfl ?_
  refine WL.y rfl (Y.move) ?_
  refine WL.y rfl (Y.move) ?_
  refine WL.y rfl (Y.lss rfl rfl) ?_
  refine WL.nil ?_
  refine WC.condD rfl (fun h0 => ?_) (fun h0 => ?_)
  · refine WC.seqR rfl ?_
    refine WL.y rfl (Y.assign) ?_
    refine WL.nil ?_
    refine WC.ret (thenQ.ret (endQ.one (.inr rfl) ?_))
    exact ⟨congrArg (Value.int .i64) (num_lt h0).symm, rfl⟩
  · refine WC.skip (thenQ.normal ?_)
    refine WC.seq ?_
    refine WC.seqR rfl ?_
    refine WL.y rfl (Y.move) ?_
    refine WL.y rfl (Y.move) ?_
    refine WL.y rfl (Y.gtr rfl rfl) ?_
    refine WL.nil ?_
    refine WC.condD rfl (fun h1 => ?_) (fun h1 => ?_)
    · refine WC.seqR rfl ?_
      refine WL.y rfl (Y.assign) ?_
      refine WL.nil ?_
      refine WC.ret (thenQ.ret (endQ.one (.inr rfl) ?_))
      exact ⟨congrArg (Value.int .i64) (num_gt h1).symm, rfl⟩
    · refine WC.skip (thenQ.normal ?_)
      refine WC.seqR rfl ?_
      refine WL.y rfl (Y.assign) ?_
      refine WL.nil ?_
      refine WC.ret (endQ.one (.inr rfl) ?_)
      exact ⟨congrArg (Value.int .i64) (num_eq h0 h1).symm, rfl⟩
theorem sign_ret (w : World) (a : Int) : Ret Tryd.prog 26 [.int .i64 a].toArray w fun v w' => v = .int .i64 (num a 0) ∧ w = w' := by
  refine Ret.of (n := 9) (rs := #[.tmp 2]) Tryd.func26 rfl rfl rfl (by simp) ?_
  refine WC.seqR rfl ?_
  refine WL.y rfl (Y.assign) ?_
  refine WL.nil ?_
  refine WC.seq ?_
  refine WC.block ?_
  refine WC.seqR rfl ?_
  refine WL.y rfl (Y.move) ?_
  refine WL.y rfl (Y.lss rfl rfl) ?_
  refine WL.y rfl (Y.assign) ?_
  refine WL.nil ?_
  refine WC.condD rfl (fun h0 => ?_) (fun h0 => ?_)
  · refine WC.seqR rfl ?_
    refine WL.y rfl (Y.assign) ?_
    refine WL.nil ?_
    refine WC.ret (inBlockQ.ret (thenQ.ret (endQ.one (.inr rfl) ?_)))
    exact ⟨congrArg (Value.int .i64) (num_lt h0).symm, rfl⟩
  · refine WC.seqR rfl ?_
    refine WL.y rfl (Y.move) ?_
    refine WL.y rfl (Y.gtr rfl rfl) ?_
    refine WL.y rfl (Y.assign) ?_
    refine WL.nil ?_
    refine WC.condD rfl (fun h1 => ?_) (fun h1 => ?_)
    · refine WC.seqR rfl ?_
      refine WL.y rfl (Y.assign) ?_
      refine WL.nil ?_
      refine WC.ret (inBlockQ.ret (thenQ.ret (endQ.one (.inr rfl) ?_)))
      exact ⟨congrArg (Value.int .i64) (num_gt h1).symm, rfl⟩
    · refine WC.skip (inBlockQ.normal (thenQ.normal ?_))
      refine WC.seqR rfl ?_
      refine WL.y rfl (Y.assign) ?_
      refine WL.nil ?_
      refine WC.ret (endQ.one (.inr rfl) ?_)
      exact ⟨congrArg (Value.int .i64) (num_eq h0 h1).symm, rfl⟩
theorem cmpT_step (a b : List UInt8) (j : Nat) (h1 : j < a.length) (h2 : j < b.length) : cmpT (a.drop j) (b.drop j) = if (a.getD j 0).toNat = (b.getD j 0).toNat then cmpT (a.drop (j + 1)) (b.drop (j + 1)) else num ((a.getD j 0).toNat : Int) ((b.getD j 0).toNat : Int) := by
  rw [List.drop_eq_getElem_cons h1, List.drop_eq_getElem_cons h2]
  have e1 : a.getD j 0 = a[j] := by rw [List.getD_eq_getElem?_getD, List.getElem?_eq_getElem h1]; rfl
  have e2 : b.getD j 0 = b[j] := by rw [List.getD_eq_getElem?_getD, List.getElem?_eq_getElem h2]; rfl
  rw [e1, e2]
  have hs : Lib.compareBytes (a[j] :: a.drop (j + 1)) (b[j] :: b.drop (j + 1)) = if a[j] < b[j] then -1 else if b[j] < a[j] then 1 else Lib.compareBytes (a.drop (j + 1)) (b.drop (j + 1)) := by rw [Lib.compareBytes]
  show Lib.compareBytes (a[j] :: a.drop (j + 1)) (b[j] :: b.drop (j + 1)) = _
  rw [hs]
  unfold num
  simp only [UInt8.lt_iff_toNat_lt]
  by_cases q : a[j].toNat = b[j].toNat
  · rw [if_pos q, if_neg (by omega), if_neg (by omega)]
  · rw [if_neg q]
    by_cases q2 : a[j].toNat < b[j].toNat
    · rw [if_pos q2, if_pos (by omega)]
    · rw [if_neg q2, if_pos (by omega), if_neg (by omega), if_pos (by omega)]
theorem cmpT_end (a b : List UInt8) (j : Nat) (hj1 : j ≤ a.length) (hj2 : j ≤ b.length) (h : ¬ (j < a.length ∧ j < b.length)) : cmpT (a.drop j) (b.drop j) = num a.length b.length := by
  unfold num
  show Lib.compareBytes _ _ = _
  by_cases h1 : j < a.length
  · have h2 : b.drop j = [] := List.drop_eq_nil_of_le (by omega)
    rw [List.drop_eq_getElem_cons h1, h2, Lib.compareBytes, if_neg (by omega), if_pos (by omega)]
  · have h1' : a.drop j = [] := List.drop_eq_nil_of_le (by omega)
    by_cases h2 : j < b.length
    · rw [List.drop_eq_getElem_cons h2, h1', Lib.compareBytes, if_pos (by omega)]
    · have h2' : b.drop j = [] := List.drop_eq_nil_of_le (by omega)
      rw [h1', h2', Lib.compareBytes, if_neg (by omega), if_neg (by omega)]
theorem texts_ret (w : World) (a b : List UInt8) (ha : a.length ≤ 140737488351232) (hb : b.length ≤ 140737488351232) : Ret Tryd.prog 40 [strv a, strv b].toArray w fun v w' => v = .int .i64 (cmpT a b) ∧ Below w.heap.size w w' := by
  refine Ret.of (n := 39) (rs := #[.tmp 4]) Tryd.func40 rfl rfl rfl (by simp) ?_
  refine WC.seqR rfl ?_
  refine WL.y rfl (Y.assign) ?_
  refine WL.nil ?_
  refine WC.seq ?_
  refine WC.seqR rfl ?_
  refine WL.y rfl (Y.assign) ?_
  refine WL.nil ?_
  refine WC.block ?_
  refine WC.loop (fun j => a.length - j) (fun j f ds w' => j ≤ a.length ∧ j ≤ b.length ∧ ds = [] ∧ Below w.heap.size w w' ∧ cmpT a b = cmpT (a.drop j) (b.drop j) ∧ ∃ J, f = Go.Cx.ov J [(0, strv a), (1, strv b), (5, .int .i64 (j : Int))]) 0 ?_ ?_
  · exact ⟨by omega, by omega, rfl, Below.refl _ _, rfl, _, ov_mk ⟨rfl, rfl, rfl, trivial⟩⟩
  · rintro j _ _ w2 ⟨hj1, hj2, rfl, hb2, hc, J, rfl⟩
    by_cases h1 : j < a.length
    · by_cases h2 : j < b.length
      · have hst := cmpT_step a b j h1 h2
        by_cases q : (a.getD j 0).toNat = (b.getD j 0).toNat
        · rw [if_pos q] at hst
          refine WC.seq ?_
          refine WC.seqR rfl ?_
          refine WL.y rfl (Y.move) ?_
          refine WL.y rfl (Y.move) ?_
          refine WL.y rfl (Y.lenS Tryd.underlying9 rfl _) ?_
          refine WL.y rfl (Y.dT (Y.lss rfl rfl) (by omega)) ?_
          refine WL.y rfl (Y.move) ?_
          refine WL.y rfl (Y.move) ?_
          refine WL.y rfl (Y.move) ?_
          refine WL.y rfl (Y.lenS Tryd.underlying9 rfl _) ?_
          refine WL.y rfl (Y.dT (Y.lss rfl rfl) (by omega)) ?_
          refine WL.y rfl (Y.pickT rfl) ?_
          refine WL.nil ?_
          refine WC.condT (rfl) ?_
          refine WC.skip (thenQ.normal ?_)
          refine WC.seq ?_
          refine WC.block ?_
          refine WC.seq ?_
          refine WC.regionB (fun _ => false) [(0, .any), (1, .any), (2, .any), (3, .any), (4, .any), (5, .any), (6, .any)] mixed (by kernel_rfl) (fun w4 hS4 hheap => ?_)
          refine RL.any rfl rfl (fun _ => Y.move) ?_
          refine RL.any rfl rfl (fun _ => Y.move) ?_
          refine RL.any rfl rfl (fun _ => Y.idxN (j) Tryd.underlying9 rfl rfl (by omega) (by omega) _) ?_
          refine RL.any rfl rfl (fun _ => Y.move) ?_
          refine RL.any rfl rfl (fun _ => Y.move) ?_
          refine RL.any rfl rfl (fun _ => Y.idxN (j) Tryd.underlying9 rfl rfl (by omega) (by omega) _) ?_
          refine RL.any rfl rfl (fun _ => Y.dF (Y.nei rfl rfl) (fun h => h (congrArg (fun x : Nat => (x : Int)) q))) ?_
          refine RL.nil (thenQ.normal ?_)
          refine WC.condF (rfl) ?_
          refine WC.skip (inBlockQ.normal (thenQ.normal ?_))
          refine WC.region rfl ?_
          refine WL.y rfl (Y.move) ?_
          refine WL.y rfl (Y.add64 rfl rfl (by omega)) ?_
          refine WL.y rfl (Y.assign) ?_
          refine WL.nil (thenQ.normal ?_)
          exact ⟨j + 1, by omega, by omega, by omega, rfl, Below.step hb2 hS4, hc.trans hst, _, ov_mk ⟨rfl, rfl, rfl, trivial⟩⟩
        · rw [if_neg q] at hst
          refine WC.seq ?_
          refine WC.seqR rfl ?_
          refine WL.y rfl (Y.move) ?_
          refine WL.y rfl (Y.move) ?_
          refine WL.y rfl (Y.lenS Tryd.underlying9 rfl _) ?_
          refine WL.y rfl (Y.dT (Y.lss rfl rfl) (by omega)) ?_
          refine WL.y rfl (Y.move) ?_
          refine WL.y rfl (Y.move) ?_
          refine WL.y rfl (Y.move) ?_
          refine WL.y rfl (Y.lenS Tryd.underlying9 rfl _) ?_
          refine WL.y rfl (Y.dT (Y.lss rfl rfl) (by omega)) ?_
          refine WL.y rfl (Y.pickT rfl) ?_
          refine WL.nil ?_
          refine WC.condT (rfl) ?_
          refine WC.skip (thenQ.normal ?_)
          refine WC.seq ?_
          refine WC.block ?_
          refine WC.seq ?_
          refine WC.regionB (fun _ => false) [(0, .any), (1, .any), (2, .any), (3, .any), (4, .any), (5, .any), (6, .any)] mixed (by kernel_rfl) (fun w4 hS4 hheap => ?_)
          refine RL.any rfl rfl (fun _ => Y.move) ?_
          refine RL.any rfl rfl (fun _ => Y.move) ?_
          refine RL.any rfl rfl (fun _ => Y.idxN (j) Tryd.underlying9 rfl rfl (by omega) (by omega) _) ?_
          refine RL.any rfl rfl (fun _ => Y.move) ?_
          refine RL.any rfl rfl (fun _ => Y.move) ?_
          refine RL.any rfl rfl (fun _ => Y.idxN (j) Tryd.underlying9 rfl rfl (by omega) (by omega) _) ?_
          refine RL.any rfl rfl (fun _ => Y.dT (Y.nei rfl rfl) (fun h => q (Int.ofNat_inj.mp h))) ?_
          refine RL.nil (thenQ.normal ?_)
          refine WC.condT (rfl) ?_
          refine WC.seq ?_
          refine WC.regionB (fun i => Nat.beq i 8) [(0, .any), (1, .any), (2, .any), (3, .any), (4, .any), (5, .any), (6, .any), (7, .any), (8, .seq), (9, .any)] mixed (by kernel_rfl) (fun w5 hS5 hheap => ?_)
          refine RL.any rfl rfl (fun _ => Y.move) ?_
          refine RL.any rfl rfl (fun _ => Y.move) ?_
          refine RL.any rfl rfl (fun _ => Y.idxN (j) Tryd.underlying9 rfl rfl (by omega) (by omega) _) ?_
          refine RL.any rfl rfl (fun _ => Y.u8i Tryd.underlying5 Tryd.underlying2 rfl) ?_
          refine RL.any rfl rfl (fun _ => Y.move) ?_
          refine RL.any rfl rfl (fun _ => Y.move) ?_
          refine RL.any rfl rfl (fun _ => Y.idxN (j) Tryd.underlying9 rfl rfl (by omega) (by omega) _) ?_
          refine RL.any rfl rfl (fun _ => Y.u8i Tryd.underlying5 Tryd.underlying2 rfl) ?_
          refine RL.call rfl rfl (C.func go39) (numbers_ret _ ((a.getD j 0).toNat : Int) ((b.getD j 0).toNat : Int)) ?_
          rintro _ _ ⟨rfl, rfl⟩
          refine ⟨.inl rfl, ?_⟩
          refine RL.any rfl rfl (fun _ => Y.assign) ?_
          refine RL.nil (thenQ.normal ?_)
          refine WC.ret (inBlockQ.ret (thenQ.ret (thenQ.ret (inBlockQ.ret (thenQ.ret (endQ.one (.inr rfl) ?_))))))
          exact ⟨congrArg (Value.int .i64) (hc.trans hst).symm, Below.step (Below.step hb2 hS4) hS5⟩
      · have he := cmpT_end a b j hj1 hj2 (by omega)
        refine WC.seq ?_
        refine WC.seqR rfl ?_
        refine WL.y rfl (Y.move) ?_
        refine WL.y rfl (Y.move) ?_
        refine WL.y rfl (Y.lenS Tryd.underlying9 rfl _) ?_
        refine WL.y rfl (Y.dT (Y.lss rfl rfl) (by omega)) ?_
        refine WL.y rfl (Y.move) ?_
        refine WL.y rfl (Y.move) ?_
        refine WL.y rfl (Y.move) ?_
        refine WL.y rfl (Y.lenS Tryd.underlying9 rfl _) ?_
        refine WL.y rfl (Y.dF (Y.lss rfl rfl) (by omega)) ?_
        refine WL.y rfl (Y.pickT rfl) ?_
        refine WL.nil ?_
        refine WC.condF (rfl) ?_
        refine WC.exit (thenQ.exit (thenQ.exit (inBlockQ.hit (thenQ.normal ?_))))
        refine WC.seqR rfl ?_
        refine WL.y rfl (Y.move) ?_
        refine WL.y rfl (Y.lenS Tryd.underlying9 rfl _) ?_
        refine WL.y rfl (Y.move) ?_
        refine WL.y rfl (Y.lenS Tryd.underlying9 rfl _) ?_
        refine WL.call rfl (C.func go39) (numbers_ret _ (a.length : Int) (b.length : Int)) ?_
        rintro _ _ ⟨rfl, rfl⟩
        refine WL.y rfl (Y.assign) ?_
        refine WL.nil ?_
        refine WC.ret (endQ.one (.inr rfl) ?_)
        exact ⟨congrArg (Value.int .i64) (hc.trans he).symm, hb2⟩
    · have he := cmpT_end a b j hj1 hj2 (by omega)
      skip
      refine WC.seq ?_
      refine WC.seqR rfl ?_
      refine WL.y rfl (Y.move) ?_
      refine WL.y rfl (Y.move) ?_
      refine WL.y rfl (Y.lenS Tryd.underlying9 rfl _) ?_
      refine WL.y rfl (Y.dF (Y.lss rfl rfl) (by omega)) ?_
      refine WL.y rfl (Y.move) ?_
      refine WL.off rfl ?_
      refine WL.off rfl ?_
      refine WL.off rfl ?_
      refine WL.off rfl ?_
      refine WL.y rfl (Y.pickF rfl) ?_
      refine WL.nil ?_
      refine WC.condF (rfl) ?_
      refine WC.exit (thenQ.exit (thenQ.exit (inBlockQ.hit (thenQ.normal ?_))))
      refine WC.seqR rfl ?_
      refine WL.y rfl (Y.move) ?_
      refine WL.y rfl (Y.lenS Tryd.underlying9 rfl _) ?_
      refine WL.y rfl (Y.move) ?_
      refine WL.y rfl (Y.lenS Tryd.underlying9 rfl _) ?_
      refine WL.call rfl (C.func go39) (numbers_ret _ (a.length : Int) (b.length : Int)) ?_
      rintro _ _ ⟨rfl, rfl⟩
      refine WL.y rfl (Y.assign) ?_
      refine WL.nil ?_
      refine WC.ret (endQ.one (.inr rfl) ?_)
      exact ⟨congrArg (Value.int .i64) (hc.trans he).symm, hb2⟩
end Go.Proofs.YthcppegkpkgnpaaDoor
