/-
  keys: beginnings, turns, intervals.
-/
import Derived.Test.YtmodbnfekpeclaaDoorKey0
namespace Go.Proofs.YtmodbnfekpeclaaDoor
open Go Go.RowKit Go.Cx
set_option linter.unusedVariables false
theorem beg_iff (k p : List UInt8) (h : p.length ≤ k.length) : beg k p ↔ k.take p.length = p := ⟨fun h => h.2, fun h2 => ⟨h, h2⟩⟩
theorem hasPrefix_ret (w : World) (k p : List UInt8) :
    Ret Tryd.prog 31 [strv k, strv p].toArray w fun v w' => v = .bool (decide (beg k p)) ∧ w = w' := by
  by_cases h : p.length ≤ k.length
  · have e : decide (k.take p.length = p) = decide (beg k p) := decide_eq_decide.mpr (beg_iff k p h).symm
    refine Ret.of (n := 18) (rs := #[.tmp 4]) Tryd.func31 rfl rfl rfl (by simp) ?_
    refine WC.seqR rfl ?_
    refine WL.y rfl (Y.assign) ?_
    refine WL.nil ?_
    refine WC.seqR rfl ?_
    refine WL.y rfl (Y.move) ?_
    refine WL.y rfl (Y.lenS Tryd.underlying9 rfl _) ?_
    refine WL.y rfl (Y.move) ?_
    refine WL.y rfl (Y.lenS Tryd.underlying9 rfl _) ?_
    refine WL.y rfl (Y.dT (Y.geq rfl rfl) (by omega)) ?_
    refine WL.y rfl (Y.move) ?_
    refine WL.y rfl (Y.move) ?_
    refine WL.y rfl (Y.move) ?_
    refine WL.y rfl (Y.lenS Tryd.underlying9 rfl _) ?_
    refine WL.y rfl (Y.sliceToN _ Tryd.underlying9 rfl rfl rfl (by omega) _) ?_
    refine WL.y rfl (Y.move) ?_
    refine WL.y rfl (Y.eqS rfl rfl) ?_
    refine WL.y rfl (Y.pickT rfl) ?_
    refine WL.y rfl (Y.assign) ?_
    refine WL.nil ?_
    refine WC.ret (endQ.one (.inr rfl) ?_)
    exact ⟨congrArg Value.bool e, rfl⟩
  · have e : false = decide (beg k p) := (decide_eq_false (fun hb => h hb.1)).symm
    refine Ret.of (n := 18) (rs := #[.tmp 4]) Tryd.func31 rfl rfl rfl (by simp) ?_
    refine WC.seqR rfl ?_
    refine WL.y rfl (Y.assign) ?_
    refine WL.nil ?_
    refine WC.seqR rfl ?_
    refine WL.y rfl (Y.move) ?_
    refine WL.y rfl (Y.lenS Tryd.underlying9 rfl _) ?_
    refine WL.y rfl (Y.move) ?_
    refine WL.y rfl (Y.lenS Tryd.underlying9 rfl _) ?_
    refine WL.y rfl (Y.dF (Y.geq rfl rfl) (by omega)) ?_
    refine WL.y rfl (Y.move) ?_
    refine WL.off rfl ?_
    refine WL.off rfl ?_
    refine WL.off rfl ?_
    refine WL.off rfl ?_
    refine WL.off rfl ?_
    refine WL.off rfl ?_
    refine WL.y rfl (Y.pickF rfl) ?_
    refine WL.y rfl (Y.assign) ?_
    refine WL.nil ?_
    refine WC.ret (endQ.one (.inr rfl) ?_)
    exact ⟨congrArg Value.bool e, rfl⟩
theorem shasPrefix_ret (w : World) (k p : List UInt8) :
    Ret Tryd.prog 24 [strv k, strv p].toArray w fun v w' => v = .bool (decide (beg k p)) ∧ w = w' := by
  refine Ret.of (n := 8) (rs := #[.tmp 4]) Tryd.func24 rfl rfl rfl (by simp) ?_
  refine WC.seqR rfl ?_
  refine WL.y rfl (Y.assign) ?_
  refine WL.nil ?_
  refine WC.seqR rfl ?_
  refine WL.y rfl (Y.move) ?_
  refine WL.y rfl (Y.move) ?_
  refine WL.call rfl (C.func go31) (hasPrefix_ret _ k p) ?_
  rintro _ _ ⟨rfl, rfl⟩
  refine WL.y rfl (Y.assign) ?_
  refine WL.nil ?_
  refine WC.ret (endQ.one (.inr rfl) ?_)
  exact ⟨rfl, rfl⟩
theorem begins_ret (w : World) (k p : List UInt8) :
    Ret Tryd.prog 19 [strv k, strv p].toArray w fun v w' => v = .bool (decide (beg k p)) ∧ w = w' := by
  refine Ret.of (n := 8) (rs := #[.tmp 4]) Tryd.func19 rfl rfl rfl (by simp) ?_
  refine WC.seqR rfl ?_
  refine WL.y rfl (Y.assign) ?_
  refine WL.nil ?_
  refine WC.seqR rfl ?_
  refine WL.y rfl (Y.move) ?_
  refine WL.y rfl (Y.move) ?_
  refine WL.call rfl (C.func go24) (shasPrefix_ret _ k p) ?_
  rintro _ _ ⟨rfl, rfl⟩
  refine WL.y rfl (Y.assign) ?_
  refine WL.nil ?_
  refine WC.ret (endQ.one (.inr rfl) ?_)
  exact ⟨rfl, rfl⟩
theorem cutPrefix_ret (w : World) (k p : List UInt8) :
    Ret Tryd.prog 30 [strv k, strv p].toArray w fun v w' => v = .tuple #[strv (if beg k p then k.drop p.length else k), .bool (decide (beg k p))] ∧ w = w' := by
  by_cases h : beg k p
  · have hl := h.1
    have e : Value.tuple #[strv (k.drop p.length), .bool true] = .tuple #[strv (if beg k p then k.drop p.length else k), .bool (decide (beg k p))] := by rw [if_pos h, decide_eq_true h]
    refine Ret.of (n := 15) (rs := #[.tmp 4, .tmp 5]) Tryd.func30 rfl rfl rfl (by simp) ?_
    refine WC.seqR rfl ?_
    refine WL.y rfl (Y.assign) ?_
    refine WL.y rfl (Y.assign) ?_
    refine WL.nil ?_
    refine WC.seq ?_
    refine WC.seqR rfl ?_
    refine WL.y rfl (Y.move) ?_
    refine WL.y rfl (Y.move) ?_
    refine WL.call rfl (C.func go31) (hasPrefix_ret _ k p) ?_
    rintro _ _ ⟨rfl, rfl⟩
    refine WL.y rfl (Y.bF (Y.not rfl) (by simp [h])) ?_
    refine WL.nil ?_
    refine WC.condF (rfl) ?_
    refine WC.skip (thenQ.normal ?_)
    refine WC.seqR rfl ?_
    refine WL.y rfl (Y.move) ?_
    refine WL.y rfl (Y.move) ?_
    refine WL.y rfl (Y.lenS Tryd.underlying9 rfl _) ?_
    refine WL.y rfl (Y.sliceFromN _ Tryd.underlying9 rfl rfl rfl (by omega) _) ?_
    refine WL.y rfl (Y.assign) ?_
    refine WL.y rfl (Y.assign) ?_
    refine WL.nil ?_
    refine WC.ret (endQ.two (.inr rfl) ?_)
    exact ⟨e, rfl⟩
  · have e : Value.tuple #[strv k, .bool false] = .tuple #[strv (if beg k p then k.drop p.length else k), .bool (decide (beg k p))] := by rw [if_neg h, decide_eq_false h]
    refine Ret.of (n := 15) (rs := #[.tmp 4, .tmp 5]) Tryd.func30 rfl rfl rfl (by simp) ?_
    refine WC.seqR rfl ?_
    refine WL.y rfl (Y.assign) ?_
    refine WL.y rfl (Y.assign) ?_
    refine WL.nil ?_
    refine WC.seq ?_
    refine WC.seqR rfl ?_
    refine WL.y rfl (Y.move) ?_
    refine WL.y rfl (Y.move) ?_
    refine WL.call rfl (C.func go31) (hasPrefix_ret _ k p) ?_
    rintro _ _ ⟨rfl, rfl⟩
    refine WL.y rfl (Y.bT (Y.not rfl) (by simp [h])) ?_
    refine WL.nil ?_
    refine WC.condT (rfl) ?_
    refine WC.seqR rfl ?_
    refine WL.y rfl (Y.move) ?_
    refine WL.y rfl (Y.assign) ?_
    refine WL.y rfl (Y.assign) ?_
    refine WL.nil ?_
    refine WC.ret (thenQ.ret (endQ.two (.inr rfl) ?_))
    exact ⟨e, rfl⟩
theorem scutPrefix_ret (w : World) (k p : List UInt8) :
    Ret Tryd.prog 22 [strv k, strv p].toArray w fun v w' => v = .tuple #[strv (if beg k p then k.drop p.length else k), .bool (decide (beg k p))] ∧ w = w' := by
  refine Ret.of (n := 11) (rs := #[.tmp 4, .tmp 5]) Tryd.func22 rfl rfl rfl (by simp) ?_
  refine WC.seqR rfl ?_
  refine WL.y rfl (Y.assign) ?_
  refine WL.y rfl (Y.assign) ?_
  refine WL.nil ?_
  refine WC.seqR rfl ?_
  refine WL.y rfl (Y.move) ?_
  refine WL.y rfl (Y.move) ?_
  refine WL.call rfl (C.func go30) (cutPrefix_ret _ k p) ?_
  rintro _ _ ⟨rfl, rfl⟩
  refine WL.y rfl (Y.extract rfl rfl) ?_
  refine WL.y rfl (Y.extract rfl rfl) ?_
  refine WL.y rfl (Y.assign) ?_
  refine WL.y rfl (Y.assign) ?_
  refine WL.nil ?_
  refine WC.ret (endQ.two (.inr rfl) ?_)
  exact ⟨rfl, rfl⟩
theorem turn_ret (w : World) (k a b : List UInt8) (hs : k.length ≤ 281474976710656) (hb : b.length ≤ 281474976710656) (hT : Tabs w) :
    Ret Tryd.prog 15 [strv k, strv a, strv b].toArray w fun v w' => v = .tuple #[strv (turnS k a b).1, .int .i64 (turnS k a b).2] ∧ Below w.heap.size w w' := by
  have hres : ∀ {x : List UInt8} {y : Int}, turnS k a b = (x, y) → Value.tuple #[strv x, .int .i64 y] = .tuple #[strv (turnS k a b).1, .int .i64 (turnS k a b).2] := fun e => by rw [e]
  by_cases h : beg k a
  · have hd : (k.drop a.length).length = k.length - a.length := List.length_drop
    have hif : (if beg k a then k.drop a.length else k) = k.drop a.length := if_pos h
    have hlen : (b ++ k.drop a.length).length ≤ 562949953421312 := by rw [List.length_append]; omega
    refine Ret.of (n := 29) (rs := #[.tmp 6, .tmp 7]) Tryd.func15 rfl rfl rfl (by simp) ?_
    refine WC.seqR rfl ?_
    refine WL.y rfl (Y.assign) ?_
    refine WL.y rfl (Y.assign) ?_
    refine WL.nil ?_
    refine WC.seqR rfl ?_
    refine WL.y rfl (Y.move) ?_
    refine WL.y rfl (Y.move) ?_
    refine WL.call rfl (C.func go22) ((scutPrefix_ret _ k a).mono (R' := fun v w' => v = .tuple #[strv (k.drop a.length), .bool true] ∧ w = w') (by rw [hif, decide_eq_true h]; exact fun _ _ h => h)) ?_
    rintro _ _ ⟨rfl, rfl⟩
    refine WL.y rfl (Y.move) ?_
    refine WL.y rfl (Y.extract rfl rfl) ?_
    refine WL.y rfl (Y.extract rfl rfl) ?_
    refine WL.y rfl (Y.assign) ?_
    refine WL.y rfl (Y.assign) ?_
    refine WL.nil ?_
    refine WC.seq ?_
    refine WC.seqR rfl ?_
    refine WL.y rfl (Y.move) ?_
    refine WL.y rfl (Y.not rfl) ?_
    refine WL.nil ?_
    refine WC.condF (rfl) ?_
    refine WC.skip (thenQ.normal ?_)
    refine WC.seqR rfl ?_
    refine WL.y rfl (Y.move) ?_
    refine WL.y rfl (Y.move) ?_
    refine WL.y rfl (Y.catS rfl rfl (by omega)) ?_
    refine WL.y rfl (Y.assign) ?_
    refine WL.nil ?_
    refine WC.seq ?_
    refine WC.seqR rfl ?_
    refine WL.y rfl (Y.move) ?_
    refine WL.call rfl (C.func go10) (may_ret _ (b ++ k.drop a.length) (by omega) hT) ?_
    rintro _ w24 ⟨rfl, hb24⟩
    refine WL.y rfl (Y.assign) ?_
    refine WL.nil ?_
    refine WC.seqR rfl ?_
    refine WL.y rfl (Y.move) ?_
    refine WL.y rfl (Y.nei rfl rfl) ?_
    refine WL.nil ?_
    refine WC.condD rfl (fun h0 => ?_) (fun h0 => ?_)
    · have e : turnS k a b = ([], mayS (b ++ k.drop a.length)) := by unfold turnS; rw [if_pos h, if_neg h0]
      refine WC.seqR rfl ?_
      refine WL.y rfl (Y.move) ?_
      refine WL.y rfl (Y.assign) ?_
      refine WL.y rfl (Y.assign) ?_
      refine WL.nil ?_
      refine WC.ret (thenQ.ret (endQ.two (.inr rfl) ?_))
      exact ⟨hres e, hb24⟩
    · have h0 : mayS (b ++ k.drop a.length) = 0 := by omega
      have e : turnS k a b = (b ++ k.drop a.length, 0) := by unfold turnS; rw [if_pos h, if_pos h0]
      refine WC.skip (thenQ.normal ?_)
      refine WC.seqR rfl ?_
      refine WL.y rfl (Y.move) ?_
      refine WL.y rfl (Y.assign) ?_
      refine WL.y rfl (Y.assign) ?_
      refine WL.nil ?_
      refine WC.ret (endQ.two (.inr rfl) ?_)
      exact ⟨hres e, hb24⟩
  · have hif : (if beg k a then k.drop a.length else k) = k := if_neg h
    have e : turnS k a b = ([], 12) := by unfold turnS; rw [if_neg h]
    refine Ret.of (n := 29) (rs := #[.tmp 6, .tmp 7]) Tryd.func15 rfl rfl rfl (by simp) ?_
    refine WC.seqR rfl ?_
    refine WL.y rfl (Y.assign) ?_
    refine WL.y rfl (Y.assign) ?_
    refine WL.nil ?_
    refine WC.seqR rfl ?_
    refine WL.y rfl (Y.move) ?_
    refine WL.y rfl (Y.move) ?_
    refine WL.call rfl (C.func go22) ((scutPrefix_ret _ k a).mono (R' := fun v w' => v = .tuple #[strv k, .bool false] ∧ w = w') (by rw [hif, decide_eq_false h]; exact fun _ _ h => h)) ?_
    rintro _ _ ⟨rfl, rfl⟩
    refine WL.y rfl (Y.move) ?_
    refine WL.y rfl (Y.extract rfl rfl) ?_
    refine WL.y rfl (Y.extract rfl rfl) ?_
    refine WL.y rfl (Y.assign) ?_
    refine WL.y rfl (Y.assign) ?_
    refine WL.nil ?_
    refine WC.seq ?_
    refine WC.seqR rfl ?_
    refine WL.y rfl (Y.move) ?_
    refine WL.y rfl (Y.not rfl) ?_
    refine WL.nil ?_
    refine WC.condT (rfl) ?_
    refine WC.seqR rfl ?_
    refine WL.y rfl (Y.assign) ?_
    refine WL.y rfl (Y.assign) ?_
    refine WL.nil ?_
    refine WC.ret (thenQ.ret (endQ.two (.inr rfl) ?_))
    exact ⟨hres e, Below.refl _ _⟩
theorem rbegins_ret (w : World) (k p : List UInt8) (hk : k.length ≤ 4611686018427387904) :
    Ret Tryd.prog 23 [strv k, strv p].toArray w fun v w' => v = .bool (decide (beg k p)) ∧ Below w.heap.size w w' := by
  refine Ret.of (n := 24) (rs := #[.tmp 4]) Tryd.func23 rfl rfl rfl (by simp) ?_
  refine WC.seqR rfl ?_
  refine WL.y rfl (Y.assign) ?_
  refine WL.nil ?_
  refine WC.seq ?_
  refine WC.seqR rfl ?_
  refine WL.y rfl (Y.move) ?_
  refine WL.y rfl (Y.lenS Tryd.underlying9 rfl _) ?_
  refine WL.y rfl (Y.move) ?_
  refine WL.y rfl (Y.lenS Tryd.underlying9 rfl _) ?_
  refine WL.y rfl (Y.gtr rfl rfl) ?_
  refine WL.nil ?_
  refine WC.condD rfl (fun h0 => ?_) (fun h0 => ?_)
  · have e : false = decide (beg k p) := (decide_eq_false (fun hb => by have := hb.1; omega)).symm
    refine WC.seqR rfl ?_
    refine WL.y rfl (Y.assign) ?_
    refine WL.nil ?_
    refine WC.ret (thenQ.ret (endQ.one (.inr rfl) ?_))
    exact ⟨congrArg Value.bool e, Below.refl _ _⟩
  · have hle : p.length ≤ k.length := by omega
    refine WC.skip (thenQ.normal ?_)
    refine WC.seq ?_
    refine WC.seqR rfl ?_
    refine WL.y rfl (Y.assign) ?_
    refine WL.nil ?_
    refine WC.block ?_
    refine WC.loop (fun i => p.length - i) (fun i f ds w' => i ≤ p.length ∧ ds = [] ∧ Below w.heap.size w w' ∧ k.take i = p.take i ∧ ∃ J, f = ov J [(0, strv k), (1, strv p), (5, .int .i64 (i : Int))]) 0 ?_ ?_
    · exact ⟨by omega, rfl, Below.refl _ _, by simp, _, ov_mk ⟨rfl, rfl, rfl, trivial⟩⟩
    · rintro i _ _ w1 ⟨hi, rfl, hb1, ht, J, rfl⟩
      refine WC.seq ?_
      refine WC.seqR rfl ?_
      refine WL.y rfl (Y.move) ?_
      refine WL.y rfl (Y.move) ?_
      refine WL.y rfl (Y.lenS Tryd.underlying9 rfl _) ?_
      refine WL.y rfl (Y.lss rfl rfl) ?_
      refine WL.nil ?_
      refine WC.condD rfl (fun h1 => ?_) (fun h1 => ?_)
      · have hil : i < p.length := by omega
        have e1 : k.take (i + 1) = k.take i ++ [k.getD i 0] := by rw [List.take_add_one, List.getElem?_eq_getElem (by omega)]; simp [show i < k.length by omega]
        have e2 : p.take (i + 1) = p.take i ++ [p.getD i 0] := by rw [List.take_add_one, List.getElem?_eq_getElem hil]; simp [hil]
        refine WC.skip (thenQ.normal ?_)
        refine WC.seq ?_
        refine WC.block ?_
        refine WC.seq ?_
        refine WC.regionB (fun _ => false) [(0, .any), (1, .any), (2, .any), (3, .any), (4, .any), (5, .any), (6, .any)] mixed (by kernel_rfl) (fun wr6 hS6 hheap => ?_)
        have kr6 := Below.step hb1 hS6
        refine RL.any rfl rfl (fun _ => Y.move) ?_
        refine RL.any rfl rfl (fun _ => Y.move) ?_
        refine RL.any rfl rfl (fun _ => Y.idxN _ Tryd.underlying9 rfl rfl rfl (by omega) _) ?_
        refine RL.any rfl rfl (fun _ => Y.move) ?_
        refine RL.any rfl rfl (fun _ => Y.move) ?_
        refine RL.any rfl rfl (fun _ => Y.idxN _ Tryd.underlying9 rfl rfl rfl (by omega) _) ?_
        refine RL.any rfl rfl (fun _ => Y.nei rfl rfl) ?_
        refine RL.nil (thenQ.normal ?_)
        refine WC.condD rfl (fun h2 => ?_) (fun h2 => ?_)
        · have e : false = decide (beg k p) := by
            refine (decide_eq_false (fun hb => ?_)).symm
            have e3 : k.take (i + 1) = p.take (i + 1) := by
              have := congrArg (List.take (i + 1)) hb.2
              rwa [List.take_take, Nat.min_eq_left (by omega)] at this
            rw [e1, e2, ht] at e3
            have := List.append_cancel_left e3
            simp only [List.cons.injEq, and_true] at this
            exact h2 (congrArg (fun x : UInt8 => (x.toNat : Int)) this)
          refine WC.seqR rfl ?_
          refine WL.y rfl (Y.assign) ?_
          refine WL.nil ?_
          refine WC.ret (inBlockQ.ret (thenQ.ret (thenQ.ret (inBlockQ.ret (thenQ.ret (endQ.one (.inr rfl) ?_))))))
          exact ⟨congrArg Value.bool e, kr6⟩
        · refine WC.skip (inBlockQ.normal (thenQ.normal ?_))
          refine WC.region rfl ?_
          refine WL.y rfl (Y.move) ?_
          refine WL.y rfl (Y.add64 rfl rfl (by omega)) ?_
          refine WL.y rfl (Y.assign) ?_
          refine WL.nil (thenQ.normal ?_)
          refine ⟨i + 1, by omega, by omega, rfl, kr6, ?_, _, ov_mk ⟨rfl, rfl, rfl, trivial⟩⟩
          have h3 : ((k.getD i 0).toNat : Int) = ((p.getD i 0).toNat : Int) := Decidable.not_not.mp h2
          have h4 : k.getD i 0 = p.getD i 0 := UInt8.toNat_inj.mp (by omega)
          rw [e1, e2, ht, h4]
      · have hip : i = p.length := by omega
        subst hip
        have e : true = decide (beg k p) := (decide_eq_true ⟨hle, by rw [ht]; simp⟩).symm
        refine WC.exit (thenQ.exit (thenQ.exit (inBlockQ.hit (thenQ.normal ?_))))
        refine WC.seqR rfl ?_
        refine WL.y rfl (Y.assign) ?_
        refine WL.nil ?_
        refine WC.ret (endQ.one (.inr rfl) ?_)
        exact ⟨congrArg Value.bool e, hb1⟩
end Go.Proofs.YtmodbnfekpeclaaDoor
