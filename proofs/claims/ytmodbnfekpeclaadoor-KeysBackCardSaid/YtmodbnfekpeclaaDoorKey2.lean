/-
  keys: intervals; the reference's Turn.
-/
import Derived.Test.YtmodbnfekpeclaaDoorKey1
namespace Go.Proofs.YtmodbnfekpeclaaDoor
open Go Go.RowKit Go.Cx
set_option linter.unusedVariables false
def withinS (k lo hi : List UInt8) (o : Bool) : Bool := !slt k lo && (o || slt k hi)
theorem within_ret (w : World) (k lo hi : List UInt8) (o : Bool) :
    Ret Tryd.prog 17 [strv k, strv lo, strv hi, .bool o].toArray w fun v w' => v = .bool (withinS k lo hi o) ∧ w = w' := by
  cases h1 : slt k lo
  · cases o
    · have e : slt k hi = withinS k lo hi false := by unfold withinS; rw [h1]; simp
      refine Ret.of (n := 20) (rs := #[.tmp 8]) Tryd.func17 rfl rfl rfl (by simp) ?_
      refine WC.seqR rfl ?_
      refine WL.y rfl (Y.assign) ?_
      refine WL.nil ?_
      refine WC.seqR rfl ?_
      refine WL.y rfl (Y.move) ?_
      refine WL.y rfl (Y.move) ?_
      refine WL.y rfl (Y.bT (Y.geS rfl rfl) (by rw [h1]; rfl)) ?_
      refine WL.y rfl (Y.move) ?_
      refine WL.y rfl (Y.move) ?_
      refine WL.y rfl (Y.move) ?_
      refine WL.y rfl (Y.move) ?_
      refine WL.y rfl (Y.move) ?_
      refine WL.y rfl (Y.ltS rfl rfl) ?_
      refine WL.y rfl (Y.pickF rfl) ?_
      refine WL.y rfl (Y.pickT rfl) ?_
      refine WL.y rfl (Y.assign) ?_
      refine WL.nil ?_
      refine WC.ret (endQ.one (.inr rfl) ?_)
      exact ⟨congrArg Value.bool e, rfl⟩
    · have e : true = withinS k lo hi true := by unfold withinS; rw [h1]; simp
      refine Ret.of (n := 20) (rs := #[.tmp 8]) Tryd.func17 rfl rfl rfl (by simp) ?_
      refine WC.seqR rfl ?_
      refine WL.y rfl (Y.assign) ?_
      refine WL.nil ?_
      refine WC.seqR rfl ?_
      refine WL.y rfl (Y.move) ?_
      refine WL.y rfl (Y.move) ?_
      refine WL.y rfl (Y.bT (Y.geS rfl rfl) (by rw [h1]; rfl)) ?_
      refine WL.y rfl (Y.move) ?_
      refine WL.y rfl (Y.move) ?_
      refine WL.y rfl (Y.move) ?_
      refine WL.off rfl ?_
      refine WL.off rfl ?_
      refine WL.off rfl ?_
      refine WL.y rfl (Y.pickT rfl) ?_
      refine WL.y rfl (Y.pickT rfl) ?_
      refine WL.y rfl (Y.assign) ?_
      refine WL.nil ?_
      refine WC.ret (endQ.one (.inr rfl) ?_)
      exact ⟨congrArg Value.bool e, rfl⟩
  · have e : false = withinS k lo hi o := by unfold withinS; rw [h1]; simp
    refine Ret.of (n := 20) (rs := #[.tmp 8]) Tryd.func17 rfl rfl rfl (by simp) ?_
    refine WC.seqR rfl ?_
    refine WL.y rfl (Y.assign) ?_
    refine WL.nil ?_
    refine WC.seqR rfl ?_
    refine WL.y rfl (Y.move) ?_
    refine WL.y rfl (Y.move) ?_
    refine WL.y rfl (Y.bF (Y.geS rfl rfl) (by rw [h1]; rfl)) ?_
    refine WL.y rfl (Y.move) ?_
    refine WL.off rfl ?_
    refine WL.off rfl ?_
    refine WL.off rfl ?_
    refine WL.off rfl ?_
    refine WL.off rfl ?_
    refine WL.off rfl ?_
    refine WL.y rfl (Y.pickF rfl) ?_
    refine WL.y rfl (Y.assign) ?_
    refine WL.nil ?_
    refine WC.ret (endQ.one (.inr rfl) ?_)
    exact ⟨congrArg Value.bool e, rfl⟩
theorem rwithin_ret (w : World) (k lo hi : List UInt8) (o : Bool) :
    Ret Tryd.prog 18 [strv k, strv lo, strv hi, .bool o].toArray w fun v w' => v = .bool (withinS k lo hi o) ∧ w = w' := by
  cases h1 : slt k lo
  · cases o
    · have e : slt k hi = withinS k lo hi false := by unfold withinS; rw [h1]; simp
      refine Ret.of (n := 21) (rs := #[.tmp 8]) Tryd.func18 rfl rfl rfl (by simp) ?_
      refine WC.seqR rfl ?_
      refine WL.y rfl (Y.assign) ?_
      refine WL.nil ?_
      refine WC.seqR rfl ?_
      refine WL.y rfl (Y.move) ?_
      refine WL.y rfl (Y.move) ?_
      refine WL.y rfl (Y.bF (Y.ltS rfl rfl) (h1)) ?_
      refine WL.y rfl (Y.not rfl) ?_
      refine WL.y rfl (Y.move) ?_
      refine WL.y rfl (Y.move) ?_
      refine WL.y rfl (Y.move) ?_
      refine WL.y rfl (Y.move) ?_
      refine WL.y rfl (Y.move) ?_
      refine WL.y rfl (Y.ltS rfl rfl) ?_
      refine WL.y rfl (Y.pickF rfl) ?_
      refine WL.y rfl (Y.pickT rfl) ?_
      refine WL.y rfl (Y.assign) ?_
      refine WL.nil ?_
      refine WC.ret (endQ.one (.inr rfl) ?_)
      exact ⟨congrArg Value.bool e, rfl⟩
    · have e : true = withinS k lo hi true := by unfold withinS; rw [h1]; simp
      refine Ret.of (n := 21) (rs := #[.tmp 8]) Tryd.func18 rfl rfl rfl (by simp) ?_
      refine WC.seqR rfl ?_
      refine WL.y rfl (Y.assign) ?_
      refine WL.nil ?_
      refine WC.seqR rfl ?_
      refine WL.y rfl (Y.move) ?_
      refine WL.y rfl (Y.move) ?_
      refine WL.y rfl (Y.bF (Y.ltS rfl rfl) (h1)) ?_
      refine WL.y rfl (Y.not rfl) ?_
      refine WL.y rfl (Y.move) ?_
      refine WL.y rfl (Y.move) ?_
      refine WL.y rfl (Y.move) ?_
      refine WL.off rfl ?_
      refine WL.off rfl ?_
      refine WL.off rfl ?_
      refine WL.y rfl (Y.pickT rfl) ?_
      refine WL.y rfl (Y.pickT rfl) ?_
      refine WL.y rfl (Y.assign) ?_
      refine WL.nil ?_
      refine WC.ret (endQ.one (.inr rfl) ?_)
      exact ⟨congrArg Value.bool e, rfl⟩
  · have e : false = withinS k lo hi o := by unfold withinS; rw [h1]; simp
    refine Ret.of (n := 21) (rs := #[.tmp 8]) Tryd.func18 rfl rfl rfl (by simp) ?_
    refine WC.seqR rfl ?_
    refine WL.y rfl (Y.assign) ?_
    refine WL.nil ?_
    refine WC.seqR rfl ?_
    refine WL.y rfl (Y.move) ?_
    refine WL.y rfl (Y.move) ?_
    refine WL.y rfl (Y.bT (Y.ltS rfl rfl) (h1)) ?_
    refine WL.y rfl (Y.not rfl) ?_
    refine WL.y rfl (Y.move) ?_
    refine WL.off rfl ?_
    refine WL.off rfl ?_
    refine WL.off rfl ?_
    refine WL.off rfl ?_
    refine WL.off rfl ?_
    refine WL.off rfl ?_
    refine WL.y rfl (Y.pickF rfl) ?_
    refine WL.y rfl (Y.assign) ?_
    refine WL.nil ?_
    refine WC.ret (endQ.one (.inr rfl) ?_)
    exact ⟨congrArg Value.bool e, rfl⟩
theorem rturn_ret (w : World) (k a b : List UInt8) (hs : k.length ≤ 281474976710656) (hb : b.length ≤ 281474976710656) :
    Ret Tryd.prog 16 [strv k, strv a, strv b].toArray w fun v w' => v = .tuple #[strv (turnS k a b).1, .int .i64 (turnS k a b).2] ∧ Below w.heap.size w w' := by
  have hres : ∀ {x : List UInt8} {y : Int}, turnS k a b = (x, y) → Value.tuple #[strv x, .int .i64 y] = .tuple #[strv (turnS k a b).1, .int .i64 (turnS k a b).2] := fun e => by rw [e]
  by_cases h : beg k a
  · have hl := h.1
    have hd : (k.drop a.length).length = k.length - a.length := List.length_drop
    have hlen : (b ++ k.drop a.length).length ≤ 562949953421312 := by rw [List.length_append]; omega
    refine Ret.of (n := 26) (rs := #[.tmp 6, .tmp 7]) Tryd.func16 rfl rfl rfl (by simp) ?_
    refine WC.seqR rfl ?_
    refine WL.y rfl (Y.assign) ?_
    refine WL.y rfl (Y.assign) ?_
    refine WL.nil ?_
    refine WC.seq ?_
    refine WC.seqR rfl ?_
    refine WL.y rfl (Y.move) ?_
    refine WL.y rfl (Y.move) ?_
    refine WL.call rfl (C.func go23) (rbegins_ret _ k a (by omega)) ?_
    rintro _ w12 ⟨rfl, hb12⟩
    have k12 := hb12
    refine WL.y rfl (Y.bF (Y.not rfl) (by simp [h])) ?_
    refine WL.nil ?_
    refine WC.condF (rfl) ?_
    refine WC.skip (thenQ.normal ?_)
    refine WC.seqR rfl ?_
    refine WL.y rfl (Y.move) ?_
    refine WL.y rfl (Y.move) ?_
    refine WL.y rfl (Y.move) ?_
    refine WL.y rfl (Y.lenS Tryd.underlying9 rfl _) ?_
    refine WL.y rfl (Y.sliceFromN _ Tryd.underlying9 rfl rfl rfl (by omega) _) ?_
    refine WL.y rfl (Y.catS rfl rfl (by omega)) ?_
    refine WL.y rfl (Y.assign) ?_
    refine WL.nil ?_
    refine WC.seqR rfl ?_
    refine WL.y rfl (Y.move) ?_
    refine WL.call rfl (C.func go11) (rmay_ret _ (b ++ k.drop a.length) (by omega)) ?_
    rintro _ _ ⟨rfl, rfl⟩
    refine WL.y rfl (Y.assign) ?_
    refine WL.nil ?_
    refine WC.seq ?_
    refine WC.seqR rfl ?_
    refine WL.y rfl (Y.move) ?_
    refine WL.y rfl (Y.nei rfl rfl) ?_
    refine WL.nil ?_
    refine WC.condD rfl (fun h0 => ?_) (fun h0 => ?_)
    · have e : turnS k a b = ([], mayS (b ++ k.drop a.length)) := by unfold turnS; rw [if_pos h, if_neg h0]
      refine WC.seqR rfl ?_
      refine WL.y rfl (Y.move) ?_
      refine WL.y rfl (Y.assign) ?_
      refine WL.y rfl (Y.assign) ?_
      refine WL.nil ?_
      refine WC.ret (thenQ.ret (endQ.two (.inr rfl) ?_))
      exact ⟨hres e, k12⟩
    · have h0 : mayS (b ++ k.drop a.length) = 0 := by omega
      have e : turnS k a b = (b ++ k.drop a.length, 0) := by unfold turnS; rw [if_pos h, if_pos h0]
      refine WC.skip (thenQ.normal ?_)
      refine WC.seqR rfl ?_
      refine WL.y rfl (Y.move) ?_
      refine WL.y rfl (Y.assign) ?_
      refine WL.y rfl (Y.assign) ?_
      refine WL.nil ?_
      refine WC.ret (endQ.two (.inr rfl) ?_)
      exact ⟨hres e, k12⟩
  · have e : turnS k a b = ([], 12) := by unfold turnS; rw [if_neg h]
    refine Ret.of (n := 26) (rs := #[.tmp 6, .tmp 7]) Tryd.func16 rfl rfl rfl (by simp) ?_
    refine WC.seqR rfl ?_
    refine WL.y rfl (Y.assign) ?_
    refine WL.y rfl (Y.assign) ?_
    refine WL.nil ?_
    refine WC.seq ?_
    refine WC.seqR rfl ?_
    refine WL.y rfl (Y.move) ?_
    refine WL.y rfl (Y.move) ?_
    refine WL.call rfl (C.func go23) (rbegins_ret _ k a (by omega)) ?_
    rintro _ w12 ⟨rfl, hb12⟩
    have k12 := hb12
    refine WL.y rfl (Y.bT (Y.not rfl) (by simp [h])) ?_
    refine WL.nil ?_
    refine WC.condT (rfl) ?_
    refine WC.seqR rfl ?_
    refine WL.y rfl (Y.assign) ?_
    refine WL.y rfl (Y.assign) ?_
    refine WL.nil ?_
    refine WC.ret (thenQ.ret (endQ.two (.inr rfl) ?_))
    exact ⟨hres e, k12⟩
end Go.Proofs.YtmodbnfekpeclaaDoor
