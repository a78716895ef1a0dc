/-
  value: Compare: walks.
-/
import Derived.Test.YthcppegkpkgnpaaDoorVal2
import Derived.Test.YthcppegkpkgnpaaDoorShelf
import Derived.Shelf.Small.Strs
namespace Go.Proofs.YthcppegkpkgnpaaDoor
open Go Go.RowKit Go.Cx
set_option linter.unusedVariables false
set_option maxHeartbeats 4000000
def num (a b : Int) : Int := if a < b then -1 else if b < a then 1 else 0
def rk (b : Bool) : Int := if b then 1 else 0
abbrev cmpT : List UInt8 → List UInt8 → Int := Lib.compareBytes
mutual
/-- which of two values is ahead -/
def cmpV : V → V → Int
  | .mk k b i t l ks vs, w => if k ≠ w.k then num k w.k else if k = 2 then num (rk b) (rk w.b) else if k = 3 then num i w.i else if k = 4 then cmpT t w.t else if k = 5 then cmpL l w.l else if k = 6 then cmpM vs ks w.ks w.vs else 0
def cmpL : List V → List V → Int
  | [], [] => 0
  | [], _ :: _ => -1
  | _ :: _, [] => 1
  | x :: xs, y :: ys => if cmpV x y ≠ 0 then cmpV x y else cmpL xs ys
def cmpM : List V → List (List UInt8) → List (List UInt8) → List V → Int
  | [], _, _, [] => 0
  | [], _, _, _ :: _ => -1
  | _ :: _, _, _, [] => 1
  | x :: xs, ks, ks', y :: ys => if cmpT (ks.headD []) (ks'.headD []) ≠ 0 then cmpT (ks.headD []) (ks'.headD []) else if cmpV x y ≠ 0 then cmpV x y else cmpM xs ks.tail ks'.tail ys
end
theorem cmpV_eq (v w : V) : cmpV v w = if v.k ≠ w.k then num v.k w.k else if v.k = 2 then num (rk v.b) (rk w.b) else if v.k = 3 then num v.i w.i else if v.k = 4 then cmpT v.t w.t else if v.k = 5 then cmpL v.l w.l else if v.k = 6 then cmpM v.vs v.ks w.ks w.vs else 0 := by cases v; rw [cmpV]; rfl
theorem cmpL_step (la lb : List V) (j : Nat) (h1 : j < la.length) (h2 : j < lb.length) : cmpL (la.drop j) (lb.drop j) = if cmpV la[j] lb[j] ≠ 0 then cmpV la[j] lb[j] else cmpL (la.drop (j + 1)) (lb.drop (j + 1)) := by
  rw [List.drop_eq_getElem_cons h1, List.drop_eq_getElem_cons h2, cmpL]
theorem cmpL_end (la lb : List V) (j : Nat) (h : (j : Int) = min (la.length : Int) (lb.length : Int)) : cmpL (la.drop j) (lb.drop j) = num la.length lb.length := by
  unfold num
  by_cases h1 : j < la.length
  · have h2 : lb.drop j = [] := List.drop_eq_nil_of_le (by omega)
    rw [List.drop_eq_getElem_cons h1, h2, cmpL, if_neg (by omega), if_pos (by omega)]
  · have h1' : la.drop j = [] := List.drop_eq_nil_of_le (by omega)
    by_cases h2 : j < lb.length
    · rw [List.drop_eq_getElem_cons h2, h1', cmpL, if_pos (by omega)]
    · have h2' : lb.drop j = [] := List.drop_eq_nil_of_le (by omega)
      rw [h1', h2', cmpL, if_neg (by omega), if_neg (by omega)]
theorem cmpM_step (la lb : List V) (ka kb : List (List UInt8)) (j : Nat) (h1 : j < la.length) (h2 : j < lb.length) (h3 : j < ka.length) (h4 : j < kb.length) : cmpM (la.drop j) (ka.drop j) (kb.drop j) (lb.drop j) = if cmpT ka[j] kb[j] ≠ 0 then cmpT ka[j] kb[j] else if cmpV la[j] lb[j] ≠ 0 then cmpV la[j] lb[j] else cmpM (la.drop (j + 1)) (ka.drop (j + 1)) (kb.drop (j + 1)) (lb.drop (j + 1)) := by
  rw [List.drop_eq_getElem_cons h1, List.drop_eq_getElem_cons h2, List.drop_eq_getElem_cons h3, List.drop_eq_getElem_cons h4, cmpM]
  rfl
theorem cmpM_end (la lb : List V) (ka kb : List (List UInt8)) (j : Nat) (h : (j : Int) = min (la.length : Int) (lb.length : Int)) : cmpM (la.drop j) (ka.drop j) (kb.drop j) (lb.drop j) = num la.length lb.length := by
  unfold num
  by_cases h1 : j < la.length
  · have h2 : lb.drop j = [] := List.drop_eq_nil_of_le (by omega)
    rw [List.drop_eq_getElem_cons h1, h2, cmpM, if_neg (by omega), if_pos (by omega)]
  · have h1' : la.drop j = [] := List.drop_eq_nil_of_le (by omega)
    by_cases h2 : j < lb.length
    · rw [List.drop_eq_getElem_cons h2, h1', cmpM, if_pos (by omega)]
    · have h2' : lb.drop j = [] := List.drop_eq_nil_of_le (by omega)
      rw [h1', h2', cmpM, if_neg (by omega), if_neg (by omega)]
theorem strCompare_ret (w : World) (a b : List UInt8) : Ret Tryd.prog 44 [strv a, strv b].toArray w fun v w' => v = .int .i64 (cmpT a b) ∧ w = w' := by
  refine Calls.mono (Any.strings_Compare Tryd.laysCmp ⟨a.toArray⟩ ⟨b.toArray⟩ w) ?_
  rintro e w' ⟨rfl, rfl⟩
  exact ⟨_, rfl, rfl, rfl⟩
theorem nanK_ret (w : World) (a : Int) : Ret Tryd.prog 57 [.int .i64 a].toArray w fun v w' => v = .bool false ∧ w = w' := by
  refine Ret.of (n := 6) (rs := #[.tmp 2]) Tryd.func57 rfl rfl rfl (by simp) ?_
  refine WC.seqR rfl ?_
  refine WL.y rfl (Y.assign) ?_
  refine WL.nil ?_
  refine WC.seqR rfl ?_
  refine WL.y rfl (Y.move) ?_
  refine WL.y rfl (Y.move) ?_
  refine WL.y rfl (Y.dF (Y.nei rfl rfl) (fun h => h rfl)) ?_
  refine WL.y rfl (Y.assign) ?_
  refine WL.nil ?_
  refine WC.ret (endQ.one (.inr rfl) ?_)
  exact ⟨rfl, rfl⟩
theorem nan64_ret (w : World) (a : Int) : Ret Tryd.prog 58 [.int .i64 a].toArray w fun v w' => v = .bool false ∧ w = w' := by
  refine Ret.of (n := 6) (rs := #[.tmp 2]) Tryd.func58 rfl rfl rfl (by simp) ?_
  refine WC.seqR rfl ?_
  refine WL.y rfl (Y.assign) ?_
  refine WL.nil ?_
  refine WC.seqR rfl ?_
  refine WL.y rfl (Y.move) ?_
  refine WL.y rfl (Y.move) ?_
  refine WL.y rfl (Y.dF (Y.nei rfl rfl) (fun h => h rfl)) ?_
  refine WL.y rfl (Y.assign) ?_
  refine WL.nil ?_
  refine WC.ret (endQ.one (.inr rfl) ?_)
  exact ⟨rfl, rfl⟩
theorem nanI_ret (w : World) (a : Int) : Ret Tryd.prog 83 [.int .i64 a].toArray w fun v w' => v = .bool false ∧ w = w' := by
  refine Ret.of (n := 6) (rs := #[.tmp 2]) Tryd.func83 rfl rfl rfl (by simp) ?_
  refine WC.seqR rfl ?_
  refine WL.y rfl (Y.assign) ?_
  refine WL.nil ?_
  refine WC.seqR rfl ?_
  refine WL.y rfl (Y.move) ?_
  refine WL.y rfl (Y.move) ?_
  refine WL.y rfl (Y.dF (Y.nei rfl rfl) (fun h => h rfl)) ?_
  refine WL.y rfl (Y.assign) ?_
  refine WL.nil ?_
  refine WC.ret (endQ.one (.inr rfl) ?_)
  exact ⟨rfl, rfl⟩
theorem num_lt {a b : Int} (h : a < b) : num a b = -1 := if_pos h
theorem num_gt {a b : Int} (h : b < a) : num a b = 1 := by unfold num; rw [if_neg (by omega), if_pos h]
theorem num_eq {a b : Int} (h : ¬ a < b) (h2 : ¬ b < a) : num a b = 0 := by unfold num; rw [if_neg h, if_neg h2]
theorem cmpK_ret (w : World) (a b : Int) : Ret Tryd.prog 41 [.int .i64 a, .int .i64 b].toArray w fun v w' => v = .int .i64 (num a b) ∧ w = w' := by
  refine Ret.of (n := 20) (rs := #[.tmp 4]) Tryd.func41 rfl rfl rfl (by simp) ?_
  refine WC.seqR rfl ?_
  refine WL.y rfl (Y.assign) ?_
  refine WL.nil ?_
  refine WC.seqR rfl ?_
  refine WL.y rfl (Y.move) ?_
  refine WL.call rfl (C.func go57) (nanK_ret _ a) ?_
  rintro _ _ ⟨rfl, rfl⟩
  refine WL.y rfl (Y.assign) ?_
  refine WL.nil ?_
  refine WC.seqR rfl ?_
  refine WL.y rfl (Y.move) ?_
  refine WL.call rfl (C.func go57) (nanK_ret _ b) ?_
  rintro _ _ ⟨rfl, rfl⟩
  refine WL.y rfl (Y.assign) ?_
  refine WL.nil ?_
  refine WC.seq ?_
  refine WC.seqR rfl ?_
  refine WL.y rfl (Y.move) ?_
  refine WL.nil ?_
  refine WC.condF (rfl) ?_
  refine WC.skip (thenQ.normal ?_)
  refine WC.seq ?_
  refine WC.seqR rfl ?_
  refine WL.y rfl (Y.move) ?_
  refine WL.nil ?_
  refine WC.condF (rfl) ?_
  refine WC.skip (thenQ.normal ?_)
  refine WC.seq ?_
  refine WC.seqR rfl ?_
  refine WL.y rfl (Y.move) ?_
  refine WL.y rfl (Y.move) ?_
  refine WL.y rfl (Y.lss rfl rfl) ?_
  refine WL.nil ?_
  refine WC.condD rfl (fun h0 => ?_) (fun h0 => ?_)
  · refine WC.seqR rfl ?_
    refine WL.y rfl (Y.assign) ?_
    refine WL.nil ?_
    refine WC.ret (thenQ.ret (endQ.one (.inr rfl) ?_))
    exact ⟨congrArg (Value.int .i64) (num_lt h0).symm, rfl⟩
  · refine WC.skip (thenQ.normal ?_)
    refine WC.seq ?_
    refine WC.seqR rfl ?_
    refine WL.y rfl (Y.move) ?_
    refine WL.y rfl (Y.move) ?_
    refine WL.y rfl (Y.gtr rfl rfl) ?_
    refine WL.nil ?_
    refine WC.condD rfl (fun h1 => ?_) (fun h1 => ?_)
    · refine WC.seqR rfl ?_
      refine WL.y rfl (Y.assign) ?_
      refine WL.nil ?_
      refine WC.ret (thenQ.ret (endQ.one (.inr rfl) ?_))
      exact ⟨congrArg (Value.int .i64) (num_gt h1).symm, rfl⟩
    · refine WC.skip (thenQ.normal ?_)
      refine WC.seqR rfl ?_
      refine WL.y rfl (Y.assign) ?_
      refine WL.nil ?_
      refine WC.ret (endQ.one (.inr rfl) ?_)
      exact ⟨congrArg (Value.int .i64) (num_eq h0 h1).symm, rfl⟩
theorem cmp64_ret (w : World) (a b : Int) : Ret Tryd.prog 43 [.int .i64 a, .int .i64 b].toArray w fun v w' => v = .int .i64 (num a b) ∧ w = w' := by
  refine Ret.of (n := 20) (rs := #[.tmp 4]) Tryd.func43 rfl rfl rfl (by simp) ?_
  refine WC.seqR rfl ?_
  refine WL.y rfl (Y.assign) ?_
  refine WL.nil ?_
  refine WC.seqR rfl ?_
  refine WL.y rfl (Y.move) ?_
  refine WL.call rfl (C.func go58) (nan64_ret _ a) ?_
  rintro _ _ ⟨rfl, rfl⟩
  refine WL.y rfl (Y.assign) ?_
  refine WL.nil ?_
  refine WC.seqR rfl ?_
  refine WL.y rfl (Y.move) ?_
  refine WL.call rfl (C.func go58) (nan64_ret _ b) ?_
  rintro _ _ ⟨rfl, rfl⟩
  refine WL.y rfl (Y.assign) ?_
  refine WL.nil ?_
  refine WC.seq ?_
  refine WC.seqR rfl ?_
  refine WL.y rfl (Y.move) ?_
  refine WL.nil ?_
  refine WC.condF (rfl) ?_
  refine WC.skip (thenQ.normal ?_)
  refine WC.seq ?_
  refine WC.seqR rfl ?_
  refine WL.y rfl (Y.move) ?_
  refine WL.nil ?_
  refine WC.condF (rfl) ?_
  refine WC.skip (thenQ.normal ?_)
  refine WC.seq ?_
  refine WC.seqR rfl ?_
  refine WL.y rfl (Y.move) ?_
  refine WL.y rfl (Y.move) ?_
  refine WL.y rfl (Y.lss rfl rfl) ?_
  refine WL.nil ?_
  refine WC.condD rfl (fun h0 => ?_) (fun h0 => ?_)
  · refine WC.seqR rfl ?_
    refine WL.y rfl (Y.assign) ?_
    refine WL.nil ?_
    refine WC.ret (thenQ.ret (endQ.one (.inr rfl) ?_))
    exact ⟨congrArg (Value.int .i64) (num_lt h0).symm, rfl⟩
  · refine WC.skip (thenQ.normal ?_)
    refine WC.seq ?_
    refine WC.seqR rfl ?_
    refine WL.y rfl (Y.move) ?_
    refine WL.y rfl (Y.move) ?_
    refine WL.y rfl (Y.gtr rfl rfl) ?_
    refine WL.nil ?_
    refine WC.condD rfl (fun h1 => ?_) (fun h1 => ?_)
    · refine WC.seqR rfl ?_
      refine WL.y rfl (Y.assign) ?_
      refine WL.nil ?_
      refine WC.ret (thenQ.ret (endQ.one (.inr rfl) ?_))
      exact ⟨congrArg (Value.int .i64) (num_gt h1).symm, rfl⟩
    · refine WC.skip (thenQ.normal ?_)
      refine WC.seqR rfl ?_
      refine WL.y rfl (Y.assign) ?_
      refine WL.nil ?_
      refine WC.ret (endQ.one (.inr rfl) ?_)
      exact ⟨congrArg (Value.int .i64) (num_eq h0 h1).symm, rfl⟩
theorem cmpI_ret (w : World) (a b : Int) : Ret Tryd.prog 60 [.int .i64 a, .int .i64 b].toArray w fun v w' => v = .int .i64 (num a b) ∧ w = w' := by
  refine Ret.of (n := 20) (rs := #[.tmp 4]) Tryd.func60 rfl rfl rfl (by simp) ?_
  refine WC.seqR rfl ?_
  refine WL.y rfl (Y.assign) ?_
  refine WL.nil ?_
  refine WC.seqR rfl ?_
  refine WL.y rfl (Y.move) ?_
  refine WL.call rfl (C.func go83) (nanI_ret _ a) ?_
  rintro _ _ ⟨rfl, rfl⟩
  refine WL.y rfl (Y.assign) ?_
  refine WL.nil ?_
  refine WC.seqR rfl ?_
  refine WL.y rfl (Y.move) ?_
  refine WL.call rfl (C.func go83) (nanI_ret _ b) ?_
  rintro _ _ ⟨rfl, rfl⟩
  refine WL.y rfl (Y.assign) ?_
  refine WL.nil ?_
  refine WC.seq ?_
  refine WC.seqR rfl ?_
  refine WL.y rfl (Y.move) ?_
  refine WL.nil ?_
  refine WC.condF (rfl) ?_
  refine WC.skip (thenQ.normal ?_)
  refine WC.seq ?_
  refine WC.seqR rfl ?_
  refine WL.y rfl (Y.move) ?_
  refine WL.nil ?_
  refine WC.condF (rfl) ?_
  refine WC.skip (thenQ.normal ?_)
  refine WC.seq ?_
  refine WC.seqR rfl ?_
  refine WL.y rfl (Y.move) ?_
  refine WL.y rfl (Y.move) ?_
  refine WL.y rfl (Y.lss rfl rfl) ?_
  refine WL.nil ?_
  refine WC.condD rfl (fun h0 => ?_) (fun h0 => ?_)
  · refine WC.seqR rfl ?_
    refine WL.y rfl (Y.assign) ?_
    refine WL.nil ?_
    refine WC.ret (thenQ.ret (endQ.one (.inr rfl) ?_))
    exact ⟨congrArg (Value.int .i64) (num_lt h0).symm, rfl⟩
  · refine WC.skip (thenQ.normal ?_)
    refine WC.seq ?_
    refine WC.seqR rfl ?_
    refine WL.y rfl (Y.move) ?_
    refine WL.y rfl (Y.move) ?_
    refine WL.y rfl (Y.gtr rfl rfl) ?_
    refine WL.nil ?_
    refine WC.condD rfl (fun h1 => ?_) (fun h1 => ?_)
    · refine WC.seqR rfl ?_
      refine WL.y rfl (Y.assign) ?_
      refine WL.nil ?_
      refine WC.ret (thenQ.ret (endQ.one (.inr rfl) ?_))
      exact ⟨congrArg (Value.int .i64) (num_gt h1).symm, rfl⟩
    · refine WC.skip (thenQ.normal ?_)
      refine WC.seqR rfl ?_
      refine WL.y rfl (Y.assign) ?_
      refine WL.nil ?_
      refine WC.ret (endQ.one (.inr rfl) ?_)
      exact ⟨congrArg (Value.int .i64) (num_eq h0 h1).symm, rfl⟩
theorem rank_ret (w : World) (b : Bool) : Ret Tryd.prog 42 [.bool b].toArray w fun v w' => v = .int .i64 (rk b) ∧ w = w' := by
  refine Ret.of (n := 4) (rs := #[.tmp 2]) Tryd.func42 rfl rfl rfl (by simp) ?_
  refine WC.seqR rfl ?_
  refine WL.y rfl (Y.assign) ?_
  refine WL.nil ?_
  refine WC.seq ?_
  refine WC.seqR rfl ?_
  refine WL.y rfl (Y.move) ?_
  refine WL.nil ?_
  refine WC.cond rfl (fun h => ?_) (fun h => ?_)
  · subst h
    refine WC.seqR rfl ?_
    refine WL.y rfl (Y.assign) ?_
    refine WL.nil ?_
    refine WC.ret (thenQ.ret (endQ.one (.inr rfl) ?_))
    exact ⟨rfl, rfl⟩
  · subst h
    refine WC.skip (thenQ.normal ?_)
    refine WC.seqR rfl ?_
    refine WL.y rfl (Y.assign) ?_
    refine WL.nil ?_
    refine WC.ret (endQ.one (.inr rfl) ?_)
    exact ⟨rfl, rfl⟩
end Go.Proofs.YthcppegkpkgnpaaDoor
