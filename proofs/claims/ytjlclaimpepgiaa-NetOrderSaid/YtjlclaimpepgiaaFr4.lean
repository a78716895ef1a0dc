/-
  frame: Body, Spoil.
-/
import Derived.Test.YtjlclaimpepgiaaFr3
namespace Go.Proofs.Ytjlclaimpepgiaa
open Go Go.RowKit Go.Cx
set_option linter.unusedVariables false
open Crc
def bodyOf (k : UInt8) (l : List UInt8) : List UInt8 × Int := if (openOf l).2.2 = 0 then (if (openOf l).1 = k then ((openOf l).2.1, 0) else ([], 13)) else ([], (openOf l).2.2)
theorem placed_ret (w : World) (b1 b2 : Nat) (at' : Int) (bv : Value) (l : List UInt8) (h1 : Blk w b1 3 [.int .i64 at']) (h2 : Blk w b2 32 [bv]) (hs : Bs w bv l) :
    Ret Try.prog 49 [.pointer (some ⟨b1, 0, none⟩), .pointer (some ⟨b2, 0, none⟩)].toArray w fun v w' => v = .int .i64 (if 0 ≤ at' ∧ at' < l.length then 0 else 17) ∧ w = w' := by
  by_cases h0 : 0 ≤ at'
  · by_cases hlt : at' < l.length
    · refine Ret.of (n := 12) (rs := #[.tmp 2]) Try.func49 rfl rfl rfl (by simp) ?_
      refine WC.seqR rfl ?_
      refine WL.y rfl (Y.assign) ?_
      refine WL.nil ?_
      refine WC.seqR rfl ?_
      refine WL.y rfl (Y.load1 Try.underlying3 rfl rfl (h1.one)) ?_
      refine WL.y rfl (Y.dT (Y.geq rfl rfl) (by omega)) ?_
      refine WL.y rfl (Y.move) ?_
      refine WL.y rfl (Y.load1 Try.underlying3 rfl rfl (h1.one)) ?_
      refine WL.y rfl (Y.load1 Try.underlying32 rfl rfl (h2.one)) ?_
      refine WL.y rfl (Y.lenSl Try.underlying32 (hs) _) ?_
      refine WL.y rfl (Y.dT (Y.lss rfl rfl) (by omega)) ?_
      refine WL.y rfl (Y.pickT rfl) ?_
      refine WL.call rfl (C.func go50) (unless_ret true 17 _) ?_
      rintro _ _ ⟨rfl, rfl⟩
      refine WL.y rfl (Y.assign) ?_
      refine WL.nil ?_
      refine WC.ret (endQ.one (.inr rfl) ?_)
      exact ⟨congrArg (Value.int .i64) (show (0 : Int) = if 0 ≤ at' ∧ at' < l.length then 0 else 17 by rw [if_pos ⟨h0, hlt⟩]), rfl⟩
    · refine Ret.of (n := 12) (rs := #[.tmp 2]) Try.func49 rfl rfl rfl (by simp) ?_
      refine WC.seqR rfl ?_
      refine WL.y rfl (Y.assign) ?_
      refine WL.nil ?_
      refine WC.seqR rfl ?_
      refine WL.y rfl (Y.load1 Try.underlying3 rfl rfl (h1.one)) ?_
      refine WL.y rfl (Y.dT (Y.geq rfl rfl) (by omega)) ?_
      refine WL.y rfl (Y.move) ?_
      refine WL.y rfl (Y.load1 Try.underlying3 rfl rfl (h1.one)) ?_
      refine WL.y rfl (Y.load1 Try.underlying32 rfl rfl (h2.one)) ?_
      refine WL.y rfl (Y.lenSl Try.underlying32 (hs) _) ?_
      refine WL.y rfl (Y.dF (Y.lss rfl rfl) (by omega)) ?_
      refine WL.y rfl (Y.pickT rfl) ?_
      refine WL.call rfl (C.func go50) (unless_ret false 17 _) ?_
      rintro _ _ ⟨rfl, rfl⟩
      refine WL.y rfl (Y.assign) ?_
      refine WL.nil ?_
      refine WC.ret (endQ.one (.inr rfl) ?_)
      exact ⟨congrArg (Value.int .i64) (show (17 : Int) = if 0 ≤ at' ∧ at' < l.length then 0 else 17 by rw [if_neg (fun h => hlt h.2)]), rfl⟩
  · refine Ret.of (n := 12) (rs := #[.tmp 2]) Try.func49 rfl rfl rfl (by simp) ?_
    refine WC.seqR rfl ?_
    refine WL.y rfl (Y.assign) ?_
    refine WL.nil ?_
    refine WC.seqR rfl ?_
    refine WL.y rfl (Y.load1 Try.underlying3 rfl rfl (h1.one)) ?_
    refine WL.y rfl (Y.dF (Y.geq rfl rfl) (by omega)) ?_
    refine WL.y rfl (Y.move) ?_
    refine WL.off rfl ?_
    refine WL.off rfl ?_
    refine WL.off rfl ?_
    refine WL.off rfl ?_
    refine WL.y rfl (Y.pickF rfl) ?_
    refine WL.call rfl (C.func go50) (unless_ret false 17 _) ?_
    rintro _ _ ⟨rfl, rfl⟩
    refine WL.y rfl (Y.assign) ?_
    refine WL.nil ?_
    refine WC.ret (endQ.one (.inr rfl) ?_)
    exact ⟨congrArg (Value.int .i64) (show (17 : Int) = if 0 ≤ at' ∧ at' < l.length then 0 else 17 by rw [if_neg (fun h => h0 h.1)]), rfl⟩
theorem masked_ret (w : World) (b1 : Nat) (m : UInt8) (h1 : Blk w b1 5 [u8v m]) :
    Ret Try.prog 51 [.pointer (some ⟨b1, 0, none⟩)].toArray w fun v w' => v = .int .i64 (if m = 0 then 2 else 0) ∧ w = w' := by
  by_cases hm : m = 0
  · subst hm
    refine Ret.of (n := 5) (rs := #[.tmp 1]) Try.func51 rfl rfl rfl (by simp) ?_
    refine WC.seqR rfl ?_
    refine WL.y rfl (Y.assign) ?_
    refine WL.nil ?_
    refine WC.seqR rfl ?_
    refine WL.y rfl (Y.load1 Try.underlying5 rfl rfl (h1.one)) ?_
    refine WL.y rfl (Y.dF (Y.nei rfl rfl) (by simp)) ?_
    refine WL.call rfl (C.func go50) (unless_ret false 2 _) ?_
    rintro _ _ ⟨rfl, rfl⟩
    refine WL.y rfl (Y.assign) ?_
    refine WL.nil ?_
    refine WC.ret (endQ.one (.inr rfl) ?_)
    exact ⟨rfl, rfl⟩
  · have hm' : m.toNat ≠ 0 := fun h => hm (UInt8.toNat_inj.mp h)
    refine Ret.of (n := 5) (rs := #[.tmp 1]) Try.func51 rfl rfl rfl (by simp) ?_
    refine WC.seqR rfl ?_
    refine WL.y rfl (Y.assign) ?_
    refine WL.nil ?_
    refine WC.seqR rfl ?_
    refine WL.y rfl (Y.load1 Try.underlying5 rfl rfl (h1.one)) ?_
    refine WL.y rfl (Y.dT (Y.nei rfl rfl) (by omega)) ?_
    refine WL.call rfl (C.func go50) (unless_ret true 2 _) ?_
    rintro _ _ ⟨rfl, rfl⟩
    refine WL.y rfl (Y.assign) ?_
    refine WL.nil ?_
    refine WC.ret (endQ.one (.inr rfl) ?_)
    exact ⟨(show Value.int .i64 0 = Value.int .i64 (if m = 0 then 2 else 0) by rw [if_neg hm]), rfl⟩
end Go.Proofs.Ytjlclaimpepgiaa
