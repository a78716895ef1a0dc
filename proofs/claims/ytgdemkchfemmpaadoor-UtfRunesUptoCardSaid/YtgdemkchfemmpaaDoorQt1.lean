/-
  utf: what an escape reads: walks.
-/
import Derived.Test.YtgdemkchfemmpaaDoorQt0
namespace Go.Proofs.YtgdemkchfemmpaaDoor
open Go Go.RowKit Go.Cx
set_option linter.unusedVariables false
set_option maxHeartbeats 4000000
/-- a number that may be none, as two values -/
def optV (o : Option Nat) : Value := .tuple #[.int .i32 (o.getD 0 : Nat), .bool o.isSome]
theorem optV_some {o : Option Nat} {n : Nat} {z : Int} (h : o = some n) (e : (n : Int) = z) : Value.tuple #[.int .i32 z, .bool true] = optV o := by subst h; subst e; rfl
theorem optV_none {o : Option Nat} (h : o = none) : Value.tuple #[.int .i32 0, .bool false] = optV o := by subst h; rfl
theorem unit_ret (w : World) (l : List UInt8) (hl : l.length ≤ 4611686018427387904) : Ret Tryd.prog 40 [strv l].toArray w fun v w' => v = optV (hexL l) ∧ w = w' := by
  have hb0 : bt l 0 = (l.getD 0 0).toNat := rfl
  have hb1 : bt l 1 = (l.getD 1 0).toNat := rfl
  have hx : ¬ (6 ≤ l.length ∧ bt l 0 = 92 ∧ bt l 1 = 117) → hexL l = none := fun h => by unfold hexL; rw [if_neg h]
  by_cases h0 : l.length < 6
  · have e := hx (by omega)
    refine Ret.of (n := 39) (rs := #[.tmp 2, .tmp 3]) Tryd.func40 rfl rfl rfl (by simp) ?_
    refine WC.seqR rfl ?_
    refine WL.y rfl (Y.assign) ?_
    refine WL.y rfl (Y.assign) ?_
    refine WL.nil ?_
    refine WC.seq ?_
    refine WC.seqR rfl ?_
    refine WL.y rfl (Y.move) ?_
    refine WL.y rfl (Y.lenS Tryd.underlying9 rfl _) ?_
    refine WL.y rfl (Y.dT (Y.lss rfl rfl) (by omega)) ?_
    refine WL.y rfl (Y.move) ?_
    refine WL.off rfl ?_
    refine WL.off rfl ?_
    refine WL.off rfl ?_
    refine WL.y rfl (Y.pickT rfl) ?_
    refine WL.y rfl (Y.move) ?_
    refine WL.off rfl ?_
    refine WL.off rfl ?_
    refine WL.off rfl ?_
    refine WL.y rfl (Y.pickT rfl) ?_
    refine WL.nil ?_
    refine WC.condT (rfl) ?_
    refine WC.seqR rfl ?_
    refine WL.y rfl (Y.assign) ?_
    refine WL.y rfl (Y.assign) ?_
    refine WL.nil ?_
    refine WC.ret (thenQ.ret (endQ.two (.inr rfl) ?_))
    exact ⟨optV_none e, rfl⟩
  · by_cases h1 : bt l 0 = 92
    · by_cases h2 : bt l 1 = 117
      · have e : hexL l = hexF l 4 := by unfold hexL; rw [if_pos ⟨by omega, h1, h2⟩]
        refine Ret.of (n := 39) (rs := #[.tmp 2, .tmp 3]) Tryd.func40 rfl rfl rfl (by simp) ?_
        refine WC.seqR rfl ?_
        refine WL.y rfl (Y.assign) ?_
        refine WL.y rfl (Y.assign) ?_
        refine WL.nil ?_
        refine WC.seq ?_
        refine WC.seqR rfl ?_
        refine WL.y rfl (Y.move) ?_
        refine WL.y rfl (Y.lenS Tryd.underlying9 rfl _) ?_
        refine WL.y rfl (Y.dF (Y.lss rfl rfl) (by omega)) ?_
        refine WL.y rfl (Y.move) ?_
        refine WL.y rfl (Y.move) ?_
        refine WL.y rfl (Y.idxN (0) Tryd.underlying9 rfl rfl (by omega) (by omega) _) ?_
        refine WL.y rfl (Y.dF (Y.nei rfl rfl) (by omega)) ?_
        refine WL.y rfl (Y.pickF rfl) ?_
        refine WL.y rfl (Y.move) ?_
        refine WL.y rfl (Y.move) ?_
        refine WL.y rfl (Y.idxN (1) Tryd.underlying9 rfl rfl (by omega) (by omega) _) ?_
        refine WL.y rfl (Y.dF (Y.nei rfl rfl) (by omega)) ?_
        refine WL.y rfl (Y.pickF rfl) ?_
        refine WL.nil ?_
        refine WC.condF (rfl) ?_
        refine WC.skip (thenQ.normal ?_)
        refine WC.seqR rfl ?_
        refine WL.y rfl (Y.assign) ?_
        refine WL.nil ?_
        refine WC.seq ?_
        refine WC.seqR rfl ?_
        refine WL.y rfl (Y.assign) ?_
        refine WL.nil ?_
        refine WC.block ?_
        refine WC.loop (fun k => 4 - k) (fun k f ds w' => k ≤ 4 ∧ ds = [] ∧ w = w' ∧ ∃ n J, hexF l k = some n ∧ f = ov J [(0, strv l), (4, .int .i32 (n : Int)), (5, .int .i64 (((k + 2 : Nat)) : Int))]) 0 ?_ ?_
        · exact ⟨by omega, rfl, rfl, 0, _, rfl, ov_mk ⟨rfl, rfl, rfl, trivial⟩⟩
        · rintro k _ _ _ ⟨hk, rfl, rfl, n, J, hn, rfl⟩
          have hlt := hexF_lt l k n hn
          refine WC.seq ?_
          refine WC.seqR rfl ?_
          refine WL.y rfl (Y.move) ?_
          refine WL.y rfl (Y.lss rfl rfl) ?_
          refine WL.nil ?_
          refine WC.condD rfl (fun h3 => ?_) (fun h3 => ?_)
          · have hk4 : k = 0 ∨ k = 1 ∨ k = 2 ∨ k = 3 := by omega
            have hlt2 : n < 4096 := by rcases hk4 with rfl | rfl | rfl | rfl <;> simp only [Nat.reducePow] at hlt <;> omega
            have hbk : bt l (k + 2) = (l.getD (k + 2) 0).toNat := rfl
            have hbl := bt_lt l (k + 2)
            have hs : hexF l (k + 1) = match dig (bt l (k + 2)) with | none => none | some d => some (16 * n + d) := by
              simp only [hexF, hn]
              cases dig (bt l (k + 2)) <;> rfl
            generalize hdg : dig (bt l (k + 2)) = dg at hs
            cases dg with
            | none =>
              have e2 : hexF l 4 = none := by have := hexF_none l hs (3 - k); rwa [show k + 1 + (3 - k) = 4 by omega] at this
              refine WC.skip (thenQ.normal ?_)
              refine WC.seq ?_
              refine WC.block ?_
              refine WC.seqR rfl ?_
              refine WL.y rfl (Y.move) ?_
              refine WL.y rfl (Y.move) ?_
              refine WL.y rfl (Y.idxN (k + 2) Tryd.underlying9 rfl rfl (by omega) (by omega) _) ?_
              refine WL.call rfl (C.func go46) (digit_ret _ (bt l (k + 2)) hbl) ?_
              rintro _ _ ⟨rfl, rfl⟩
              unfold digV
              rw [hdg]
              refine WL.y rfl (Y.move) ?_
              refine WL.y rfl (Y.extract rfl rfl) ?_
              refine WL.y rfl (Y.extract rfl rfl) ?_
              refine WL.y rfl (Y.assign) ?_
              refine WL.y rfl (Y.assign) ?_
              refine WL.nil ?_
              refine WC.seq ?_
              refine WC.seqR rfl ?_
              refine WL.y rfl (Y.move) ?_
              refine WL.y rfl (Y.not rfl) ?_
              refine WL.nil ?_
              refine WC.condT (rfl) ?_
              refine WC.seqR rfl ?_
              refine WL.y rfl (Y.assign) ?_
              refine WL.y rfl (Y.assign) ?_
              refine WL.nil ?_
              refine WC.ret (thenQ.ret (inBlockQ.ret (thenQ.ret (thenQ.ret (inBlockQ.ret (thenQ.ret (endQ.two (.inr rfl) ?_)))))))
              exact ⟨optV_none (e.trans e2), rfl⟩
            | some d =>
              have hd := dig_lt hdg
              skip
              refine WC.skip (thenQ.normal ?_)
              refine WC.seq ?_
              refine WC.block ?_
              refine WC.seqR rfl ?_
              refine WL.y rfl (Y.move) ?_
              refine WL.y rfl (Y.move) ?_
              refine WL.y rfl (Y.idxN (k + 2) Tryd.underlying9 rfl rfl (by omega) (by omega) _) ?_
              refine WL.call rfl (C.func go46) (digit_ret _ (bt l (k + 2)) hbl) ?_
              rintro _ _ ⟨rfl, rfl⟩
              unfold digV
              rw [hdg]
              refine WL.y rfl (Y.move) ?_
              refine WL.y rfl (Y.extract rfl rfl) ?_
              refine WL.y rfl (Y.extract rfl rfl) ?_
              refine WL.y rfl (Y.assign) ?_
              refine WL.y rfl (Y.assign) ?_
              refine WL.nil ?_
              refine WC.seq ?_
              refine WC.seqR rfl ?_
              refine WL.y rfl (Y.move) ?_
              refine WL.y rfl (Y.not rfl) ?_
              refine WL.nil ?_
              refine WC.condF (rfl) ?_
              refine WC.skip (thenQ.normal ?_)
              refine WC.region rfl ?_
              refine WL.y rfl (Y.move) ?_
              refine WL.y rfl (Y.shl4I32 (a := n) rfl rfl (by omega)) ?_
              refine WL.y rfl (Y.move) ?_
              refine WL.y rfl (Y.or16I32 (a := n) (b := d) rfl rfl (by omega) hd) ?_
              refine WL.y rfl (Y.assign) ?_
              refine WL.nil (inBlockQ.normal (thenQ.normal ?_))
              refine WC.region rfl ?_
              refine WL.y rfl (Y.move) ?_
              refine WL.y rfl (Y.add64 rfl rfl (by omega)) ?_
              refine WL.y rfl (Y.assign) ?_
              refine WL.nil (thenQ.normal ?_)
              exact ⟨k + 1, by omega, by omega, rfl, rfl, 16 * n + d, _, hs, ov_mk ⟨rfl, rfl, rfl, trivial⟩⟩
          · have hk4 : k = 4 := by omega
            subst hk4
            refine WC.exit (thenQ.exit (thenQ.exit (inBlockQ.hit (thenQ.normal ?_))))
            refine WC.seqR rfl ?_
            refine WL.y rfl (Y.move) ?_
            refine WL.y rfl (Y.assign) ?_
            refine WL.y rfl (Y.assign) ?_
            refine WL.nil ?_
            refine WC.ret (endQ.two (.inr rfl) ?_)
            exact ⟨optV_some (e.trans hn) rfl, rfl⟩
      · have e := hx (by omega)
        refine Ret.of (n := 39) (rs := #[.tmp 2, .tmp 3]) Tryd.func40 rfl rfl rfl (by simp) ?_
        refine WC.seqR rfl ?_
        refine WL.y rfl (Y.assign) ?_
        refine WL.y rfl (Y.assign) ?_
        refine WL.nil ?_
        refine WC.seq ?_
        refine WC.seqR rfl ?_
        refine WL.y rfl (Y.move) ?_
        refine WL.y rfl (Y.lenS Tryd.underlying9 rfl _) ?_
        refine WL.y rfl (Y.dF (Y.lss rfl rfl) (by omega)) ?_
        refine WL.y rfl (Y.move) ?_
        refine WL.y rfl (Y.move) ?_
        refine WL.y rfl (Y.idxN (0) Tryd.underlying9 rfl rfl (by omega) (by omega) _) ?_
        refine WL.y rfl (Y.dF (Y.nei rfl rfl) (by omega)) ?_
        refine WL.y rfl (Y.pickF rfl) ?_
        refine WL.y rfl (Y.move) ?_
        refine WL.y rfl (Y.move) ?_
        refine WL.y rfl (Y.idxN (1) Tryd.underlying9 rfl rfl (by omega) (by omega) _) ?_
        refine WL.y rfl (Y.dT (Y.nei rfl rfl) (by omega)) ?_
        refine WL.y rfl (Y.pickF rfl) ?_
        refine WL.nil ?_
        refine WC.condT (rfl) ?_
        refine WC.seqR rfl ?_
        refine WL.y rfl (Y.assign) ?_
        refine WL.y rfl (Y.assign) ?_
        refine WL.nil ?_
        refine WC.ret (thenQ.ret (endQ.two (.inr rfl) ?_))
        exact ⟨optV_none e, rfl⟩
    · have e := hx (by omega)
      refine Ret.of (n := 39) (rs := #[.tmp 2, .tmp 3]) Tryd.func40 rfl rfl rfl (by simp) ?_
      refine WC.seqR rfl ?_
      refine WL.y rfl (Y.assign) ?_
      refine WL.y rfl (Y.assign) ?_
      refine WL.nil ?_
      refine WC.seq ?_
      refine WC.seqR rfl ?_
      refine WL.y rfl (Y.move) ?_
      refine WL.y rfl (Y.lenS Tryd.underlying9 rfl _) ?_
      refine WL.y rfl (Y.dF (Y.lss rfl rfl) (by omega)) ?_
      refine WL.y rfl (Y.move) ?_
      refine WL.y rfl (Y.move) ?_
      refine WL.y rfl (Y.idxN (0) Tryd.underlying9 rfl rfl (by omega) (by omega) _) ?_
      refine WL.y rfl (Y.dT (Y.nei rfl rfl) (by omega)) ?_
      refine WL.y rfl (Y.pickF rfl) ?_
      refine WL.y rfl (Y.move) ?_
      refine WL.off rfl ?_
      refine WL.off rfl ?_
      refine WL.off rfl ?_
      refine WL.y rfl (Y.pickT rfl) ?_
      refine WL.nil ?_
      refine WC.condT (rfl) ?_
      refine WC.seqR rfl ?_
      refine WL.y rfl (Y.assign) ?_
      refine WL.y rfl (Y.assign) ?_
      refine WL.nil ?_
      refine WC.ret (thenQ.ret (endQ.two (.inr rfl) ?_))
      exact ⟨optV_none e, rfl⟩
/-- what a byte is refused for -/
theorem refused_ret (w : World) (c : Nat) (hc : c < 256) : Ret Tryd.prog 33 [.int .u8 (c : Int)].toArray w fun v w' => v = .int .i64 (if c < 32 then 4 else 3) ∧ w = w' := by
  refine Ret.of (n := 5) (rs := #[.tmp 2]) Tryd.func33 rfl rfl rfl (by simp) ?_
  refine WC.seqR rfl ?_
  refine WL.y rfl (Y.assign) ?_
  refine WL.nil ?_
  refine WC.seq ?_
  refine WC.seqR rfl ?_
  refine WL.y rfl (Y.move) ?_
  refine WL.y rfl (Y.lss rfl rfl) ?_
  refine WL.nil ?_
  refine WC.condD rfl (fun h0 => ?_) (fun h0 => ?_)
  · have e : (if c < 32 then (4 : Int) else 3) = 4 := if_pos (by omega)
    refine WC.seqR rfl ?_
    refine WL.y rfl (Y.assign) ?_
    refine WL.nil ?_
    refine WC.ret (thenQ.ret (endQ.one (.inr rfl) ?_))
    exact ⟨congrArg (Value.int .i64) e.symm, rfl⟩
  · have e : (if c < 32 then (4 : Int) else 3) = 3 := if_neg (by omega)
    refine WC.skip (thenQ.normal ?_)
    refine WC.seqR rfl ?_
    refine WL.y rfl (Y.assign) ?_
    refine WL.nil ?_
    refine WC.ret (endQ.one (.inr rfl) ?_)
    exact ⟨congrArg (Value.int .i64) e.symm, rfl⟩
/-- does a rune stand for itself? -/
def selfR (r : Nat) : Bool := decide (32 ≤ r ∧ r ≠ 34 ∧ r ≠ 92)
theorem self_ret (w : World) (r : Nat) (hr : r < 2147483648) : Ret Tryd.prog 24 [.int .i32 (r : Int)].toArray w fun v w' => v = .bool (selfR r) ∧ w = w' := by
  by_cases h0 : 32 ≤ r
  · by_cases h1 : r = 34
    · have e : selfR r = false := decide_eq_false (by omega)
      refine Ret.of (n := 13) (rs := #[.tmp 2]) Tryd.func24 rfl rfl rfl (by simp) ?_
      refine WC.seqR rfl ?_
      refine WL.y rfl (Y.assign) ?_
      refine WL.nil ?_
      refine WC.seqR rfl ?_
      refine WL.y rfl (Y.move) ?_
      refine WL.y rfl (Y.dT (Y.geq rfl rfl) (by omega)) ?_
      refine WL.y rfl (Y.move) ?_
      refine WL.y rfl (Y.move) ?_
      refine WL.y rfl (Y.dF (Y.nei rfl rfl) (by omega)) ?_
      refine WL.y rfl (Y.pickT rfl) ?_
      refine WL.y rfl (Y.move) ?_
      refine WL.off rfl ?_
      refine WL.off rfl ?_
      refine WL.y rfl (Y.pickF rfl) ?_
      refine WL.y rfl (Y.assign) ?_
      refine WL.nil ?_
      refine WC.ret (endQ.one (.inr rfl) ?_)
      exact ⟨congrArg Value.bool e.symm, rfl⟩
    · by_cases h2 : r = 92
      · have e : selfR r = false := decide_eq_false (by omega)
        refine Ret.of (n := 13) (rs := #[.tmp 2]) Tryd.func24 rfl rfl rfl (by simp) ?_
        refine WC.seqR rfl ?_
        refine WL.y rfl (Y.assign) ?_
        refine WL.nil ?_
        refine WC.seqR rfl ?_
        refine WL.y rfl (Y.move) ?_
        refine WL.y rfl (Y.dT (Y.geq rfl rfl) (by omega)) ?_
        refine WL.y rfl (Y.move) ?_
        refine WL.y rfl (Y.move) ?_
        refine WL.y rfl (Y.dT (Y.nei rfl rfl) (by omega)) ?_
        refine WL.y rfl (Y.pickT rfl) ?_
        refine WL.y rfl (Y.move) ?_
        refine WL.y rfl (Y.move) ?_
        refine WL.y rfl (Y.dF (Y.nei rfl rfl) (by omega)) ?_
        refine WL.y rfl (Y.pickT rfl) ?_
        refine WL.y rfl (Y.assign) ?_
        refine WL.nil ?_
        refine WC.ret (endQ.one (.inr rfl) ?_)
        exact ⟨congrArg Value.bool e.symm, rfl⟩
      · have e : selfR r = true := decide_eq_true (by omega)
        refine Ret.of (n := 13) (rs := #[.tmp 2]) Tryd.func24 rfl rfl rfl (by simp) ?_
        refine WC.seqR rfl ?_
        refine WL.y rfl (Y.assign) ?_
        refine WL.nil ?_
        refine WC.seqR rfl ?_
        refine WL.y rfl (Y.move) ?_
        refine WL.y rfl (Y.dT (Y.geq rfl rfl) (by omega)) ?_
        refine WL.y rfl (Y.move) ?_
        refine WL.y rfl (Y.move) ?_
        refine WL.y rfl (Y.dT (Y.nei rfl rfl) (by omega)) ?_
        refine WL.y rfl (Y.pickT rfl) ?_
        refine WL.y rfl (Y.move) ?_
        refine WL.y rfl (Y.move) ?_
        refine WL.y rfl (Y.dT (Y.nei rfl rfl) (by omega)) ?_
        refine WL.y rfl (Y.pickT rfl) ?_
        refine WL.y rfl (Y.assign) ?_
        refine WL.nil ?_
        refine WC.ret (endQ.one (.inr rfl) ?_)
        exact ⟨congrArg Value.bool e.symm, rfl⟩
  · have e : selfR r = false := decide_eq_false (by omega)
    refine Ret.of (n := 13) (rs := #[.tmp 2]) Tryd.func24 rfl rfl rfl (by simp) ?_
    refine WC.seqR rfl ?_
    refine WL.y rfl (Y.assign) ?_
    refine WL.nil ?_
    refine WC.seqR rfl ?_
    refine WL.y rfl (Y.move) ?_
    refine WL.y rfl (Y.dF (Y.geq rfl rfl) (by omega)) ?_
    refine WL.y rfl (Y.move) ?_
    refine WL.off rfl ?_
    refine WL.off rfl ?_
    refine WL.y rfl (Y.pickF rfl) ?_
    refine WL.y rfl (Y.move) ?_
    refine WL.off rfl ?_
    refine WL.off rfl ?_
    refine WL.y rfl (Y.pickF rfl) ?_
    refine WL.y rfl (Y.assign) ?_
    refine WL.nil ?_
    refine WC.ret (endQ.one (.inr rfl) ?_)
    exact ⟨congrArg Value.bool e.symm, rfl⟩
end Go.Proofs.YtgdemkchfemmpaaDoor
