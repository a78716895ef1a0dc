/-
  utf: digits, escapes of four digits, the letters of escapes: what they are, and that the code finds just these.
-/
import Derived.Test.YtgdemkchfemmpaaDoorUtf1
import Derived.Test.YtgdemkchfemmpaaDoorBase14
namespace Go.Proofs.YtgdemkchfemmpaaDoor
open Go Go.RowKit Go.Cx
set_option linter.unusedVariables false
/-- a digit to the base 16 -/
def dig (c : Nat) : Option Nat := if 48 ≤ c ∧ c < 58 then some (c - 48) else if 97 ≤ c ∧ c < 103 then some (c - 87) else if 65 ≤ c ∧ c < 71 then some (c - 55) else none
theorem dig_lt {c d : Nat} (h : dig c = some d) : d < 16 := by
  unfold dig at h
  split at h
  · cases h; omega
  · split at h
    · cases h; omega
    · split at h
      · cases h; omega
      · cases h
/-- the number of the first k digits behind the first two bytes -/
def hexF (l : List UInt8) : Nat → Option Nat
  | 0 => some 0
  | k + 1 => match hexF l k with
    | none => none
    | some n => match dig (bt l (k + 2)) with
      | none => none
      | some d => some (16 * n + d)
theorem hexF_lt (l : List UInt8) : ∀ k n, hexF l k = some n → n < 16 ^ k
  | 0, n, h => by cases h; decide
  | k + 1, n, h => by
    unfold hexF at h
    split at h
    · cases h
    · rename_i m hm
      have := hexF_lt l k m hm
      split at h
      · cases h
      · rename_i d hd
        have := dig_lt hd
        cases h
        rw [Nat.pow_succ]
        omega
theorem hexF_none (l : List UInt8) {k : Nat} (h : hexF l k = none) : ∀ j, hexF l (k + j) = none
  | 0 => h
  | j + 1 => by
    have := hexF_none l h j
    show (match hexF l (k + j) with | none => none | some n => _) = none
    rw [this]
/-- the number of an escape 'u' that l begins with -/
def hexL (l : List UInt8) : Option Nat := if 6 ≤ l.length ∧ bt l 0 = 92 ∧ bt l 1 = 117 then hexF l 4 else none
theorem hexL_lt {l : List UInt8} {n : Nat} (h : hexL l = some n) : n < 65536 := by
  unfold hexL at h
  split at h
  · exact hexF_lt l 4 n h
  · cases h
theorem hexL_len {l : List UInt8} {n : Nat} (h : hexL l = some n) : 6 ≤ l.length ∧ bt l 0 = 92 := by
  unfold hexL at h
  split at h
  · rename_i c; exact ⟨c.1, c.2.1⟩
  · cases h
def digV (c : Nat) : Value := .tuple #[.int .i32 ((dig c).getD 0 : Nat), .bool (dig c).isSome]
theorem digit_ret (w : World) (c : Nat) (hc : c < 256) : Ret Tryd.prog 46 [.int .u8 (c : Int)].toArray w fun v w' => v = digV c ∧ w = w' := by
  have hv : ∀ {z : Int} {d : Nat}, dig c = some d → (d : Int) = z → Value.tuple #[.int .i32 z, .bool true] = digV c := fun e e2 => by unfold digV; rw [e]; subst e2; rfl
  have hn : dig c = none → Value.tuple #[.int .i32 0, .bool false] = digV c := fun e => by unfold digV; rw [e]; rfl
  refine Ret.of (n := 36) (rs := #[.tmp 2, .tmp 3]) Tryd.func46 rfl rfl rfl (by simp) ?_
  refine WC.seqR rfl ?_
  refine WL.y rfl (Y.assign) ?_
  refine WL.y rfl (Y.assign) ?_
  refine WL.nil ?_
  refine WC.seq ?_
  by_cases h1 : 48 ≤ c
  · by_cases h2 : c < 58
    · have e : dig c = some (c - 48) := by unfold dig; rw [if_pos ⟨h1, h2⟩]
      refine WC.block ?_
      refine WC.seqR rfl ?_
      refine WL.y rfl (Y.move) ?_
      refine WL.y rfl (Y.dT (Y.leq rfl rfl) (by omega)) ?_
      refine WL.y rfl (Y.move) ?_
      refine WL.y rfl (Y.move) ?_
      refine WL.y rfl (Y.dT (Y.leq rfl rfl) (by omega)) ?_
      refine WL.y rfl (Y.pickT rfl) ?_
      refine WL.y rfl (Y.assign) ?_
      refine WL.nil ?_
      refine WC.condT (rfl) ?_
      refine WC.seqR rfl ?_
      refine WL.y rfl (Y.move) ?_
      refine WL.y rfl (Y.subN8 rfl rfl (by omega)) ?_
      refine WL.y rfl (Y.conviR Tryd.underlying5 Tryd.underlying21 rfl (by simp only [IntKind.min, IntKind.max, IntKind.signed, IntKind.bits]; omega)) ?_
      refine WL.y rfl (Y.assign) ?_
      refine WL.y rfl (Y.assign) ?_
      refine WL.nil ?_
      refine WC.ret (inBlockQ.ret (thenQ.ret (endQ.two (.inr rfl) ?_)))
      exact ⟨hv e (by omega), rfl⟩
    · by_cases h3 : 97 ≤ c
      · by_cases h4 : c < 103
        · have e : dig c = some (c - 87) := by unfold dig; rw [if_neg (by omega), if_pos ⟨h3, h4⟩]
          refine WC.block ?_
          refine WC.seqR rfl ?_
          refine WL.y rfl (Y.move) ?_
          refine WL.y rfl (Y.dT (Y.leq rfl rfl) (by omega)) ?_
          refine WL.y rfl (Y.move) ?_
          refine WL.y rfl (Y.move) ?_
          refine WL.y rfl (Y.dF (Y.leq rfl rfl) (by omega)) ?_
          refine WL.y rfl (Y.pickT rfl) ?_
          refine WL.y rfl (Y.assign) ?_
          refine WL.nil ?_
          refine WC.condF (rfl) ?_
          refine WC.seqR rfl ?_
          refine WL.y rfl (Y.move) ?_
          refine WL.y rfl (Y.dT (Y.leq rfl rfl) (by omega)) ?_
          refine WL.y rfl (Y.move) ?_
          refine WL.y rfl (Y.move) ?_
          refine WL.y rfl (Y.dT (Y.leq rfl rfl) (by omega)) ?_
          refine WL.y rfl (Y.pickT rfl) ?_
          refine WL.y rfl (Y.assign) ?_
          refine WL.nil ?_
          refine WC.condT (rfl) ?_
          refine WC.seqR rfl ?_
          refine WL.y rfl (Y.move) ?_
          refine WL.y rfl (Y.subN8 rfl rfl (by omega)) ?_
          refine WL.y rfl (Y.conviR Tryd.underlying5 Tryd.underlying21 rfl (by simp only [IntKind.min, IntKind.max, IntKind.signed, IntKind.bits]; omega)) ?_
          refine WL.y rfl (Y.addI32 rfl rfl (by omega)) ?_
          refine WL.y rfl (Y.assign) ?_
          refine WL.y rfl (Y.assign) ?_
          refine WL.nil ?_
          refine WC.ret (inBlockQ.ret (thenQ.ret (endQ.two (.inr rfl) ?_)))
          exact ⟨hv e (by omega), rfl⟩
        · have e : dig c = none := by unfold dig; rw [if_neg (by omega), if_neg (by omega), if_neg (by omega)]
          refine WC.block ?_
          refine WC.seqR rfl ?_
          refine WL.y rfl (Y.move) ?_
          refine WL.y rfl (Y.dT (Y.leq rfl rfl) (by omega)) ?_
          refine WL.y rfl (Y.move) ?_
          refine WL.y rfl (Y.move) ?_
          refine WL.y rfl (Y.dF (Y.leq rfl rfl) (by omega)) ?_
          refine WL.y rfl (Y.pickT rfl) ?_
          refine WL.y rfl (Y.assign) ?_
          refine WL.nil ?_
          refine WC.condF (rfl) ?_
          refine WC.seqR rfl ?_
          refine WL.y rfl (Y.move) ?_
          refine WL.y rfl (Y.dT (Y.leq rfl rfl) (by omega)) ?_
          refine WL.y rfl (Y.move) ?_
          refine WL.y rfl (Y.move) ?_
          refine WL.y rfl (Y.dF (Y.leq rfl rfl) (by omega)) ?_
          refine WL.y rfl (Y.pickT rfl) ?_
          refine WL.y rfl (Y.assign) ?_
          refine WL.nil ?_
          refine WC.condF (rfl) ?_
          refine WC.seqR rfl ?_
          refine WL.y rfl (Y.move) ?_
          refine WL.y rfl (Y.dT (Y.leq rfl rfl) (by omega)) ?_
          refine WL.y rfl (Y.move) ?_
          refine WL.y rfl (Y.move) ?_
          refine WL.y rfl (Y.dF (Y.leq rfl rfl) (by omega)) ?_
          refine WL.y rfl (Y.pickT rfl) ?_
          refine WL.y rfl (Y.assign) ?_
          refine WL.nil ?_
          refine WC.condF (rfl) ?_
          refine WC.skip (inBlockQ.normal (thenQ.normal ?_))
          refine WC.seqR rfl ?_
          refine WL.y rfl (Y.assign) ?_
          refine WL.y rfl (Y.assign) ?_
          refine WL.nil ?_
          refine WC.ret (endQ.two (.inr rfl) ?_)
          exact ⟨hn e, rfl⟩
      · by_cases h4 : 65 ≤ c
        · by_cases h5 : c < 71
          · have e : dig c = some (c - 55) := by unfold dig; rw [if_neg (by omega), if_neg (by omega), if_pos ⟨h4, h5⟩]
            refine WC.block ?_
            refine WC.seqR rfl ?_
            refine WL.y rfl (Y.move) ?_
            refine WL.y rfl (Y.dT (Y.leq rfl rfl) (by omega)) ?_
            refine WL.y rfl (Y.move) ?_
            refine WL.y rfl (Y.move) ?_
            refine WL.y rfl (Y.dF (Y.leq rfl rfl) (by omega)) ?_
            refine WL.y rfl (Y.pickT rfl) ?_
            refine WL.y rfl (Y.assign) ?_
            refine WL.nil ?_
            refine WC.condF (rfl) ?_
            refine WC.seqR rfl ?_
            refine WL.y rfl (Y.move) ?_
            refine WL.y rfl (Y.dF (Y.leq rfl rfl) (by omega)) ?_
            refine WL.y rfl (Y.move) ?_
            refine WL.off rfl ?_
            refine WL.off rfl ?_
            refine WL.y rfl (Y.pickF rfl) ?_
            refine WL.y rfl (Y.assign) ?_
            refine WL.nil ?_
            refine WC.condF (rfl) ?_
            refine WC.seqR rfl ?_
            refine WL.y rfl (Y.move) ?_
            refine WL.y rfl (Y.dT (Y.leq rfl rfl) (by omega)) ?_
            refine WL.y rfl (Y.move) ?_
            refine WL.y rfl (Y.move) ?_
            refine WL.y rfl (Y.dT (Y.leq rfl rfl) (by omega)) ?_
            refine WL.y rfl (Y.pickT rfl) ?_
            refine WL.y rfl (Y.assign) ?_
            refine WL.nil ?_
            refine WC.condT (rfl) ?_
            refine WC.seqR rfl ?_
            refine WL.y rfl (Y.move) ?_
            refine WL.y rfl (Y.subN8 rfl rfl (by omega)) ?_
            refine WL.y rfl (Y.conviR Tryd.underlying5 Tryd.underlying21 rfl (by simp only [IntKind.min, IntKind.max, IntKind.signed, IntKind.bits]; omega)) ?_
            refine WL.y rfl (Y.addI32 rfl rfl (by omega)) ?_
            refine WL.y rfl (Y.assign) ?_
            refine WL.y rfl (Y.assign) ?_
            refine WL.nil ?_
            refine WC.ret (inBlockQ.ret (thenQ.ret (endQ.two (.inr rfl) ?_)))
            exact ⟨hv e (by omega), rfl⟩
          · have e : dig c = none := by unfold dig; rw [if_neg (by omega), if_neg (by omega), if_neg (by omega)]
            refine WC.block ?_
            refine WC.seqR rfl ?_
            refine WL.y rfl (Y.move) ?_
            refine WL.y rfl (Y.dT (Y.leq rfl rfl) (by omega)) ?_
            refine WL.y rfl (Y.move) ?_
            refine WL.y rfl (Y.move) ?_
            refine WL.y rfl (Y.dF (Y.leq rfl rfl) (by omega)) ?_
            refine WL.y rfl (Y.pickT rfl) ?_
            refine WL.y rfl (Y.assign) ?_
            refine WL.nil ?_
            refine WC.condF (rfl) ?_
            refine WC.seqR rfl ?_
            refine WL.y rfl (Y.move) ?_
            refine WL.y rfl (Y.dF (Y.leq rfl rfl) (by omega)) ?_
            refine WL.y rfl (Y.move) ?_
            refine WL.off rfl ?_
            refine WL.off rfl ?_
            refine WL.y rfl (Y.pickF rfl) ?_
            refine WL.y rfl (Y.assign) ?_
            refine WL.nil ?_
            refine WC.condF (rfl) ?_
            refine WC.seqR rfl ?_
            refine WL.y rfl (Y.move) ?_
            refine WL.y rfl (Y.dT (Y.leq rfl rfl) (by omega)) ?_
            refine WL.y rfl (Y.move) ?_
            refine WL.y rfl (Y.move) ?_
            refine WL.y rfl (Y.dF (Y.leq rfl rfl) (by omega)) ?_
            refine WL.y rfl (Y.pickT rfl) ?_
            refine WL.y rfl (Y.assign) ?_
            refine WL.nil ?_
            refine WC.condF (rfl) ?_
            refine WC.skip (inBlockQ.normal (thenQ.normal ?_))
            refine WC.seqR rfl ?_
            refine WL.y rfl (Y.assign) ?_
            refine WL.y rfl (Y.assign) ?_
            refine WL.nil ?_
            refine WC.ret (endQ.two (.inr rfl) ?_)
            exact ⟨hn e, rfl⟩
        · have e : dig c = none := by unfold dig; rw [if_neg (by omega), if_neg (by omega), if_neg (by omega)]
          refine WC.block ?_
          refine WC.seqR rfl ?_
          refine WL.y rfl (Y.move) ?_
          refine WL.y rfl (Y.dT (Y.leq rfl rfl) (by omega)) ?_
          refine WL.y rfl (Y.move) ?_
          refine WL.y rfl (Y.move) ?_
          refine WL.y rfl (Y.dF (Y.leq rfl rfl) (by omega)) ?_
          refine WL.y rfl (Y.pickT rfl) ?_
          refine WL.y rfl (Y.assign) ?_
          refine WL.nil ?_
          refine WC.condF (rfl) ?_
          refine WC.seqR rfl ?_
          refine WL.y rfl (Y.move) ?_
          refine WL.y rfl (Y.dF (Y.leq rfl rfl) (by omega)) ?_
          refine WL.y rfl (Y.move) ?_
          refine WL.off rfl ?_
          refine WL.off rfl ?_
          refine WL.y rfl (Y.pickF rfl) ?_
          refine WL.y rfl (Y.assign) ?_
          refine WL.nil ?_
          refine WC.condF (rfl) ?_
          refine WC.seqR rfl ?_
          refine WL.y rfl (Y.move) ?_
          refine WL.y rfl (Y.dF (Y.leq rfl rfl) (by omega)) ?_
          refine WL.y rfl (Y.move) ?_
          refine WL.off rfl ?_
          refine WL.off rfl ?_
          refine WL.y rfl (Y.pickF rfl) ?_
          refine WL.y rfl (Y.assign) ?_
          refine WL.nil ?_
          refine WC.condF (rfl) ?_
          refine WC.skip (inBlockQ.normal (thenQ.normal ?_))
          refine WC.seqR rfl ?_
          refine WL.y rfl (Y.assign) ?_
          refine WL.y rfl (Y.assign) ?_
          refine WL.nil ?_
          refine WC.ret (endQ.two (.inr rfl) ?_)
          exact ⟨hn e, rfl⟩
  · have e : dig c = none := by unfold dig; rw [if_neg (by omega), if_neg (by omega), if_neg (by omega)]
    refine WC.block ?_
    refine WC.seqR rfl ?_
    refine WL.y rfl (Y.move) ?_
    refine WL.y rfl (Y.dF (Y.leq rfl rfl) (by omega)) ?_
    refine WL.y rfl (Y.move) ?_
    refine WL.off rfl ?_
    refine WL.off rfl ?_
    refine WL.y rfl (Y.pickF rfl) ?_
    refine WL.y rfl (Y.assign) ?_
    refine WL.nil ?_
    refine WC.condF (rfl) ?_
    refine WC.seqR rfl ?_
    refine WL.y rfl (Y.move) ?_
    refine WL.y rfl (Y.dF (Y.leq rfl rfl) (by omega)) ?_
    refine WL.y rfl (Y.move) ?_
    refine WL.off rfl ?_
    refine WL.off rfl ?_
    refine WL.y rfl (Y.pickF rfl) ?_
    refine WL.y rfl (Y.assign) ?_
    refine WL.nil ?_
    refine WC.condF (rfl) ?_
    refine WC.seqR rfl ?_
    refine WL.y rfl (Y.move) ?_
    refine WL.y rfl (Y.dF (Y.leq rfl rfl) (by omega)) ?_
    refine WL.y rfl (Y.move) ?_
    refine WL.off rfl ?_
    refine WL.off rfl ?_
    refine WL.y rfl (Y.pickF rfl) ?_
    refine WL.y rfl (Y.assign) ?_
    refine WL.nil ?_
    refine WC.condF (rfl) ?_
    refine WC.skip (inBlockQ.normal (thenQ.normal ?_))
    refine WC.seqR rfl ?_
    refine WL.y rfl (Y.assign) ?_
    refine WL.y rfl (Y.assign) ?_
    refine WL.nil ?_
    refine WC.ret (endQ.two (.inr rfl) ?_)
    exact ⟨hn e, rfl⟩
end Go.Proofs.YtgdemkchfemmpaaDoor
