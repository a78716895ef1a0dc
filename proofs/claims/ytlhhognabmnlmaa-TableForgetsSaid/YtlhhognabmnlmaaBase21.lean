/-
  Words of 64 bits.
-/
import Derived.Test.YtlhhognabmnlmaaBase20
namespace Go.Cx
set_option linter.unusedVariables false
open Go Go.RowKit
section
variable {P : Program} {f : Fr} {w : World} {d : Option Tmp} {ty : TypeId} {pos : String} {aft : Array Edge} {g : Option (Nat × Bool)} {x y : Operand} {xt yt : TypeId}
abbrev u64w (r : BitVec 64) : Value := .int .u64 (r.toNat : Int)
theorem ofInt_toNat64 (r : BitVec 64) : BitVec.ofInt 64 (r.toNat : Int) = r := by
  apply BitVec.eq_of_toNat_eq
  rw [BitVec.toNat_ofInt]
  have := r.isLt
  omega
theorem wrap_bv64 (r : BitVec 64) : IntKind.u64.wrap (r.toNat : Int) = (r.toNat : Int) := by
  have := r.isLt
  exact wrap_id (k := .u64) ⟨by simp [IntKind.min, IntKind.signed], by simp [IntKind.max, IntKind.signed, IntKind.bits]; omega⟩
theorem Y.xorU64 {a b : BitVec 64} (hx : ev f x = u64w a) (hy : ev f y = u64w b) : Y P ⟨d, .binOp .xor xt x y yt, ty, pos, aft, g⟩ f w (u64w (a ^^^ b)) := by
  refine Y.bin_of hx hy (by simp [eqGuard]) ?_
  show (pure (Value.int .u64 (IntKind.u64.wrap ((BitVec.ofInt 64 (a.toNat : Int) ^^^ BitVec.ofInt 64 (b.toNat : Int)).toNat))) : Sem Value) = _
  rw [ofInt_toNat64, ofInt_toNat64, wrap_bv64]
theorem Y.andU64 {a b : BitVec 64} (hx : ev f x = u64w a) (hy : ev f y = u64w b) : Y P ⟨d, .binOp .and xt x y yt, ty, pos, aft, g⟩ f w (u64w (a &&& b)) := by
  refine Y.bin_of hx hy (by simp [eqGuard]) ?_
  show (pure (Value.int .u64 (IntKind.u64.wrap ((BitVec.ofInt 64 (a.toNat : Int) &&& BitVec.ofInt 64 (b.toNat : Int)).toNat))) : Sem Value) = _
  rw [ofInt_toNat64, ofInt_toNat64, wrap_bv64]
theorem Y.shrU64 {a : BitVec 64} {n : Nat} {k : IntKind} (hx : ev f x = u64w a) (hy : ev f y = .int k (n : Int)) : Y P ⟨d, .binOp .shr xt x y yt, ty, pos, aft, g⟩ f w (u64w (a >>> n)) := by
  have h0 : ¬ ((n : Int) < 0) := by omega
  have h1 : ((a.toNat : Int).fdiv (2 ^ min n 64)) = ((a >>> n).toNat : Int) := by
    rw [BitVec.toNat_ushiftRight, Nat.shiftRight_eq_div_pow]
    have hlt := a.isLt
    rcases Nat.le_total n 64 with h | h
    · rw [Nat.min_eq_left h, Int.fdiv_eq_ediv_of_nonneg _ (by exact Int.pow_nonneg (by omega))]
      norm_cast
    · rw [Nat.min_eq_right h, Int.fdiv_eq_ediv_of_nonneg _ (by decide)]
      have e1 : a.toNat / 2 ^ n = 0 := Nat.div_eq_of_lt (Nat.lt_of_lt_of_le hlt (Nat.pow_le_pow_right (by omega) h))
      rw [e1]
      have e2 : (a.toNat : Int) / 2 ^ 64 = 0 := Int.ediv_eq_zero_of_lt (by omega) (by exact_mod_cast hlt)
      rw [e2]; rfl
  refine Y.bin_of hx hy (by simp [eqGuard]) ?_
  show Op.shift .shr .u64 (a.toNat : Int) k (n : Int) = _
  unfold Op.shift
  rw [if_neg h0]
  show (pure (Value.int .u64 ((a.toNat : Int).fdiv (2 ^ min n 64))) : Sem Value) = _
  rw [h1]
theorem Y.shlU64 {a : BitVec 64} {n : Nat} {k : IntKind} (hx : ev f x = u64w a) (hy : ev f y = .int k (n : Int)) (hn : n ≤ 64) : Y P ⟨d, .binOp .shl xt x y yt, ty, pos, aft, g⟩ f w (u64w (a <<< n)) := by
  have h0 : ¬ ((n : Int) < 0) := by omega
  have h1 : IntKind.u64.wrap ((a.toNat : Int) * 2 ^ min n 64) = ((a <<< n).toNat : Int) := by
    rw [Nat.min_eq_left hn, BitVec.toNat_shiftLeft, Nat.shiftLeft_eq]
    simp only [IntKind.wrap, IntKind.signed, IntKind.bits, Bool.false_and, Bool.false_eq_true, if_false]
    norm_cast
  refine Y.bin_of hx hy (by simp [eqGuard]) ?_
  show Op.shift .shl .u64 (a.toNat : Int) k (n : Int) = _
  unfold Op.shift
  rw [if_neg h0]
  show (pure (Value.int .u64 (IntKind.u64.wrap ((a.toNat : Int) * 2 ^ min n 64))) : Sem Value) = _
  rw [h1]
end
end Go.Cx
