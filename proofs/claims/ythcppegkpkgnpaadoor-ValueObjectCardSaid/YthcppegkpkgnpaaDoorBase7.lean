/-
  Fields, structs built, strings.
-/
import Derived.Test.YthcppegkpkgnpaaDoorBase6
import Derived.Laws.Tables
namespace Go.Cx
set_option linter.unusedVariables false
open Go Go.RowKit
variable {P : Program} {f : Fr} {w : World} {d : Option Tmp} {ty : TypeId} {pos : String} {aft : Array Edge} {g : Option (Nat × Bool)} {x y z c : Operand} {t e at' : TypeId}
/-- field k of struct type s lies at off and has type t -/
def FI (P : Program) (s k off : Nat) (t : TypeId) : Prop := ∃ fs fl, P.underlying s = some (.struct fs) ∧ fs[k]? = some fl ∧ fl.offset = off ∧ fl.type = t
theorem Y.fieldAddr {s k off b o j : Nat} {zv : Value} {sz by' : Nat} (h : FI P s k off t) (hi : TI P t zv sz by') (hs : 0 < sz) (hx : ev f x = .pointer (some ⟨b, o, none⟩)) (hj : o + off = j) (w' : World) :
    Y P ⟨d, .fieldAddr s x k, ty, pos, aft, g⟩ f w' (.pointer (some ⟨b, j, none⟩)) := by
  obtain ⟨fs, fl, hu, hk, rfl, rfl⟩ := h
  subst hj
  have h0 : sz ≠ 0 := by omega
  simp [Y, execOp, Instr.fieldAt, hx, run_underlying hu, hk, Instr.sureAddr, fieldPlace, run_sizeOf hi, h0, add_addr]
theorem Y.field1 {s k off : Nat} {ds : TypeDesc} {cs : Array Value} {v : Value} (h : FI P s k off t) (ht : P.underlying t = some ds) (ha : aggD ds = false) (hx : ev f x = .agg cs) (hv : cs[off]? = some v) (w' : World) :
    Y P ⟨d, .field s x k, ty, pos, aft, g⟩ f w' v := by
  obtain ⟨fs, fl, hu, hk, rfl, rfl⟩ := h
  simp [Y, execOp, Instr.field, hx, run_underlying hu, hk, asAgg, part, run_isAgg ht, ha, hv]
theorem Y.build {parts : Array (Nat × Operand)} {cells : Array Value} (h : P.built t (parts.toList.map fun p => (p.1, ev f p.2)) = some cells) (w' : World) : Y P ⟨d, .build t parts, ty, pos, aft, g⟩ f w' (.agg cells) := by
  have h2 : P.built t (parts.map fun p => (p.1, ev f p.2)).toList = some cells := by simpa using h
  have := run_build w' t (parts.map fun p => (p.1, ev f p.2)) cells h2
  simp [Y, execOp, this]
/-! Strings, as lists of bytes -/
def strv (l : List UInt8) : Value := .string ⟨l.toArray⟩
theorem strv_of (s : ByteArray) : Value.string s = strv s.data.toList := by
  cases s; simp [strv]
theorem strv_inj {a b : List UInt8} (h : strv a = strv b) : a = b := by
  have := Value.string.inj h
  have h2 := congrArg ByteArray.data this
  simpa using h2
theorem strv_one (l : List UInt8) : One (strv l) = true := rfl
theorem ba_toList (l : List UInt8) : (⟨l.toArray⟩ : ByteArray).toList = l := by simp
theorem ba_size (l : List UInt8) : (⟨l.toArray⟩ : ByteArray).size = l.length := by simp [ByteArray.size]
theorem ba_append (a b : List UInt8) : (⟨a.toArray⟩ : ByteArray) ++ ⟨b.toArray⟩ = ⟨(a ++ b).toArray⟩ := by
  apply ByteArray.ext
  rw [ByteArray.data_append]
  simp
theorem ba_extract (l : List UInt8) (i j : Nat) : (⟨l.toArray⟩ : ByteArray).extract i j = ⟨((l.drop i).take (j - i)).toArray⟩ := by
  apply ByteArray.ext
  rw [ByteArray.data_extract]
  simp
theorem ba_get (l : List UInt8) (i : Nat) (h : i < l.length) : (⟨l.toArray⟩ : ByteArray)[i]? = some (l.getD i 0) := by
  have h1 : i < (⟨l.toArray⟩ : ByteArray).size := by rw [ba_size]; exact h
  rw [getElem?_pos _ i h1]
  congr 1
  simp [h]
  rfl
theorem Y.eqS {a b : List UInt8} {xt yt : TypeId} (hx : ev f x = strv a) (hy : ev f y = strv b) : Y P ⟨d, .binOp .eql xt x y yt, ty, pos, aft, g⟩ f w (.bool (decide (a = b))) := by
  have := Y.eqs (P := P) (d := d) (ty := ty) (pos := pos) (aft := aft) (g := g) (w := w) (xt := xt) (yt := yt) hx hy
  rw [ba_toList, ba_toList] at this
  rwa [show (a == b) = decide (a = b) by rw [Bool.eq_iff_iff]; simp] at this
theorem Y.neS {a b : List UInt8} {xt yt : TypeId} (hx : ev f x = strv a) (hy : ev f y = strv b) : Y P ⟨d, .binOp .neq xt x y yt, ty, pos, aft, g⟩ f w (.bool (decide (¬ a = b))) := by
  have := Y.nes (P := P) (d := d) (ty := ty) (pos := pos) (aft := aft) (g := g) (w := w) (xt := xt) (yt := yt) hx hy
  rw [ba_toList, ba_toList] at this
  rwa [show (!(a == b)) = decide (¬ a = b) by rw [Bool.eq_iff_iff]; simp] at this
/-- strings in their order -/
def slt (a b : List UInt8) : Bool := Op.bytesLess a b
theorem Y.ltS {a b : List UInt8} {xt yt : TypeId} (hx : ev f x = strv a) (hy : ev f y = strv b) : Y P ⟨d, .binOp .lss xt x y yt, ty, pos, aft, g⟩ f w (.bool (slt a b)) := by
  simp [Y, execOp, hx, hy, eqGuard, binOp, Op.stringOp, strv, slt]
theorem slt_total : ∀ (a b : List UInt8), (slt a b || a == b) = !slt b a
  | [], [] => rfl
  | [], _ :: _ => rfl
  | _ :: _, [] => rfl
  | a :: x, b :: y => by
    have ih := slt_total x y
    unfold slt at *
    unfold Op.bytesLess
    by_cases h : a = b
    · subst h
      simpa using ih
    · have h1 : a < b ∨ b < a := by
        rcases Nat.lt_trichotomy a.toNat b.toNat with h2 | h2 | h2
        · exact .inl h2
        · exact absurd (UInt8.toNat_inj.mp h2) h
        · exact .inr h2
      have h3 : ¬ b = a := fun e => h e.symm
      rcases h1 with h1 | h1
      · have h2 : ¬ b < a := fun h2 => by
          have h4 : a.toNat < b.toNat := h1
          have h5 : b.toNat < a.toNat := h2
          omega
        simp [h1, h2, h3]
      · have h2 : ¬ a < b := fun h2 => by
          have h4 : b.toNat < a.toNat := h1
          have h5 : a.toNat < b.toNat := h2
          omega
        simp [h, h1, h2]
theorem Y.leS {a b : List UInt8} {xt yt : TypeId} (hx : ev f x = strv a) (hy : ev f y = strv b) : Y P ⟨d, .binOp .leq xt x y yt, ty, pos, aft, g⟩ f w (.bool (!slt b a)) := by
  have := slt_total a b
  unfold slt at this
  simp [Y, execOp, hx, hy, eqGuard, binOp, Op.stringOp, strv, slt, this]
theorem Y.gtS {a b : List UInt8} {xt yt : TypeId} (hx : ev f x = strv a) (hy : ev f y = strv b) : Y P ⟨d, .binOp .gtr xt x y yt, ty, pos, aft, g⟩ f w (.bool (slt b a)) := by
  have := slt_total a b
  unfold slt at this
  simp [Y, execOp, hx, hy, eqGuard, binOp, Op.stringOp, strv, slt, this]
theorem Y.geS {a b : List UInt8} {xt yt : TypeId} (hx : ev f x = strv a) (hy : ev f y = strv b) : Y P ⟨d, .binOp .geq xt x y yt, ty, pos, aft, g⟩ f w (.bool (!slt a b)) := by
  simp [Y, execOp, hx, hy, eqGuard, binOp, Op.stringOp, strv, slt]
theorem Y.catS {a b : List UInt8} {xt yt : TypeId} (hx : ev f x = strv a) (hy : ev f y = strv b) (h : a.length + b.length ≤ 9223372036854775807) : Y P ⟨d, .binOp .add xt x y yt, ty, pos, aft, g⟩ f w (strv (a ++ b)) := by
  have e : ¬ (((a.length + b.length : Nat) : Int) > IntKind.i64.max) := by
    have e2 : IntKind.i64.max = 9223372036854775807 := rfl
    omega
  simp only [strv] at hx hy
  simp only [Y, execOp, hx, hy, eqGuard, binOp, Op.stringOp, ba_size, Sem.run_bind, Sem.run_pure, if_neg e, ba_append]
  rfl
theorem Y.lenS {a : List UInt8} {at' : TypeId} (ht : P.underlying at' = some .string) (hx : ev f x = strv a) (w' : World) :
    Y P ⟨d, .call ⟨.builtin .len, #[x], #[at']⟩, ty, pos, aft, g⟩ f w' (.int .i64 a.length) := by
  simp only [strv] at hx
  simp [Y, execOp, resolve, invoke, builtin, Builtin.len_, hx, run_underlying ht, goInt, ba_size]
theorem Y.idxS {a : List UInt8} {xt : TypeId} {ki : IntKind} {i : Int} (ht : P.underlying xt = some .string) (hx : ev f x = strv a) (hy : ev f y = .int ki i) (h0 : 0 ≤ i) (h1 : i < a.length) (w' : World) :
    Y P ⟨d, .index xt x y, ty, pos, aft, g⟩ f w' (u8v (a.getD i.toNat 0)) := by
  simp only [strv] at hx
  have h2 := ba_get a i.toNat (by omega)
  simp only [Y, execOp, Instr.index, hx, hy, asIntOf, run_underlying ht, Sem.run_bind, Sem.run_pure, Result.andThen_ok, if_pos h0, h2]
theorem Y.sliceS {a : List UInt8} {xt : TypeId} {k1 k2 : IntKind} {lo hi : Nat} {ol oh : Option Operand} (ht : P.underlying xt = some .string) (hx : ev f x = strv a)
    (hlo : match ol with | some l => ev f l = .int k1 (lo : Int) | none => lo = 0) (hhi : match oh with | some l => ev f l = .int k2 (hi : Int) | none => hi = a.length) (h1 : lo ≤ hi) (h2 : hi ≤ a.length) (w' : World) :
    Y P ⟨d, .slice xt x ol oh none, ty, pos, aft, g⟩ f w' (strv ((a.drop lo).take (hi - lo))) := by
  simp only [strv] at hx
  have hb1 : ∀ (v : Value) (c : BoundsCode), v = .int k1 (lo : Int) → (Instr.sliceBound v hi c).run P w' = .ok lo w' := by
    intro v c e; subst e
    simp only [Instr.sliceBound, asIntOf, Sem.run_bind, Sem.run_pure, Result.andThen_ok]
    rw [if_pos ⟨by omega, by omega⟩]; rfl
  have hb2 : ∀ (v : Value) (c : BoundsCode), v = .int k2 (hi : Int) → (Instr.sliceBound v a.length c).run P w' = .ok hi w' := by
    intro v c e; subst e
    simp only [Instr.sliceBound, asIntOf, Sem.run_bind, Sem.run_pure, Result.andThen_ok]
    rw [if_pos ⟨by omega, by omega⟩]; rfl
  cases ol with
  | none =>
    simp only at hlo; subst hlo
    cases oh with
    | none =>
      simp only at hhi; subst hhi
      simp [Y, execOp, Instr.sliceAt, Instr.slice, Instr.sliceBounds, hx, run_underlying ht, strv]
    | some u =>
      simp only at hhi
      have := hb2 (ev f u) .sliceAlen hhi
      simp [Y, execOp, Instr.sliceAt, Instr.slice, Instr.sliceBounds, hx, run_underlying ht, ba_size, ba_extract, strv, this]
  | some l =>
    simp only at hlo
    cases oh with
    | none =>
      simp only at hhi; subst hhi
      have := hb1 (ev f l) .sliceB hlo
      simp [Y, execOp, Instr.sliceAt, Instr.slice, Instr.sliceBounds, hx, run_underlying ht, ba_size, ba_extract, strv, this]
    | some u =>
      simp only at hhi
      have h5 := hb1 (ev f l) .sliceB hlo
      have h6 := hb2 (ev f u) .sliceAlen hhi
      simp [Y, execOp, Instr.sliceAt, Instr.slice, Instr.sliceBounds, hx, run_underlying ht, ba_size, ba_extract, strv, h5, h6]
end Go.Cx
