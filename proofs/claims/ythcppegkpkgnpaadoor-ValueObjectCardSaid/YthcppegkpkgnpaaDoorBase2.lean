import Derived.Test.YthcppegkpkgnpaaDoorBase1
namespace Go.Cx
set_option linter.unusedVariables false
open Go Go.RowKit
variable {P : Program} {f : Fr} {w : World}

section pure
variable {d : Option Tmp} {ty : TypeId} {pos : String} {aft : Array Edge} {g : Option (Nat × Bool)} {x y c : Operand} {ty' : TypeId}
theorem Y.move : Y P ⟨d, .move x, ty, pos, aft, g⟩ f w (ev f x) := by simp [Y, execOp]
theorem Y.assign : Y P ⟨d, .assign x, ty, pos, aft, g⟩ f w (ev f x) := by simp [Y, execOp]
theorem Y.pick {b : Bool} (hc : ev f c = .bool b) : Y P ⟨d, .pick c x y, ty, pos, aft, g⟩ f w (if b then ev f x else ev f y) := by
  simp [Y, execOp, hc, asBool]
theorem Y.pickT (hc : ev f c = .bool true) : Y P ⟨d, .pick c x y, ty, pos, aft, g⟩ f w (ev f x) := Y.pick hc
theorem Y.pickF (hc : ev f c = .bool false) : Y P ⟨d, .pick c x y, ty, pos, aft, g⟩ f w (ev f y) := Y.pick hc
theorem Y.not {b : Bool} (hc : ev f x = .bool b) : Y P ⟨d, .unOp .not ty' x, ty, pos, aft, g⟩ f w (.bool (!b)) := by
  simp [Y, execOp, hc, Op.unary]
theorem Y.extract {vs : Array Value} {v : Value} {n : Nat} (hx : ev f x = .tuple vs) (hv : vs[n]? = some v) : Y P ⟨d, .extract x n, ty, pos, aft, g⟩ f w v := by
  simp [Y, execOp, hx, Instr.extract, hv]
theorem Y.makeFunc {fn : Fn} {a b : List Operand} : Y P ⟨d, .makeFunc fn a.toArray b.toArray, ty, pos, aft, g⟩ f w (.func fn (a.map (ev f)).toArray (b.map (ev f)).toArray) := by
  simp [Y, execOp, Instr.makeFunc]
section ints
variable {k : IntKind} {a b : Int} {xt yt : TypeId}
theorem Y.add (hx : ev f x = .int k a) (hy : ev f y = .int k b) : Y P ⟨d, .binOp .add xt x y yt, ty, pos, aft, g⟩ f w (.int k (k.wrap (a + b))) := by
  simp [Y, execOp, hx, hy, eqGuard, binOp, Op.intArith]
theorem Y.sub (hx : ev f x = .int k a) (hy : ev f y = .int k b) : Y P ⟨d, .binOp .sub xt x y yt, ty, pos, aft, g⟩ f w (.int k (k.wrap (a - b))) := by
  simp [Y, execOp, hx, hy, eqGuard, binOp, Op.intArith]
theorem Y.mul (hx : ev f x = .int k a) (hy : ev f y = .int k b) : Y P ⟨d, .binOp .mul xt x y yt, ty, pos, aft, g⟩ f w (.int k (k.wrap (a * b))) := by
  simp [Y, execOp, hx, hy, eqGuard, binOp, Op.intArith]
theorem wrap_id {k : IntKind} {n : Int} (h : k.min ≤ n ∧ n ≤ k.max) : k.wrap n = n := by
  have := h.1; have := h.2
  cases k <;> simp [IntKind.min, IntKind.max, IntKind.signed, IntKind.bits] at * <;> simp [IntKind.wrap, IntKind.signed, IntKind.bits] <;> (try split) <;> omega
theorem Y.addR (hx : ev f x = .int k a) (hy : ev f y = .int k b) (h : k.min ≤ a + b ∧ a + b ≤ k.max) : Y P ⟨d, .binOp .add xt x y yt, ty, pos, aft, g⟩ f w (.int k (a + b)) := by
  have := Y.add (P := P) (d := d) (ty := ty) (pos := pos) (aft := aft) (g := g) (xt := xt) (yt := yt) (w := w) hx hy
  rwa [wrap_id h] at this
theorem Y.subR (hx : ev f x = .int k a) (hy : ev f y = .int k b) (h : k.min ≤ a - b ∧ a - b ≤ k.max) : Y P ⟨d, .binOp .sub xt x y yt, ty, pos, aft, g⟩ f w (.int k (a - b)) := by
  have := Y.sub (P := P) (d := d) (ty := ty) (pos := pos) (aft := aft) (g := g) (xt := xt) (yt := yt) (w := w) hx hy
  rwa [wrap_id h] at this
theorem Y.mulR (hx : ev f x = .int k a) (hy : ev f y = .int k b) (h : k.min ≤ a * b ∧ a * b ≤ k.max) : Y P ⟨d, .binOp .mul xt x y yt, ty, pos, aft, g⟩ f w (.int k (a * b)) := by
  have := Y.mul (P := P) (d := d) (ty := ty) (pos := pos) (aft := aft) (g := g) (xt := xt) (yt := yt) (w := w) hx hy
  rwa [wrap_id h] at this
theorem Y.add64 (hx : ev f x = .int .i64 a) (hy : ev f y = .int .i64 b) (h : -9223372036854775808 ≤ a + b ∧ a + b ≤ 9223372036854775807) : Y P ⟨d, .binOp .add xt x y yt, ty, pos, aft, g⟩ f w (.int .i64 (a + b)) := Y.addR hx hy h
theorem Y.sub64 (hx : ev f x = .int .i64 a) (hy : ev f y = .int .i64 b) (h : -9223372036854775808 ≤ a - b ∧ a - b ≤ 9223372036854775807) : Y P ⟨d, .binOp .sub xt x y yt, ty, pos, aft, g⟩ f w (.int .i64 (a - b)) := Y.subR hx hy h
theorem Y.mul64 (hx : ev f x = .int .i64 a) (hy : ev f y = .int .i64 b) (h : -9223372036854775808 ≤ a * b ∧ a * b ≤ 9223372036854775807) : Y P ⟨d, .binOp .mul xt x y yt, ty, pos, aft, g⟩ f w (.int .i64 (a * b)) := Y.mulR hx hy h
theorem Y.addU64 (hx : ev f x = .int .u64 a) (hy : ev f y = .int .u64 b) (h : 0 ≤ a + b ∧ a + b ≤ 18446744073709551615) : Y P ⟨d, .binOp .add xt x y yt, ty, pos, aft, g⟩ f w (.int .u64 (a + b)) := Y.addR hx hy h
theorem Y.subU64 (hx : ev f x = .int .u64 a) (hy : ev f y = .int .u64 b) (h : 0 ≤ a - b ∧ a - b ≤ 18446744073709551615) : Y P ⟨d, .binOp .sub xt x y yt, ty, pos, aft, g⟩ f w (.int .u64 (a - b)) := Y.subR hx hy h
theorem Y.addU32 (hx : ev f x = .int .u32 a) (hy : ev f y = .int .u32 b) (h : 0 ≤ a + b ∧ a + b ≤ 4294967295) : Y P ⟨d, .binOp .add xt x y yt, ty, pos, aft, g⟩ f w (.int .u32 (a + b)) := Y.addR hx hy h
theorem Y.subU32 (hx : ev f x = .int .u32 a) (hy : ev f y = .int .u32 b) (h : 0 ≤ a - b ∧ a - b ≤ 4294967295) : Y P ⟨d, .binOp .sub xt x y yt, ty, pos, aft, g⟩ f w (.int .u32 (a - b)) := Y.subR hx hy h
theorem Y.quo (hx : ev f x = .int k a) (hy : ev f y = .int k b) (ha : 0 ≤ a ∧ a ≤ k.max) (hb : 0 < b) : Y P ⟨d, .binOp .quo xt x y yt, ty, pos, aft, g⟩ f w (.int k (a / b)) := by
  have hb0 : b ≠ 0 := by omega
  have e : a.tdiv b = a / b := Int.tdiv_eq_ediv_of_nonneg ha.1
  have h1 : 0 ≤ a / b := Int.ediv_nonneg ha.1 (by omega)
  have h2 : a / b ≤ a := Int.ediv_le_self b ha.1
  have hm : k.min ≤ 0 := by cases k <;> decide
  simp [Y, execOp, hx, hy, eqGuard, binOp, Op.intDiv, hb0, e, wrap_id (k := k) (n := a / b) ⟨by omega, by omega⟩]
theorem Y.quo64 (hx : ev f x = .int .i64 a) (hy : ev f y = .int .i64 b) (ha : 0 ≤ a ∧ a ≤ 9223372036854775807) (hb : 0 < b) : Y P ⟨d, .binOp .quo xt x y yt, ty, pos, aft, g⟩ f w (.int .i64 (a / b)) := Y.quo hx hy ha hb
theorem Y.quoU32 (hx : ev f x = .int .u32 a) (hy : ev f y = .int .u32 b) (ha : 0 ≤ a ∧ a ≤ 4294967295) (hb : 0 < b) : Y P ⟨d, .binOp .quo xt x y yt, ty, pos, aft, g⟩ f w (.int .u32 (a / b)) := Y.quo hx hy ha hb
theorem Y.quoU64 (hx : ev f x = .int .u64 a) (hy : ev f y = .int .u64 b) (ha : 0 ≤ a ∧ a ≤ 18446744073709551615) (hb : 0 < b) : Y P ⟨d, .binOp .quo xt x y yt, ty, pos, aft, g⟩ f w (.int .u64 (a / b)) := Y.quo hx hy ha hb
theorem Y.rem (hx : ev f x = .int k a) (hy : ev f y = .int k b) (ha : 0 ≤ a) (hb : 0 < b) : Y P ⟨d, .binOp .rem xt x y yt, ty, pos, aft, g⟩ f w (.int k (a % b)) := by
  have hb0 : b ≠ 0 := by omega
  have e : a.tmod b = a % b := Int.tmod_eq_emod_of_nonneg ha
  simp [Y, execOp, hx, hy, eqGuard, binOp, Op.intDiv, hb0, e]
theorem Y.lss (hx : ev f x = .int k a) (hy : ev f y = .int k b) : Y P ⟨d, .binOp .lss xt x y yt, ty, pos, aft, g⟩ f w (.bool (decide (a < b))) := by
  simp [Y, execOp, hx, hy, eqGuard, binOp, Op.intCmp]
theorem Y.leq (hx : ev f x = .int k a) (hy : ev f y = .int k b) : Y P ⟨d, .binOp .leq xt x y yt, ty, pos, aft, g⟩ f w (.bool (decide (a ≤ b))) := by
  simp [Y, execOp, hx, hy, eqGuard, binOp, Op.intCmp]
theorem Y.gtr (hx : ev f x = .int k a) (hy : ev f y = .int k b) : Y P ⟨d, .binOp .gtr xt x y yt, ty, pos, aft, g⟩ f w (.bool (decide (b < a))) := by
  simp [Y, execOp, hx, hy, eqGuard, binOp, Op.intCmp]
theorem Y.geq (hx : ev f x = .int k a) (hy : ev f y = .int k b) : Y P ⟨d, .binOp .geq xt x y yt, ty, pos, aft, g⟩ f w (.bool (decide (b ≤ a))) := by
  simp [Y, execOp, hx, hy, eqGuard, binOp, Op.intCmp]
theorem Y.eqi (hx : ev f x = .int k a) (hy : ev f y = .int k b) : Y P ⟨d, .binOp .eql xt x y yt, ty, pos, aft, g⟩ f w (.bool (decide (a = b))) := by
  by_cases h : a = b <;> simp [Y, execOp, hx, hy, eqGuard, binOp, Op.intCmp, h]
theorem Y.nei (hx : ev f x = .int k a) (hy : ev f y = .int k b) : Y P ⟨d, .binOp .neq xt x y yt, ty, pos, aft, g⟩ f w (.bool (decide (a ≠ b))) := by
  by_cases h : a = b <;> simp [Y, execOp, hx, hy, eqGuard, binOp, Op.intCmp, bne, h]
theorem Y.convi {xt : TypeId} {k' : IntKind} {ds : TypeDesc} (hs : P.underlying xt = some ds) (ht : P.underlying yt = some (.int k')) (hx : ev f x = .int k a) : Y P ⟨d, .convert xt yt x, ty, pos, aft, g⟩ f w (.int k' (k'.wrap a)) := by
  simp [Y, execOp, hx, convert, run_underlying hs, run_underlying ht, Conv.intToInt]
theorem Y.conviR {xt : TypeId} {k' : IntKind} {ds : TypeDesc} (hs : P.underlying xt = some ds) (ht : P.underlying yt = some (.int k')) (hx : ev f x = .int k a) (h : k'.min ≤ a ∧ a ≤ k'.max) : Y P ⟨d, .convert xt yt x, ty, pos, aft, g⟩ f w (.int k' a) := by
  have := Y.convi (P := P) (d := d) (ty := ty) (pos := pos) (aft := aft) (g := g) (w := w) hs ht hx
  rwa [wrap_id h] at this
end ints
theorem Y.dT {o : Oper} {p : Prop} [Decidable p] (hy : Y P o f w (.bool (decide p))) (h : p) : Y P o f w (.bool true) := by rwa [decide_eq_true h] at hy
theorem Y.dF {o : Oper} {p : Prop} [Decidable p] (hy : Y P o f w (.bool (decide p))) (h : ¬ p) : Y P o f w (.bool false) := by rwa [decide_eq_false h] at hy
theorem Y.bT {o : Oper} {b : Bool} (hy : Y P o f w (.bool b)) (h : b = true) : Y P o f w (.bool true) := by rwa [h] at hy
theorem Y.bF {o : Oper} {b : Bool} (hy : Y P o f w (.bool b)) (h : b = false) : Y P o f w (.bool false) := by rwa [h] at hy
section others
variable {xt yt : TypeId}
theorem run_equal_of {t : TypeId} {u v : Value} {r : Bool} (h : ∀ n, (Op.equalIn (n + 1) t u v).run P w = .ok r w) : (Op.equal t u v).run P w = .ok r w := h 9999
theorem Y.eq_of {u v : Value} {r : Bool} (hx : ev f x = u) (hy : ev f y = v) (hb : binOp .eql xt u v = (do pure (.bool (← Op.equal xt u v)))) (hg : (eqGuard .eql xt x y u v).run P w = .ok () w)
    (h : ∀ n, (Op.equalIn (n + 1) xt u v).run P w = .ok r w) : Y P ⟨d, .binOp .eql xt x y yt, ty, pos, aft, g⟩ f w (.bool r) := by
  have h1 := run_equal_of (P := P) (w := w) h
  simp only [Y, execOp, hx, hy, hb, Sem.run_bind, hg, Result.andThen_ok, h1, Sem.run_pure]
theorem Y.ne_of {u v : Value} {r : Bool} (hx : ev f x = u) (hy : ev f y = v) (hb : binOp .neq xt u v = (do pure (.bool (!(← Op.equal xt u v))))) (hg : (eqGuard .neq xt x y u v).run P w = .ok () w)
    (h : ∀ n, (Op.equalIn (n + 1) xt u v).run P w = .ok r w) : Y P ⟨d, .binOp .neq xt x y yt, ty, pos, aft, g⟩ f w (.bool (!r)) := by
  have h1 := run_equal_of (P := P) (w := w) h
  simp only [Y, execOp, hx, hy, hb, Sem.run_bind, hg, Result.andThen_ok, h1, Sem.run_pure]
theorem Y.eqb {a b : Bool} (ht : P.underlying xt = some .bool) (hx : ev f x = .bool a) (hy : ev f y = .bool b) : Y P ⟨d, .binOp .eql xt x y yt, ty, pos, aft, g⟩ f w (.bool (a == b)) :=
  Y.eq_of hx hy rfl (by simp [eqGuard]) fun n => by simp [Op.equalIn, run_underlying ht]
theorem Y.neb {a b : Bool} (ht : P.underlying xt = some .bool) (hx : ev f x = .bool a) (hy : ev f y = .bool b) : Y P ⟨d, .binOp .neq xt x y yt, ty, pos, aft, g⟩ f w (.bool (!(a == b))) :=
  Y.ne_of hx hy rfl (by simp [eqGuard]) fun n => by simp [Op.equalIn, run_underlying ht]
theorem Y.eqs {a b : ByteArray} (hx : ev f x = .string a) (hy : ev f y = .string b) : Y P ⟨d, .binOp .eql xt x y yt, ty, pos, aft, g⟩ f w (.bool (a.toList == b.toList)) := by
  simp [Y, execOp, hx, hy, eqGuard, binOp, Op.stringOp]
theorem Y.nes {a b : ByteArray} (hx : ev f x = .string a) (hy : ev f y = .string b) : Y P ⟨d, .binOp .neq xt x y yt, ty, pos, aft, g⟩ f w (.bool (!(a.toList == b.toList))) := by
  simp [Y, execOp, hx, hy, eqGuard, binOp, Op.stringOp]
theorem Y.eqpn {p : Option Addr} {e : TypeId} (ht : P.underlying xt = some (.pointer e)) (hx : ev f x = .pointer p) (hy : ev f y = .pointer none) : Y P ⟨d, .binOp .eql xt x y yt, ty, pos, aft, g⟩ f w (.bool p.isNone) :=
  Y.eq_of hx hy rfl (by simp [eqGuard]) fun n => by cases p <;> simp [Op.equalIn, run_underlying ht]
theorem Y.nepn {p : Option Addr} {e : TypeId} (ht : P.underlying xt = some (.pointer e)) (hx : ev f x = .pointer p) (hy : ev f y = .pointer none) : Y P ⟨d, .binOp .neq xt x y yt, ty, pos, aft, g⟩ f w (.bool (!p.isNone)) :=
  Y.ne_of hx hy rfl (by simp [eqGuard]) fun n => by cases p <;> simp [Op.equalIn, run_underlying ht]
theorem Y.nilCheck {p : Addr} (hx : ev f x = .pointer (some p)) : Y P ⟨d, .nilCheck x, ty, pos, aft, g⟩ f w (.pointer (some p)) := by
  simp [Y, execOp, hx]
end others
end pure

/-! ### Types' rows -/
def TI (P : Program) (t : TypeId) (z : Value) (size bytes : Nat) : Prop := (P.info? t).map (fun i => (i.zero, i.size, i.bytes)) = some (some z, size, bytes)
theorem TI.info {t : TypeId} {z : Value} {size bytes : Nat} (h : TI P t z size bytes) : ∃ i, P.info? t = some i ∧ i.zero = some z ∧ i.size = size ∧ i.bytes = bytes := by
  unfold TI at h
  cases hi : P.info? t with
  | none => simp [hi] at h
  | some i => simp [hi] at h; exact ⟨i, rfl, h.1, h.2.1, h.2.2⟩
theorem run_sizeOf {t : TypeId} {z : Value} {size bytes : Nat} (h : TI P t z size bytes) (w : World) : (sizeOf t).run P w = .ok size w := by
  obtain ⟨i, hi, _, hs, _⟩ := h.info
  simp [sizeOf, typeInfo, hi, hs]
theorem run_zeroValue {t : TypeId} {z : Value} {size bytes : Nat} (h : TI P t z size bytes) (w : World) : (zeroValue t).run P w = .ok z w := by
  obtain ⟨i, hi, hz, _, _⟩ := h.info
  simp [zeroValue, typeInfo, hi, hz]
def aggD : TypeDesc → Bool
  | .struct _ | .array _ _ => true
  | _ => false
theorem run_isAgg {t : TypeId} {ds : TypeDesc} (h : P.underlying t = some ds) (w : World) : (isAgg t).run P w = .ok (aggD ds) w := by
  cases ds <;> simp [isAgg, run_underlying h, aggD]

/-! ### Memory -/
/-- n cells in a row, from b, off on. -/
def Cells (w : World) (b off : Nat) (vs : List Value) : Prop := ∀ i v, vs[i]? = some v → w.cell? ⟨b, off + i, none⟩ = some v
theorem Cells.bel {w w' : World} {b off : Nat} {vs : List Value} (h : Cells w b off vs) (hb : Below w.heap.size w w') : Cells w' b off vs := fun i v hv => by
  have h1 := h i v hv
  rw [hb.cell (p := ⟨b, off + i, none⟩) (World.block_lt_of_cell? w _ h1)]; exact h1
theorem cell_bel {w w' : World} {p : Addr} {v : Value} (h : w.cell? p = some v) (hb : Below w.heap.size w w') : w'.cell? p = some v := by
  rw [hb.cell (p := p) (World.block_lt_of_cell? w _ h)]; exact h
theorem Cells.sub {b off : Nat} {vs : List Value} (h : Cells w b off vs) (i n : Nat) : Cells w b (off + i) ((vs.drop i).take n) := fun j v hv => by
  have h1 : vs[i + j]? = some v := by
    simp only [List.getElem?_take] at hv
    split at hv
    · simpa [List.getElem?_drop] using hv
    · cases hv
  have := h _ _ h1
  rwa [← Nat.add_assoc] at this
theorem add_addr (b off n : Nat) : (⟨b, off, none⟩ : Addr).add n = ⟨b, off + n, none⟩ := by
  unfold Addr.add; split
  · subst_vars; rfl
  · rfl
theorem run_loadCellsFrom {b off : Nat} : ∀ (vs : List Value) (i : Nat) (acc : Array Value), (∀ j v, vs[j]? = some v → w.cell? ⟨b, off + (i + j), none⟩ = some v) →
    (loadCellsFrom ⟨b, off, none⟩ i vs.length acc).run P w = .ok (acc ++ vs.toArray) w
  | [], i, acc, _ => by simp [loadCellsFrom]
  | v :: vs, i, acc, h => by
    have h0 := h 0 v rfl
    simp only [Nat.add_zero] at h0
    have ih := run_loadCellsFrom vs (i + 1) (acc.push v) (fun j u hu => by
      have := h (j + 1) u (by simpa using hu)
      rwa [show i + (j + 1) = i + 1 + j by omega] at this)
    simp only [List.length_cons, loadCellsFrom, add_addr]
    simp only [load, Sem.run, h0, Sem.run_bind, Result.andThen_ok]
    rw [ih]
    simp
theorem run_loadCells {b off : Nat} {vs : List Value} (h : Cells w b off vs) : (loadCells ⟨b, off, none⟩ vs.length).run P w = .ok vs.toArray w := by
  have := run_loadCellsFrom (P := P) (w := w) (b := b) (off := off) vs 0 #[] (fun j v hv => by have := h j v hv; simpa using this)
  simpa [loadCells] using this

def One : Value → Bool
  | .agg _ | .tuple _ => false
  | _ => true
theorem One.cells {v : Value} (h : One v = true) : v.cells = #[v] := by cases v <;> first | rfl | cases h
theorem One.one {v : Value} (h : One v = true) : v.oneCell' = true := by cases v <;> first | rfl | cases h
section mem
variable {d : Option Tmp} {ty : TypeId} {pos : String} {aft : Array Edge} {g : Option (Nat × Bool)} {x y c : Operand} {t e : TypeId}
theorem Y.load1 {ds : TypeDesc} {p : Addr} {v : Value} (ht : P.underlying t = some ds) (ha : aggD ds = false) (hx : ev f x = .pointer (some p)) (hc : w.cell? p = some v) :
    Y P ⟨d, .load t x, ty, pos, aft, g⟩ f w v := by
  simp [Y, execOp, hx, Instr.loadAt, Instr.sureAddr, loadVar, run_isAgg ht, ha, load, Sem.run, hc]
theorem Y.loadN {ds : TypeDesc} {b o : Nat} {vs : List Value} {z : Value} {by' : Nat} (ht : P.underlying t = some ds) (ha : aggD ds = true) (hi : TI P t z vs.length by') (hx : ev f x = .pointer (some ⟨b, o, none⟩)) (hc : Cells w b o vs) :
    Y P ⟨d, .load t x, ty, pos, aft, g⟩ f w (.agg vs.toArray) := by
  simp [Y, execOp, hx, Instr.loadAt, Instr.sureAddr, loadVar, run_isAgg ht, ha, run_sizeOf hi, run_loadCells hc]
theorem E.store1 {p : Addr} {z u old : Value} {by' : Nat} (hi : TI P t z 1 by') (hx : ev f x = .pointer (some p)) (hy : ev f y = u) (h1 : One u = true) (hp : p.spot = none) (hc : w.cell? p = some old) (hz : w.frozen? p = false) :
    E P ⟨d, .store t x y, ty, pos, aft, g⟩ f w undef (w.setCell p u) := by
  refine .inr ⟨?_, rfl, fun c => by simp⟩
  have hcs := One.cells h1
  have ha : p.add 0 = p := rfl
  have hst : (store p u).run P w = .ok () (w.setCell p u) := by
    cases u <;> first | (simp only [One] at h1; cases h1; done) | simp [store, Sem.run, hc, hz]
  simp [execOp, hx, hy, Instr.storeAt, Instr.sureAddr, storeVar, run_sizeOf hi, hcs, storeCells, ha, hst]
theorem E.alloc {z : Value} {n by' : Nat} (hi : TI P t z n by') : E P ⟨d, .alloc t, ty, pos, aft, g⟩ f w (.pointer (some ⟨w.heap.size, 0, none⟩)) (w.alloc (.cells z.cells t)) := by
  refine .inl ?_
  simp [execOp, Instr.alloc, run_zeroValue hi, newVar, newRow, newObj, Sem.run]
theorem E.box : E P ⟨d, .box t x, ty, pos, aft, g⟩ f w (.pointer (some ⟨w.heap.size, 0, none⟩)) (w.alloc (.cells (ev f x).cells t)) := by
  refine .inl ?_
  simp [execOp, Instr.box, newVar, newRow, newObj, Sem.run]
/-- Function h is one of Go text: a call of it enters it. -/
def GoFn (P : Program) (h : FuncId) : Prop := ∀ args w, (callFunc h args).run P w = .ok (.enter h args) w
theorem GoFn.of {h : FuncId} {fn : Func} (hf : P.funcs[h]? = some fn) (hn : (fn.name == "runtime.NumGoroutine") = false) (hb : fn.body.isNone = false) : GoFn P h := by
  intro args w
  have hp : Sem.run P program w = .ok P w := rfl
  simp only [callFunc, Sem.run_bind, hp, Result.andThen_ok, hf, hn, hb, Bool.false_eq_true, if_false, Sem.run_pure]
theorem C.func {h : FuncId} {args : List Operand} {at' : Array TypeId} (hf : GoFn P h) :
    C P ⟨d, .call ⟨.value (.func h), args.toArray, at'⟩, ty, pos, aft, g⟩ f w h (args.map (ev f)).toArray := by
  simp [C, execOp, resolve, ev, Deferred.ofValue, invoke, hf _ _]
theorem C.value {h : FuncId} {args : List Operand} {cap : List Value} {at' : Array TypeId} (hf : GoFn P h) (hx : ev f x = .func (.func h) #[] cap.toArray) :
    C P ⟨d, .call ⟨.value x, args.toArray, at'⟩, ty, pos, aft, g⟩ f w h (args.map (ev f) ++ cap).toArray := by
  simp [C, execOp, resolve, hx, Deferred.ofValue, invoke, hf _ _]

/-! ### New blocks -/
/-! ### Slices -/
/-- v is a slice of n elements of k cells each; the cells are cs. -/
def SlK (w : World) (k : Nat) (v : Value) (n : Nat) (cs : List Value) : Prop :=
  cs.length = n * k ∧ n ≤ maxLen ∧ ∃ a cap, v = .slice a n cap ∧ n ≤ cap ∧ cap ≤ maxLen ∧ ∀ i u, cs[i]? = some u → ∃ b o, a = some ⟨b, o, none⟩ ∧ w.cell? ⟨b, o + i, none⟩ = some u
theorem SlK.bel {w w' : World} {k n : Nat} {v : Value} {cs : List Value} (h : SlK w k v n cs) (hb : Below w.heap.size w w') : SlK w' k v n cs := by
  obtain ⟨h1, h2, a, cap, hv, hn, hm, hc⟩ := h
  refine ⟨h1, h2, a, cap, hv, hn, hm, fun i u hu => ?_⟩
  obtain ⟨b, o, ha, hcell⟩ := hc i u hu
  exact ⟨b, o, ha, cell_bel hcell hb⟩
theorem SlK.one {k n : Nat} {v : Value} {cs : List Value} (h : SlK w k v n cs) : One v = true := by
  obtain ⟨_, _, a, cap, rfl, _⟩ := h; rfl
theorem SlK.len {k n : Nat} {v : Value} {cs : List Value} (h : SlK w k v n cs) : (n : Int) ≤ 9223372036854775807 := by
  have := h.2.1; unfold maxLen at this; omega
theorem SlK.addr {k n : Nat} {v : Value} {cs : List Value} (h : SlK w k v n cs) (h0 : 0 < cs.length) : ∃ b o cap, v = .slice (some ⟨b, o, none⟩) n cap ∧ n ≤ cap ∧ cap ≤ maxLen ∧ Cells w b o cs := by
  obtain ⟨h1, h2, a, cap, hv, hn, hm, hc⟩ := h
  obtain ⟨b, o, ha, _⟩ := hc 0 cs[0] (by simp [h0])
  refine ⟨b, o, cap, by rw [hv, ha], hn, hm, fun i u hu => ?_⟩
  obtain ⟨b', o', ha', hcell⟩ := hc i u hu
  rw [ha] at ha'; cases ha'; exact hcell
theorem SlK.nil {k : Nat} : SlK w k (.slice none 0 0) 0 [] := ⟨by simp, Nat.zero_le _, none, 0, rfl, Nat.le_refl _, Nat.zero_le _, fun i u h => by simp at h⟩
theorem Y.lenSl {k n : Nat} {cs : List Value} {at' : TypeId} (ht : P.underlying at' = some (.slice e)) (h : SlK w k (ev f x) n cs) (w' : World) :
    Y P ⟨d, .call ⟨.builtin .len, #[x], #[at']⟩, ty, pos, aft, g⟩ f w' (.int .i64 n) := by
  obtain ⟨_, _, a, cap, hv, _⟩ := h
  simp [Y, execOp, resolve, invoke, builtin, Builtin.len_, hv, run_underlying ht, goInt]
/-- An element's address. -/
theorem Y.idx {k n : Nat} {cs : List Value} {z : Value} {by' : Nat} {ki : IntKind} {i : Int} (ht : P.underlying t = some (.slice e)) (hi : TI P e z k by') (hk : 0 < k) (h : SlK w k (ev f x) n cs) (hy : ev f y = .int ki i) (h0 : 0 ≤ i) (h1 : i < n) :
    ∃ v, (∀ w', Y P ⟨d, .indexAddr t x y, ty, pos, aft, g⟩ f w' v) ∧ ∃ b o, v = .pointer (some ⟨b, o, none⟩) ∧ Cells w b o ((cs.drop (i.toNat * k)).take k) := by
  have hlen : i.toNat * k < cs.length := by rw [h.1]; exact Nat.mul_lt_mul_of_pos_right (by omega) hk
  obtain ⟨b, o, cap, hv, _, _, hc⟩ := h.addr (by omega)
  refine ⟨.pointer (some ⟨b, o + i.toNat * k, none⟩), fun w' => ?_, b, _, rfl, hc.sub _ _⟩
  have h2 : (if 0 ≤ i ∧ i < (n : Int) then True else False) := by simp [h0, h1]
  simp [Y, execOp, Instr.indexAt, hv, hy, asIntOf, run_underlying ht, h0, h1, run_sizeOf hi, add_addr]
theorem Y.idx1 {n : Nat} {cs : List Value} {z : Value} {by' : Nat} {ki : IntKind} {i : Int} (ht : P.underlying t = some (.slice e)) (hi : TI P e z 1 by') (h : SlK w 1 (ev f x) n cs) (hy : ev f y = .int ki i) (h0 : 0 ≤ i) (h1 : i < n) :
    ∃ v, (∀ w', Y P ⟨d, .indexAddr t x y, ty, pos, aft, g⟩ f w' v) ∧ ∃ p, v = .pointer (some p) ∧ w.cell? p = cs[i.toNat]? := by
  obtain ⟨v, hY, b, o, hv, hc⟩ := Y.idx (P := P) (d := d) (ty := ty) (pos := pos) (aft := aft) (g := g) ht hi (by omega) h hy h0 h1
  refine ⟨v, hY, ⟨b, o, none⟩, hv, ?_⟩
  have hlen : i.toNat < cs.length := by rw [h.1]; omega
  have := hc 0 cs[i.toNat] (by simp [List.getElem?_drop, hlen])
  rw [Nat.add_zero] at this
  rw [this]; simp [hlen]
/-- An element of a slice of one-cell elements, by what they encode. -/
theorem Y.idxE {α : Type} {enc : α → Value} {l : List α} {z : Value} {by' : Nat} {ki : IntKind} {i : Int} (d0 : α) (ht : P.underlying t = some (.slice e)) (hi : TI P e z 1 by') (h : SlK w 1 (ev f x) l.length (l.map enc)) (hy : ev f y = .int ki i) (h0 : 0 ≤ i) (h1 : i < l.length) :
    ∃ v, (∀ w', Y P ⟨d, .indexAddr t x y, ty, pos, aft, g⟩ f w' v) ∧ ∃ b o, v = .pointer (some ⟨b, o, none⟩) ∧ w.cell? ⟨b, o, none⟩ = some (enc (l.getD i.toNat d0)) := by
  obtain ⟨v, hY, b, o, hv, hc⟩ := Y.idx (P := P) (d := d) (ty := ty) (pos := pos) (aft := aft) (g := g) ht hi (by omega) h hy h0 h1
  refine ⟨v, hY, b, o, hv, ?_⟩
  have hlen : i.toNat < l.length := by omega
  have := hc 0 (enc (l.getD i.toNat d0)) (by simp [List.getElem?_drop, hlen])
  rwa [Nat.add_zero] at this
theorem Y.slice {k n : Nat} {cs : List Value} {z : Value} {by' : Nat} {k1 k2 : IntKind} {lo hi : Int} {ol oh : Option Operand} (ht : P.underlying t = some (.slice e)) (hti : TI P e z k by') (h : SlK w k (ev f x) n cs)
    (hlo : match ol with | some l => ev f l = .int k1 lo | none => lo = 0) (hhi : match oh with | some l => ev f l = .int k2 hi | none => hi = n) (h0 : 0 ≤ lo) (h1 : lo ≤ hi) (h2 : hi ≤ n) :
    ∃ v, (∀ w', Y P ⟨d, .slice t x ol oh none, ty, pos, aft, g⟩ f w' v) ∧ SlK w k v (hi.toNat - lo.toNat) ((cs.drop (lo.toNat * k)).take ((hi.toNat - lo.toNat) * k)) := by
  obtain ⟨hl, hm, a, cap, hv, hn, hcm, hc⟩ := h
  refine ⟨.slice (if cap = lo.toNat then a else a.map (·.add (lo.toNat * k))) (hi.toNat - lo.toNat) (cap - lo.toNat), fun w' => ?_, ?_⟩
  · have hb1 : ∀ (v : Value) (kk : IntKind) (c : BoundsCode), v = .int kk lo → (Instr.sliceBound v hi.toNat c).run P w' = .ok lo.toNat w' := by
      intro v kk c e; subst e
      have h9 : ((hi.toNat : Nat) : Int) = hi := Int.toNat_of_nonneg (by omega)
      simp only [Instr.sliceBound, asIntOf, Sem.run_bind, Sem.run_pure, Result.andThen_ok, h9]
      rw [if_pos ⟨h0, h1⟩]; rfl
    have hb2 : ∀ (v : Value) (kk : IntKind) (c : BoundsCode), v = .int kk hi → (Instr.sliceBound v cap c).run P w' = .ok hi.toNat w' := by
      intro v kk c e; subst e
      have h3 : hi ≤ ((cap : Nat) : Int) := by omega
      have h4 : 0 ≤ hi := by omega
      simp [Instr.sliceBound, asIntOf, h3, h4]
    have hnn : n = hi.toNat ∨ oh.isSome = true := by
      cases oh with
      | none => left; simp only at hhi; omega
      | some l => right; rfl
    cases ol with
    | none =>
      simp only at hlo; subst hlo
      cases oh with
      | none =>
        simp only at hhi; subst hhi
        simp [Y, execOp, Instr.sliceAt, Instr.slice, Instr.sliceBounds, hv, run_underlying ht, run_sizeOf hti]
      | some u =>
        simp only at hhi
        have := hb2 (ev f u) k2 .sliceAcap hhi
        simp [Y, execOp, Instr.sliceAt, Instr.slice, Instr.sliceBounds, hv, run_underlying ht, run_sizeOf hti, this]
    | some l =>
      simp only at hlo
      cases oh with
      | none =>
        simp only at hhi; subst hhi
        have := hb1 (ev f l) k1 .sliceB hlo
        simp only [Int.toNat_natCast] at this
        simp [Y, execOp, Instr.sliceAt, Instr.slice, Instr.sliceBounds, hv, run_underlying ht, run_sizeOf hti, this]
      | some u =>
        simp only at hhi
        have h5 := hb1 (ev f l) k1 .sliceB hlo
        have h6 := hb2 (ev f u) k2 .sliceAcap hhi
        simp [Y, execOp, Instr.sliceAt, Instr.slice, Instr.sliceBounds, hv, run_underlying ht, run_sizeOf hti, h5, h6]
  · have hle : (lo.toNat * k) + (hi.toNat - lo.toNat) * k ≤ cs.length := by
      rw [hl, ← Nat.add_mul]; exact Nat.mul_le_mul_right _ (by omega)
    refine ⟨by simp only [List.length_take, List.length_drop]; omega, by omega, _, _, rfl, by omega, by omega, fun i u hu => ?_⟩
    have h7 : cs[lo.toNat * k + i]? = some u := by
      simp only [List.getElem?_take] at hu
      split at hu
      · simpa [List.getElem?_drop] using hu
      · cases hu
    obtain ⟨b, o, ha, hcell⟩ := hc _ u h7
    subst ha
    split
    · rename_i hcap
      have : n = 0 ∨ lo.toNat = n := by omega
      exfalso
      have h8 : lo.toNat * k + i < cs.length := by
        rcases Nat.lt_or_ge (lo.toNat * k + i) cs.length with h | h
        · exact h
        · rw [List.getElem?_eq_none h] at h7; cases h7
      have h9 : n * k ≤ lo.toNat * k := Nat.mul_le_mul_right _ (by omega)
      omega
    · exact ⟨b, o + lo.toNat * k, by simp [add_addr], by rw [Nat.add_assoc]; exact hcell⟩
theorem map_dt {α : Type} (enc : α → Value) (l : List α) (a n : Nat) : ((l.map enc).drop a).take n = ((l.drop a).take n).map enc := by rw [List.map_take, List.map_drop]
theorem Y.sliceTo {α : Type} {enc : α → Value} {l : List α} {z : Value} {by' : Nat} {kk : IntKind} {hI : Int} {h : Operand} (hi : Nat) (ht : P.underlying t = some (.slice e)) (hti : TI P e z 1 by') (hs : SlK w 1 (ev f x) l.length (l.map enc))
    (hh : ev f h = .int kk hI) (he : hI = (hi : Int)) (hle : hi ≤ l.length) :
    ∃ v, (∀ w', Y P ⟨d, .slice t x none (some h) none, ty, pos, aft, g⟩ f w' v) ∧ SlK w 1 v (l.take hi).length ((l.take hi).map enc) := by
  subst he
  obtain ⟨v, h1, h2⟩ := Y.slice (P := P) (d := d) (ty := ty) (pos := pos) (aft := aft) (g := g) (k1 := .i64) (ol := none) (oh := some h) (lo := 0) (hi := (hi : Int)) ht hti hs rfl hh (by omega) (by omega) (by omega)
  refine ⟨v, h1, ?_⟩
  simp only [Int.toNat_natCast, Int.toNat_zero, Nat.sub_zero, Nat.mul_one, List.drop_zero] at h2
  rw [List.length_take, Nat.min_eq_left hle, List.map_take]
  exact h2
theorem Y.sliceFrom {α : Type} {enc : α → Value} {l : List α} {z : Value} {by' : Nat} {kk : IntKind} {lI : Int} {h : Operand} (lo : Nat) (ht : P.underlying t = some (.slice e)) (hti : TI P e z 1 by') (hs : SlK w 1 (ev f x) l.length (l.map enc))
    (hh : ev f h = .int kk lI) (he : lI = (lo : Int)) (hle : lo ≤ l.length) :
    ∃ v, (∀ w', Y P ⟨d, .slice t x (some h) none none, ty, pos, aft, g⟩ f w' v) ∧ SlK w 1 v (l.drop lo).length ((l.drop lo).map enc) := by
  subst he
  obtain ⟨v, h1, h2⟩ := Y.slice (P := P) (d := d) (ty := ty) (pos := pos) (aft := aft) (g := g) (k2 := .i64) (ol := some h) (oh := none) (lo := (lo : Int)) (hi := (l.length : Int)) ht hti hs hh rfl (by omega) (by omega) (by omega)
  refine ⟨v, h1, ?_⟩
  simp only [Int.toNat_natCast, Nat.mul_one] at h2
  rw [List.take_of_length_le (by simp)] at h2
  rw [List.length_drop, List.map_drop]
  exact h2
theorem Y.sliceBoth {α : Type} {enc : α → Value} {l : List α} {z : Value} {by' : Nat} {kk kk' : IntKind} {lI hI : Int} {h h' : Operand} (lo hi : Nat) (ht : P.underlying t = some (.slice e)) (hti : TI P e z 1 by') (hs : SlK w 1 (ev f x) l.length (l.map enc))
    (hh : ev f h = .int kk lI) (he : lI = (lo : Int)) (hh' : ev f h' = .int kk' hI) (he' : hI = (hi : Int)) (hlo : lo ≤ hi) (hle : hi ≤ l.length) :
    ∃ v, (∀ w', Y P ⟨d, .slice t x (some h) (some h') none, ty, pos, aft, g⟩ f w' v) ∧ SlK w 1 v ((l.drop lo).take (hi - lo)).length (((l.drop lo).take (hi - lo)).map enc) := by
  subst he; subst he'
  obtain ⟨v, h1, h2⟩ := Y.slice (P := P) (d := d) (ty := ty) (pos := pos) (aft := aft) (g := g) (ol := some h) (oh := some h') (lo := (lo : Int)) (hi := (hi : Int)) ht hti hs hh hh' (by omega) (by omega) (by omega)
  refine ⟨v, h1, ?_⟩
  simp only [Int.toNat_natCast, Nat.mul_one] at h2
  rw [map_dt] at h2
  rw [List.length_take, List.length_drop, Nat.min_eq_left (by omega)]
  exact h2
end mem
end Go.Cx
