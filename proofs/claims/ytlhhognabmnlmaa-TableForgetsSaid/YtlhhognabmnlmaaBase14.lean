/-
  Maps: blocks of entries, known whole, in their order.
-/
import Derived.Test.YtlhhognabmnlmaaBase12
import Derived.Test.YtlhhognabmnlmaaBase4
import Derived.MapKept
namespace Go.Cx
set_option linter.unusedVariables false
open Go Go.RowKit
/-- the block b is a map with the entries m, in their order -/
def MapAt (w : World) (b : Nat) (m : List (Value × Value)) : Prop := ∃ es clock, w.heap[b]? = some (.map es clock) ∧ es.toList.map (fun e => (e.key, e.val)) = m
section
variable {w w' : World} {b b' : Nat} {m : List (Value × Value)}
theorem MapAt.lt (h : MapAt w b m) : b < w.heap.size := by obtain ⟨_, _, h, _⟩ := h; exact (Array.getElem?_eq_some_iff.1 h).1
theorem MapAt.bel (h : MapAt w b m) (hb : Below w.heap.size w w') : MapAt w' b m := by
  have hl := h.lt
  obtain ⟨es, c, h1, h2⟩ := h
  exact ⟨es, c, (hb.block b hl).trans h1, h2⟩
theorem MapAt.belB {B : Nat} (h : MapAt w b m) (hb : Below B w w') (hB : b < B) : MapAt w' b m := by
  obtain ⟨es, c, h1, h2⟩ := h
  exact ⟨es, c, (hb.block b hB).trans h1, h2⟩
theorem MapAt.grown (h : MapAt w b m) (hg : w.grownBy w' (some b')) (hne : b ≠ b') : MapAt w' b m := by
  have hl := h.lt
  obtain ⟨es, c, h1, h2⟩ := h
  exact ⟨es, c, (hg.block b hl (fun e => hne (by cases e; rfl))).trans h1, h2⟩
end
section
variable {α : Type} [DecidableEq α]
/-- what a key has -/
def mget (a : α) : List (α × Value) → Option Value
  | [] => none
  | p :: m => if a = p.1 then some p.2 else mget a m
/-- keys of a kind that are compared at once -/
structure KD (P : Program) (K : TypeId) (kind : TypeDesc) (kv : α → Value) : Prop where
  und : P.underlying K = some kind
  same : ∀ a b, Instr.sameNow kind (kv a) (kv b) = some (decide (a = b))
  check : ∀ e a w, (Instr.checkKey e 10000 K (kv a)).run P w = .ok () w
  stays : ∀ a w, (Instr.keyThatStays (kv a) (kv a)).run P w = .ok (kv a) w
variable {P : Program} {f : Fr} {w : World} {d : Option Tmp} {ty : TypeId} {pos : String} {aft : Array Edge} {g : Option (Nat × Bool)} {x y z : Operand} {t K El : TypeId} {kind : TypeDesc} {kv : α → Value}
theorem KD.find (D : KD P K kind kv) (a : α) : ∀ (es : List MapEntry) (m : List (α × Value)) (i : Nat), es.map (fun e => (e.key, e.val)) = m.map (fun p => (kv p.1, p.2)) →
    ∃ r, Instr.findNow kind (kv a) es i = some r ∧ r.map (·.2) = mget a m ∧ (∀ j v, r = some (j, v) → i ≤ j ∧ ∃ e, es[j - i]? = some e ∧ e.key = kv a)
  | [], m, i, h => by
    have : m = [] := by simpa using h.symm
    subst this
    exact ⟨none, rfl, rfl, fun _ _ h => by cases h⟩
  | e :: es, [], i, h => by simp at h
  | e :: es, p :: m, i, h => by
    simp only [List.map_cons, List.cons.injEq, Prod.mk.injEq] at h
    obtain ⟨⟨h1, h2⟩, h3⟩ := h
    have hs := D.same a p.1
    rw [← h1] at hs
    by_cases ha : a = p.1
    · rw [decide_eq_true ha] at hs
      refine ⟨some (i, e.val), by simp [Instr.findNow, hs], by simp [mget, ha, h2], fun j v hj => ?_⟩
      cases hj
      exact ⟨Nat.le_refl _, e, by simp, by rw [h1, ha]⟩
    · rw [decide_eq_false ha] at hs
      obtain ⟨r, h4, h5, h6⟩ := D.find a es m (i + 1) h3
      refine ⟨r, by simp [Instr.findNow, hs, h4], by simp [mget, ha, h5], fun j v hj => ?_⟩
      obtain ⟨h7, e', h8, h9⟩ := h6 j v hj
      refine ⟨by omega, e', ?_, h9⟩
      rw [show j - i = (j - (i + 1)) + 1 by omega]
      simpa using h8
theorem KD.findKey (D : KD P K kind kv) (a : α) (es : List MapEntry) (m : List (α × Value)) (h : es.map (fun e => (e.key, e.val)) = m.map (fun p => (kv p.1, p.2))) (w : World) :
    ∃ r, (Instr.findKey K (kv a) es).run P w = .ok r w ∧ r.map (·.2) = mget a m ∧ (∀ j v, r = some (j, v) → ∃ e, es[j]? = some e ∧ e.key = kv a) := by
  obtain ⟨r, h1, h2, h3⟩ := D.find a es m 0 h
  refine ⟨r, by simp [Instr.findKey, run_underlying D.und, h1, Result.andThen], h2, fun j v hj => ?_⟩
  obtain ⟨_, e, h4, h5⟩ := h3 j v hj
  exact ⟨e, by simpa using h4, h5⟩
theorem run_getMap {b : Nat} {es : Array MapEntry} {c : Nat} (hb : w.heap[b]? = some (.map es c)) : (getObj b).run P w = .ok (.map es c) w := by simp [getObj, Sem.run, hb]
theorem run_setMap {b : Nat} {es : Array MapEntry} {c : Nat} (o : Obj) (hb : w.heap[b]? = some (.map es c)) : (setObj b o).run P w = .ok () { w with heap := w.heap.setIfInBounds b o } := by simp [setObj, Sem.run, hb]
theorem E.makeMapX : ∃ v w', E P ⟨d, .makeMap t none, ty, pos, aft, g⟩ f w v w' ∧ (v = .map (some w.heap.size) ∧ MapAt w' w.heap.size [] ∧ Below w.heap.size w w') :=
  ⟨_, w.alloc (.map #[] 0), .inl (by simp [execOp, Instr.makeMap, newObj, Sem.run]), rfl, ⟨#[], 0, heap_alloc_new w _, rfl⟩, (Below.refl _ _).alloc (Nat.le_refl _) _⟩
theorem Y.lookup {zv : Value} {size bytes b : Nat} {m : List (α × Value)} {a : α} {ok : Bool} (ht : P.underlying t = some (.map K El)) (D : KD P K kind kv) (hi : TI P El zv size bytes) (hx : ev f x = .map (some b)) (hm : MapAt w b (m.map fun p => (kv p.1, p.2))) (hy : ev f y = kv a) :
    Y P ⟨d, .lookup t x y ok, ty, pos, aft, g⟩ f w (if ok then .tuple #[(mget a m).getD zv, .bool (mget a m).isSome] else (mget a m).getD zv) := by
  obtain ⟨es, c, h1, h2⟩ := hm
  obtain ⟨r, h3, h4, _⟩ := D.findKey a es.toList m h2 w
  rw [← h4]
  cases r with
  | none => simp [Y, execOp, Instr.lookup, run_underlying ht, hx, hy, run_getMap h1, D.check _ a w, h3, Result.andThen, run_zeroValue hi]
  | some r => simp [Y, execOp, Instr.lookup, run_underlying ht, hx, hy, run_getMap h1, D.check _ a w, h3, Result.andThen]
theorem Y.lookup2 {zv : Value} {size bytes b : Nat} {m : List (α × Value)} {a : α} (ht : P.underlying t = some (.map K El)) (D : KD P K kind kv) (hi : TI P El zv size bytes) (hx : ev f x = .map (some b)) (hm : MapAt w b (m.map fun p => (kv p.1, p.2))) (hy : ev f y = kv a) :
    Y P ⟨d, .lookup t x y true, ty, pos, aft, g⟩ f w (.tuple #[(mget a m).getD zv, .bool (mget a m).isSome]) := Y.lookup ht D hi hx hm hy
theorem Y.lookup2S {zv u : Value} {size bytes b : Nat} {m : List (α × Value)} {a : α} (ht : P.underlying t = some (.map K El)) (D : KD P K kind kv) (hi : TI P El zv size bytes) (hx : ev f x = .map (some b)) (hm : MapAt w b (m.map fun p => (kv p.1, p.2))) (hy : ev f y = kv a) (h : mget a m = some u) :
    Y P ⟨d, .lookup t x y true, ty, pos, aft, g⟩ f w (.tuple #[u, .bool true]) := by have := Y.lookup2 (d := d) (ty := ty) (pos := pos) (aft := aft) (g := g) ht D hi hx hm hy; rwa [h] at this
theorem Y.lookup2N {zv : Value} {size bytes b : Nat} {m : List (α × Value)} {a : α} (ht : P.underlying t = some (.map K El)) (D : KD P K kind kv) (hi : TI P El zv size bytes) (hx : ev f x = .map (some b)) (hm : MapAt w b (m.map fun p => (kv p.1, p.2))) (hy : ev f y = kv a) (h : mget a m = none) :
    Y P ⟨d, .lookup t x y true, ty, pos, aft, g⟩ f w (.tuple #[zv, .bool false]) := by have := Y.lookup2 (d := d) (ty := ty) (pos := pos) (aft := aft) (g := g) ht D hi hx hm hy; rwa [h] at this
theorem Y.lookupNil {zv : Value} {size bytes : Nat} {a : α} {ok : Bool} (ht : P.underlying t = some (.map K El)) (D : KD P K kind kv) (hi : TI P El zv size bytes) (hx : ev f x = .map none) (hy : ev f y = kv a) :
    Y P ⟨d, .lookup t x y ok, ty, pos, aft, g⟩ f w (if ok then .tuple #[zv, .bool false] else zv) := by
  obtain ⟨r, h3, h4, _⟩ := D.findKey a [] [] rfl w
  have : r = none := by simpa [mget] using h4
  subst this
  simp [Y, execOp, Instr.lookup, run_underlying ht, hx, hy, D.check _ a w, h3, Result.andThen, run_zeroValue hi]
theorem setMap_bel {b : Nat} {o : Obj} : w.grownBy { w with heap := w.heap.setIfInBounds b o } (some b) :=
  ⟨rfl, rfl, rfl, by simp, fun k hk hne => by
    show (w.heap.setIfInBounds b o)[k]? = _
    rw [Array.getElem?_setIfInBounds]
    rw [if_neg (fun e => hne (by rw [e]))]⟩
/-- an entry more -/
theorem E.insertNew {b : Nat} {m : List (α × Value)} {a : α} {v : Value} (ht : P.underlying t = some (.map K El)) (D : KD P K kind kv) (hx : ev f x = .map (some b)) (hm : MapAt w b (m.map fun p => (kv p.1, p.2))) (hy : ev f y = kv a) (hz : ev f z = v) (hn : mget a m = none) :
    ∃ u w', E P ⟨d, .insert t x y z, ty, pos, aft, g⟩ f w u w' ∧ (MapAt w' b ((m ++ [(a, v)]).map fun p => (kv p.1, p.2)) ∧ w.grownBy w' (some b)) := by
  obtain ⟨es, c, h1, h2⟩ := hm
  obtain ⟨r, h3, h4, _⟩ := D.findKey a es.toList m h2 w
  rw [hn] at h4
  have : r = none := by simpa using h4
  subst this
  refine ⟨undef, _, .inr ⟨by simp [execOp, Instr.mapUpdate, run_underlying ht, hx, hy, hz, run_getMap h1, D.check _ a w, h3, Result.andThen, run_setMap _ h1]; rfl, rfl, fun c => by simp⟩, ⟨es.push ⟨kv a, v, c⟩, c + 1, ?_, ?_⟩, setMap_bel⟩
  · have hl : b < w.heap.size := (Array.getElem?_eq_some_iff.1 h1).1
    show (w.heap.setIfInBounds b _)[b]? = _
    rw [Array.getElem?_setIfInBounds, if_pos rfl, if_pos hl]
  · rw [Array.toList_push, List.map_append, h2, List.map_append]; rfl
end
section
variable {P : Program} {f : Fr} {w : World} {d : Option Tmp} {ty : TypeId} {pos : String} {aft : Array Edge} {g : Option (Nat × Bool)} {x y z : Operand} {t K El : TypeId}
theorem kd_int {k : IntKind} (h : P.underlying K = some (.int k)) : KD P K (.int k) (fun a : Int => .int k a) where
  und := h
  same := fun a b => by
    simp only [Instr.sameNow, if_true, Option.some.injEq]
    by_cases e : a = b
    · subst e; simp
    · simp [e]
  check := fun e a w => (fun n => show (Instr.checkKey e (n + 1) K (.int k a)).run P w = .ok () w by simp [Instr.checkKey, run_underlying h, Result.andThen]) 9999
  stays := fun a w => by simp [Instr.keyThatStays, Instr.sameBits]
theorem kd_str (h : P.underlying K = some .string) : KD P K .string strv where
  und := h
  same := fun a b => by
    have hi : strv a = strv b ↔ a = b := ⟨fun e => by simpa [strv] using e, fun e => by rw [e]⟩
    obtain ⟨r, h1, h2⟩ := MapKept.sameNow_of_keys (d := .string) (a := strv a) (b := strv b) trivial trivial
    rw [h1]
    by_cases e : a = b
    · rw [decide_eq_true e, h2.mpr (hi.mpr e)]
    · rw [decide_eq_false e]
      cases r with
      | false => rfl
      | true => exact absurd (hi.mp (h2.mp rfl)) e
  check := fun e a w => (fun n => show (Instr.checkKey e (n + 1) K (strv a)).run P w = .ok () w by simp [Instr.checkKey, run_underlying h, strv, Result.andThen]) 9999
  stays := fun a w => by
    exact MapKept.run_keyThatStays (d := .string) (k := strv a) trivial
theorem Y.addI32 {a b : Int} {xt yt : TypeId} (hx : ev f x = .int .i32 a) (hy : ev f y = .int .i32 b) (h : -2147483648 ≤ a + b ∧ a + b ≤ 2147483647) : Y P ⟨d, .binOp .add xt x y yt, ty, pos, aft, g⟩ f w (.int .i32 (a + b)) := Y.addR hx hy h
theorem Y.subI32 {a b : Int} {xt yt : TypeId} (hx : ev f x = .int .i32 a) (hy : ev f y = .int .i32 b) (h : -2147483648 ≤ a - b ∧ a - b ≤ 2147483647) : Y P ⟨d, .binOp .sub xt x y yt, ty, pos, aft, g⟩ f w (.int .i32 (a - b)) := Y.subR hx hy h
theorem Y.mulI32 {a b : Int} {xt yt : TypeId} (hx : ev f x = .int .i32 a) (hy : ev f y = .int .i32 b) (h : -2147483648 ≤ a * b ∧ a * b ≤ 2147483647) : Y P ⟨d, .binOp .mul xt x y yt, ty, pos, aft, g⟩ f w (.int .i32 (a * b)) := Y.mulR hx hy h
theorem Y.addN8 {a b : Int} {xt yt : TypeId} (hx : ev f x = .int .u8 a) (hy : ev f y = .int .u8 b) (h : 0 ≤ a + b ∧ a + b ≤ 255) : Y P ⟨d, .binOp .add xt x y yt, ty, pos, aft, g⟩ f w (.int .u8 (a + b)) := Y.addR hx hy h
theorem Y.subN8 {a b : Int} {xt yt : TypeId} (hx : ev f x = .int .u8 a) (hy : ev f y = .int .u8 b) (h : 0 ≤ a - b ∧ a - b ≤ 255) : Y P ⟨d, .binOp .sub xt x y yt, ty, pos, aft, g⟩ f w (.int .u8 (a - b)) := Y.subR hx hy h
/-- shifts and masks of small numbers of 32 bits -/
theorem Y.shl4I32 {a : Nat} {xt yt : TypeId} {k : IntKind} (hx : ev f x = .int .i32 (a : Int)) (hy : ev f y = .int k 4) (ha : a < 65536) : Y P ⟨d, .binOp .shl xt x y yt, ty, pos, aft, g⟩ f w (.int .i32 ((16 * a : Nat) : Int)) := by
  refine Y.bin_of hx hy (by simp [eqGuard]) ?_
  have h1 : IntKind.i32.wrap ((a : Int) * 2 ^ min 4 32) = ((16 * a : Nat) : Int) := by
    rw [show (2 : Int) ^ min 4 32 = 16 by decide, wrap_id (by simp only [IntKind.min, IntKind.max, IntKind.signed, IntKind.bits]; omega)]
    omega
  show (pure (Value.int .i32 (IntKind.i32.wrap ((a : Int) * 2 ^ min 4 32))) : Sem Value) = _
  rw [h1]
theorem Y.shr4I32 {a : Nat} {xt yt : TypeId} {k : IntKind} (hx : ev f x = .int .i32 (a : Int)) (hy : ev f y = .int k 4) : Y P ⟨d, .binOp .shr xt x y yt, ty, pos, aft, g⟩ f w (.int .i32 ((a / 16 : Nat) : Int)) := by
  refine Y.bin_of hx hy (by simp [eqGuard]) ?_
  have h1 : (a : Int).fdiv (2 ^ min 4 32) = ((a / 16 : Nat) : Int) := by
    rw [show (2 : Int) ^ min 4 32 = 16 by decide, Int.fdiv_eq_ediv_of_nonneg _ (by decide)]
    omega
  show (pure (Value.int .i32 ((a : Int).fdiv (2 ^ min 4 32))) : Sem Value) = _
  rw [h1]
theorem ofInt_nat32 (a : Nat) : BitVec.ofInt 32 (a : Int) = BitVec.ofNat 32 a := by
  apply BitVec.eq_of_toNat_eq
  rw [BitVec.toNat_ofInt, BitVec.toNat_ofNat]
  omega
theorem Y.and15I32 {a : Nat} {xt yt : TypeId} (hx : ev f x = .int .i32 (a : Int)) (hy : ev f y = .int .i32 15) (ha : a < 2147483648) : Y P ⟨d, .binOp .and xt x y yt, ty, pos, aft, g⟩ f w (.int .i32 ((a % 16 : Nat) : Int)) := by
  refine Y.bin_of hx hy (by simp [eqGuard]) ?_
  show (pure (Value.int .i32 (IntKind.i32.wrap ((BitVec.ofInt 32 (a : Int) &&& BitVec.ofInt 32 ((15 : Nat) : Int)).toNat : Int))) : Sem Value) = _
  have h2 : (BitVec.ofInt 32 (a : Int) &&& BitVec.ofInt 32 ((15 : Nat) : Int)).toNat = a % 16 := by
    rw [ofInt_nat32, ofInt_nat32, BitVec.toNat_and, BitVec.toNat_ofNat, BitVec.toNat_ofNat, Nat.mod_eq_of_lt (by omega), Nat.mod_eq_of_lt (by omega)]
    exact Nat.and_two_pow_sub_one_eq_mod a 4
  rw [h2, wrap_id (by simp only [IntKind.min, IntKind.max, IntKind.signed, IntKind.bits]; omega)]
theorem Y.or16I32 {a b : Nat} {xt yt : TypeId} (hx : ev f x = .int .i32 ((16 * a : Nat) : Int)) (hy : ev f y = .int .i32 (b : Int)) (ha : a < 65536) (hb : b < 16) : Y P ⟨d, .binOp .or xt x y yt, ty, pos, aft, g⟩ f w (.int .i32 ((16 * a + b : Nat) : Int)) := by
  refine Y.bin_of hx hy (by simp [eqGuard]) ?_
  show (pure (Value.int .i32 (IntKind.i32.wrap ((BitVec.ofInt 32 ((16 * a : Nat) : Int) ||| BitVec.ofInt 32 (b : Int)).toNat : Int))) : Sem Value) = _
  have h2 : (BitVec.ofInt 32 ((16 * a : Nat) : Int) ||| BitVec.ofInt 32 (b : Int)).toNat = 16 * a + b := by
    rw [ofInt_nat32, ofInt_nat32, BitVec.toNat_or, BitVec.toNat_ofNat, BitVec.toNat_ofNat, Nat.mod_eq_of_lt (by omega), Nat.mod_eq_of_lt (by omega)]
    have := Nat.shiftLeft_add_eq_or_of_lt (show b < 2 ^ 4 by omega) a
    rw [Nat.shiftLeft_eq] at this
    rw [show 16 * a = a * 2 ^ 4 by omega]
    exact this.symm
  rw [h2, wrap_id (by simp only [IntKind.min, IntKind.max, IntKind.signed, IntKind.bits]; omega)]
theorem Y.eqmn {p : Option Nat} {yt : TypeId} (ht : P.underlying t = some (.map K El)) (hx : ev f x = .map p) (hy : ev f y = .map none) : Y P ⟨d, .binOp .eql t x y yt, ty, pos, aft, g⟩ f w (.bool p.isNone) :=
  Y.eq_of hx hy rfl (by simp [eqGuard]) fun n => by cases p <;> simp [Op.equalIn, run_underlying ht]
end
end Go.Cx
