/-
  Some cells of a block, written; a part of a row, cleared.
-/
import Derived.Test.YtlhhognabmnlmaaBase10
namespace Go.Cx
set_option linter.unusedVariables false
open Go Go.RowKit
/-- a store of some cells of a block -/
theorem E.storeSub {P : Program} {f : Fr} {w : World} {d : Option Tmp} {ty : TypeId} {pos : String} {aft : Array Edge} {g : Option (Nat × Bool)} {x y : Operand} {t bt : TypeId} {z : Value} {n by' b p : Nat} {us vs : List Value} (hi : TI P t z n by') (hn : us.length = n) (hx : ev f x = .pointer (some ⟨b, p, none⟩)) (hy : ev f y = .agg us.toArray) (h1 : ∀ u ∈ us, One u = true) (hB : Blk w b bt vs) (hp : p + n ≤ vs.length) :
    ∃ v w', E P ⟨d, .store t x y, ty, pos, aft, g⟩ f w v w' ∧ (Blk w' b bt (vs.take p ++ us ++ vs.drop (p + n)) ∧ w.grownBy w' (some b)) := by
  subst hn
  have hst : (storeCells ⟨b, p, none⟩ us 0).run P w = .ok () (w.setRow b (vs.take p ++ us ++ vs.drop (p + us.length)).toArray) := by
    have := run_storeCells_at P b p bt us 0 vs.toArray w hB (by simp; omega) (fun u hu => One.one (h1 u hu))
    simpa using this
  refine ⟨undef, w.setRow b (vs.take p ++ us ++ vs.drop (p + us.length)).toArray, .inr ⟨?_, rfl, fun c => by simp⟩, ?_, ⟨rfl, rfl, rfl, by simp [World.setRow], fun q hq hne => setRow_other w b q _ (fun e => hne (by rw [e]))⟩⟩
  · simp [execOp, hx, hy, Instr.storeAt, Instr.sureAddr, storeVar, run_sizeOf hi, Value.cells]
    simp only [List.append_assoc] at hst
    rw [hst]
    rfl
  · exact setRow_heap w b vs.toArray (vs.take p ++ us ++ vs.drop (p + us.length)).toArray bt _ hB
/-- make of no elements, with room -/
theorem E.make0K {P : Program} {f : Fr} {w : World} {d : Option Tmp} {ty : TypeId} {pos : String} {aft : Array Edge} {g : Option (Nat × Bool)} {x y : Operand} {t e : TypeId} {z : Value} {k by' c : Nat} {cI : Int} {k1 k2 : IntKind} (ht : P.underlying t = some (.slice e)) (hi : TI P e z k by') (hx : ev f x = .int k1 0) (hy : ev f y = .int k2 cI) (hc : cI = (c : Int)) (hb : by' * c ≤ 281474976710656) (h63 : c ≤ maxLen) :
    ∃ v w', E P ⟨d, .makeSlice t x y, ty, pos, aft, g⟩ f w v w' ∧ (v = .slice (some ⟨w.heap.size, 0, none⟩) 0 c ∧ OwnK w' w.heap.size e k v 0 [] ∧ Below w.heap.size w w' ∧ w.heap.size < w'.heap.size) := by
  subst hc
  have := E.makeSlice (P := P) (w := w) (f := f) (d := d) (ty := ty) (pos := pos) (aft := aft) (g := g) ht hi hx hy (by omega) (by omega) (by rw [← Int.natCast_mul]; exact Int.ofNat_le.mpr hb) (by unfold maxLen at h63; omega)
  refine ⟨_, _, this, rfl, ⟨by simp, .inr ⟨0, c, madeCells z.cells (c * k), by simp, heap_alloc_new w _, Nat.zero_le _, h63, by unfold madeCells; simp, by simp⟩⟩, (Below.refl _ _).alloc (Nat.le_refl _) _, (Array.getElem?_eq_some_iff.1 (heap_alloc_new w (.cells (madeCells z.cells (c * k)) e))).1⟩
theorem made_one {z : Array Value} (h : ∀ u ∈ z.toList, One u = true) (h0 : 0 < z.size) (n : Nat) : ∀ u ∈ (madeCells z n).toList, One u = true := by
  intro u hu
  unfold madeCells at hu
  simp only [Array.toList_map, List.mem_map] at hu
  obtain ⟨i, _, rfl⟩ := hu
  have hlt : i % z.size < z.size := Nat.mod_lt _ h0
  rw [getElem!_pos z (i % z.size) hlt]
  exact h _ (by simp)
/-- clear a row's first elements -/
theorem E.clearK {P : Program} {f : Fr} {w : World} {d : Option Tmp} {ty : TypeId} {pos : String} {aft : Array Edge} {g : Option (Nat × Bool)} {x : Operand} {at' e : TypeId} {zv : Value} {k by' bl n m cap cap' : Nat} {a a' : Option Addr} {xs : List Value} (ht : P.underlying at' = some (.slice e)) (hi : TI P e zv k by') (hz : zv.cells.size = k) (hz1 : ∀ u ∈ zv.cells.toList, One u = true) (hk : 0 < k)
    (hs : OwnK w bl e k (.slice a n cap) n xs) (hx : ev f x = .slice a' m cap') (ha : 0 < m → a' = a) (hm : m ≤ n) :
    ∃ v w', E P ⟨d, .call ⟨.builtin .clear, #[x], #[at']⟩, ty, pos, aft, g⟩ f w v w' ∧ ((∃ zs, zs.length = m * k ∧ OwnK w' bl e k (.slice a n cap) n (zs ++ xs.drop (m * k))) ∧ w.grownBy w' (Value.slice a n cap).ownBlock) := by
  rcases Nat.eq_zero_or_pos m with hm0 | hm0
  · subst hm0
    refine ⟨.tuple #[], w, .inl ?_, ⟨[], by simp, by simpa using hs⟩, ⟨rfl, rfl, rfl, Nat.le_refl _, fun _ _ _ => rfl⟩⟩
    cases a' <;> simp [execOp, resolve, invoke, builtin, Builtin.clear_, hx, run_underlying ht]
  · obtain rfl := ha hm0
    obtain ⟨o, ho⟩ : ∃ o, a' = some ⟨bl, o, none⟩ := by
      rcases hs.2 with ⟨hv, h0⟩ | ⟨o, c, cur, hv, _⟩
      · omega
      · cases hv; exact ⟨o, rfl⟩
    subst ho
    have hzl : (Builtin.zeroCells zv.cells m).toList.length = m * k := by rw [Array.length_toList, size_zeroCells, hz]
    have hmk : m * k ≤ n * k := Nat.mul_le_mul_right _ hm
    obtain ⟨w', hr, h2, h3⟩ := hs.wrote (P := P) (p := 0) (us := (Builtin.zeroCells zv.cells m).toList) (by rw [hzl]; omega) (fun u hu => made_one hz1 (by omega) (m * zv.cells.size) u hu)
    rw [hzl] at h2
    simp only [List.take_zero, List.nil_append, Nat.zero_add] at h2
    refine ⟨.tuple #[], w', .inl ?_, ⟨_, hzl, h2⟩, h3⟩
    have hm1 : m ≠ 0 := by omega
    obtain ⟨m', rfl⟩ : ∃ m', m = m' + 1 := ⟨m - 1, by omega⟩
    simp only [Nat.add_zero] at hr
    simp [execOp, resolve, invoke, builtin, Builtin.clear_, hx, run_underlying ht, run_zeroValue hi, hr]
end Go.Cx
