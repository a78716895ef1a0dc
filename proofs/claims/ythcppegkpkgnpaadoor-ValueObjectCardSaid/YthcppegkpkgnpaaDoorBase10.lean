/-
  make of a length, of elements of several cells.
-/
import Derived.Test.YthcppegkpkgnpaaDoorBase9
namespace Go.Cx
set_option linter.unusedVariables false
open Go Go.RowKit
variable {P : Program} {f : Fr} {w : World} {d : Option Tmp} {ty : TypeId} {pos : String} {aft : Array Edge} {g : Option (Nat × Bool)} {x y z c : Operand} {t e at' : TypeId}
theorem flat_get {α : Type} {enc : α → List Value} {k : Nat} (h : ∀ a, (enc a).length = k) (ls : List α) (j r : Nat) (hj : j < ls.length) (hr : r < k) : (ls.flatMap enc)[j * k + r]? = (enc ls[j])[r]? := by
  have h1 := flat_at h ls j hj
  have h2 : (((ls.flatMap enc).drop (j * k)).take k)[r]? = (enc ls[j])[r]? := by rw [h1]
  rwa [List.getElem?_take, if_pos hr, List.getElem?_drop] at h2
theorem made_flat {α : Type} {enc : α → List Value} {k : Nat} (h : ∀ a, (enc a).length = k) (hk : 0 < k) (a0 : α) (zc : Array Value) (hz : zc.toList = enc a0) (n : Nat) : (madeCells zc (n * k)).toList = (List.replicate n a0).flatMap enc := by
  have hzs : zc.size = k := by rw [← Array.length_toList, hz, h]
  apply List.ext_getElem?
  intro i
  by_cases hi : i < n * k
  · have hq : i / k < n := (Nat.div_lt_iff_lt_mul hk).2 hi
    have hr : i % k < k := Nat.mod_lt _ hk
    have e : i = i / k * k + i % k := by rw [Nat.mul_comm]; exact (Nat.div_add_mod i k).symm
    have h2 := flat_get h (List.replicate n a0) (i / k) (i % k) (by simpa using hq) hr
    rw [← e] at h2
    rw [h2]
    simp only [List.getElem_replicate]
    unfold madeCells
    simp only [Array.toList_map, Array.toList_range, List.getElem?_map, List.getElem?_range hi, Option.map_some]
    rw [← hz, hzs]
    have hlt : i % k < zc.size := by omega
    rw [getElem!_pos zc (i % k) hlt]
    simp [hlt]
  · rw [List.getElem?_eq_none (by rw [Array.length_toList]; unfold madeCells; simp; omega), List.getElem?_eq_none (by rw [flat_len h]; simp; omega)]
theorem E.makeK {α : Type} {enc : α → List Value} {zv : Value} {k by' n : Nat} {nI : Int} {k1 k2 : IntKind} (a0 : α) (henc : ∀ a, (enc a).length = k) (hk : 0 < k) (hz : zv.cells.toList = enc a0) (ht : P.underlying t = some (.slice e)) (hi : TI P e zv k by') (hx : ev f x = .int k1 nI) (hy : ev f y = .int k2 nI) (hn : nI = (n : Int)) (hb : by' * n ≤ 281474976710656) (h63 : n ≤ maxLen) :
    ∃ v w', E P ⟨d, .makeSlice t x y, ty, pos, aft, g⟩ f w v w' ∧ (v = .slice (some ⟨w.heap.size, 0, none⟩) n n ∧ OwnK w' w.heap.size e k v n ((List.replicate n a0).flatMap enc) ∧ Below w.heap.size w w') := by
  subst hn
  have := E.makeSlice (P := P) (w := w) (f := f) (d := d) (ty := ty) (pos := pos) (aft := aft) (g := g) ht hi hx hy (by omega) (Int.le_refl _) (by rw [← Int.natCast_mul]; exact Int.ofNat_le.mpr hb) (by unfold maxLen at h63; omega)
  refine ⟨_, _, this, rfl, ⟨by rw [flat_len henc]; simp, .inr ⟨0, n, madeCells zv.cells (n * k), by simp, heap_alloc_new w _, Nat.le_refl _, h63, by unfold madeCells; simp, ?_⟩⟩, (Below.refl _ _).alloc (Nat.le_refl _) _⟩
  rw [List.drop_zero, made_flat henc hk a0 _ hz, List.take_of_length_le (by rw [flat_len henc]; simp)]
end Go.Cx
