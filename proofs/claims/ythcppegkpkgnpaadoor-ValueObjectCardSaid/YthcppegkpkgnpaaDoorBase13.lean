/-
  Bytes made of a string: a row that bears the run-time's mark behind its cells.
-/
import Derived.Test.YthcppegkpkgnpaaDoorBase9
import Derived.Test.YthcppegkpkgnpaaDoorBase12
import Derived.Laws.IdiomStrings
namespace Go.Cx
set_option linter.unusedVariables false
open Go Go.RowKit
section
variable {P : Program} {f : Fr} {w w' : World} {d : Option Tmp} {ty : TypeId} {pos : String} {aft : Array Edge} {g : Option (Nat × Bool)} {x y : Operand} {t e : TypeId}
/-- block b holds, in front, the cells xs; what is marked lies behind all cells -/
def FB (w : World) (b : Nat) (t : TypeId) (xs : List Value) : Prop :=
  ∃ cur fz, w.heap[b]? = some (.cells cur t fz) ∧ cur.size ≤ fz.1 ∧ xs.length ≤ cur.size ∧ cur.toList.take xs.length = xs
theorem FB.lt {b : Nat} {xs : List Value} (h : FB w b t xs) : b < w.heap.size := by
  obtain ⟨_, _, h, _⟩ := h
  exact (Array.getElem?_eq_some_iff.1 h).1
theorem FB.bel {b : Nat} {xs : List Value} (h : FB w b t xs) (hb : Below w.heap.size w w') : FB w' b t xs := by
  have hl := h.lt
  obtain ⟨cur, fz, h1, h2⟩ := h
  exact ⟨cur, fz, (hb.block b hl).trans h1, h2⟩
theorem FB.cells {b : Nat} {xs : List Value} (h : FB w b t xs) : Cells w b 0 xs := by
  obtain ⟨cur, fz, h1, h2, h3, h4⟩ := h
  intro i u hu
  have hi : i < xs.length := (List.getElem?_eq_some_iff.1 hu).1
  have h5 : w.cell? ⟨b, i, none⟩ = cur[i]? := by simp [World.cell?, h1]
  rw [Nat.zero_add, h5, ← hu, ← h4, List.getElem?_take, if_pos (by omega)]
  simp
theorem FB.sl {b n cap : Nat} {xs : List Value} (h : FB w b t xs) (hx : xs.length = n) (h1 : n ≤ cap) (h2 : cap ≤ maxLen) : SlK w 1 (.slice (some ⟨b, 0, none⟩) n cap) n xs := by
  refine ⟨by omega, by omega, _, cap, rfl, h1, h2, fun i u hu => ⟨b, 0, rfl, ?_⟩⟩
  exact h.cells i u hu
theorem E.s2b {l : List UInt8} {src dst : TypeId} (hs : P.underlying src = some .string) (hd : P.underlying dst = some (.slice e)) (he : P.underlying e = some (.int .u8)) (hx : ev f x = strv l) (hl : l.length ≤ maxLen) :
    ∃ v w', E P ⟨d, .convert src dst x, ty, pos, aft, g⟩ f w v w' ∧ (∃ cap, v = .slice (some ⟨w.heap.size, 0, none⟩) l.length cap ∧ l.length ≤ cap ∧ cap ≤ maxLen ∧ FB w' w.heap.size e (l.map u8v) ∧ Below w.heap.size w w') := by
  have hr := run_bytes_of_string (P := P) w src dst e ⟨l.toArray⟩ hs hd he
  have hge := grownCap_ge w l.length 0 e
  have hle := grownCap_le_maxLen w l.length 0 e hl
  rw [ba_size] at hr
  generalize grownCap w l.length 0 e = cap at hr hge hle
  have hz : (bytesRow ⟨l.toArray⟩ cap).toList = l.map u8v ++ List.replicate (cap - l.length) (.int .u8 0) := by
    simp only [bytesRow, ba_size, Array.toList_append, Array.toList_map, Array.toList_replicate]
  have hsz : (bytesRow ⟨l.toArray⟩ cap).size = cap := by
    rw [← Array.length_toList, hz]
    simp only [List.length_append, List.length_map, List.length_replicate]
    omega
  generalize bytesRow ⟨l.toArray⟩ cap = row at hr hz hsz
  have hE : E P ⟨d, .convert src dst x, ty, pos, aft, g⟩ f w (.slice (some ⟨w.heap.size, 0, none⟩) l.length cap) (w.drew.alloc (.cells row e (row.size, row.size + 1))) := by
    simp only [strv] at hx
    exact .inl (by simp [execOp, hx, hr])
  refine ⟨_, _, hE, cap, rfl, hge, hle, ⟨row, (row.size, row.size + 1), ?_, Nat.le_refl _, ?_, ?_⟩, ?_⟩
  · show (w.heap.push _)[w.heap.size]? = _
    simp
  · rw [List.length_map]; omega
  · rw [hz, List.take_append_of_le_length (by simp), List.take_of_length_le (by simp)]
  · exact (Below.refl _ _).drew.alloc (Nat.le_refl _) _
/-- a store into one of its cells -/
theorem E.storeFB {zv u : Value} {by' b j : Nat} {bt : TypeId} {xs : List Value} (hi : TI P t zv 1 by') (hx : ev f x = .pointer (some ⟨b, j, none⟩)) (hy : ev f y = u) (h1 : One u = true) (hB : FB w b bt xs) (hj : j < xs.length) :
    ∃ v w', E P ⟨d, .store t x y, ty, pos, aft, g⟩ f w v w' ∧ (FB w' b bt (xs.set j u) ∧ w.grownBy w' (some b)) := by
  obtain ⟨cur, fz, h2, h3, h4, h5⟩ := hB
  have hcell : w.cell? ⟨b, j, none⟩ = some cur[j] := by simp [World.cell?, h2, show j < cur.size by omega]
  have hfro : w.frozen? ⟨b, j, none⟩ = false := by
    obtain ⟨lo, hi'⟩ := fz
    simp only [World.frozen?, h2, Bool.and_eq_false_iff, decide_eq_false_iff_not]
    left
    simp only at h3
    omega
  have hadd : (⟨b, j, none⟩ : Addr).add 0 = ⟨b, j, none⟩ := by unfold Addr.add; split <;> simp_all
  have hst : (store ((⟨b, j, none⟩ : Addr).add 0) u).run P w = .ok () (w.setRow b (cur.setIfInBounds j u)) := by
    rw [hadd, run_store P w _ u _ (One.one h1), hcell]
    simp [hfro, setCell_eq_setRow w b j cur bt fz u h2]
  have hcs := One.cells h1
  refine ⟨undef, w.setRow b (cur.setIfInBounds j u), .inr ⟨?_, rfl, fun c => by simp⟩, ⟨cur.setIfInBounds j u, fz, setRow_heap w b cur _ bt fz h2, by simpa using h3, by simpa using h4, ?_⟩, ⟨rfl, rfl, rfl, by simp [World.setRow], fun k hk hne => setRow_other w b k _ (fun e => hne (by rw [e]))⟩⟩
  · simp [execOp, hx, hy, Instr.storeAt, Instr.sureAddr, storeVar, run_sizeOf hi, hcs, storeCells, hst]
  · rw [Array.toList_setIfInBounds, List.length_set, List.take_set, h5]
end
end Go.Cx
