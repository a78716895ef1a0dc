/-
  Function values with a receiver; results that are a struct and a word; slices of one's own that begin anywhere.
-/
import Derived.Test.YthcppegkpkgnpaaDoorBase7
namespace Go.Cx
set_option linter.unusedVariables false
open Go Go.RowKit
variable {P : Program} {f : Fr} {w : World} {d : Option Tmp} {ty : TypeId} {pos : String} {aft : Array Edge} {g : Option (Nat × Bool)} {x y z c : Operand} {t e at' : TypeId}
theorem C.valueX {h : FuncId} {args : List Operand} {fst cap : List Value} {at' : Array TypeId} (hf : GoFn P h) (hx : ev f x = .func (.func h) fst.toArray cap.toArray) :
    C P ⟨d, .call ⟨.value x, args.toArray, at'⟩, ty, pos, aft, g⟩ f w h (fst ++ args.map (ev f) ++ cap).toArray := by
  simp [C, execOp, resolve, hx, Deferred.ofValue, invoke, hf _ _]
theorem endQ.cell2 {R : Value → World → Prop} {ds' : TypeDesc} {zv : Value} {by' a b o u : Nat} {vs : List Value} {ex : Exit} (ht : P.underlying t = some ds') (ha : aggD ds' = true) (hi : TI P t zv vs.length by') (he : ex = .normal ∨ ex = .ret) (hx : f a = .pointer (some ⟨b, o, none⟩)) (hc : Cells w b o vs) (h : R (.tuple #[.agg vs.toArray, f u]) w) :
    endQ P #[.cell a t, .tmp u] R ex f [] w :=
  ⟨he, rfl, .tuple #[.agg vs.toArray, f u], by simp [resS, hx, asAddr, loadVar, run_isAgg ht, ha, run_sizeOf hi, run_loadCells hc], h⟩
/-- v is a slice of one-cell elements, of memory of one's own (from block B on): the elements are xs. -/
def OwnS (w : World) (B : Nat) (v : Value) (xs : List Value) : Prop :=
  xs.length ≤ maxLen ∧ ∃ a cap, v = .slice a xs.length cap ∧ xs.length ≤ cap ∧ cap ≤ maxLen ∧ (xs = [] ∨ ∃ b o cur t, a = some ⟨b, o, none⟩ ∧ B ≤ b ∧ w.heap[b]? = some (.cells cur t (0, 0)) ∧ o + xs.length ≤ cur.size ∧ (cur.toList.drop o).take xs.length = xs)
theorem OwnS.sl {B : Nat} {v : Value} {xs : List Value} (h : OwnS w B v xs) : SlK w 1 v xs.length xs := by
  obtain ⟨h1, a, cap, rfl, h2, h3, h4⟩ := h
  refine ⟨by omega, h1, a, cap, rfl, h2, h3, fun i u hu => ?_⟩
  rcases h4 with rfl | ⟨b, o, cur, t, rfl, hb, hg, hs, ht⟩
  · simp at hu
  · refine ⟨b, o, rfl, ?_⟩
    rw [cell_of_row w b (o + i) cur t (0, 0) hg]
    rw [← ht, List.getElem?_take] at hu
    split at hu
    · rw [List.getElem?_drop] at hu; simpa using hu
    · cases hu
theorem OwnS.bel {w' : World} {B : Nat} {v : Value} {xs : List Value} (h : OwnS w B v xs) (hb : Below w.heap.size w w') : OwnS w' B v xs := by
  obtain ⟨h1, a, cap, rfl, h2, h3, h4⟩ := h
  refine ⟨h1, a, cap, rfl, h2, h3, ?_⟩
  rcases h4 with h | ⟨b, o, cur, t, rfl, hB, hg, hs, ht⟩
  · exact .inl h
  · exact .inr ⟨b, o, cur, t, rfl, hB, (hb.block b (Array.getElem?_eq_some_iff.1 hg).1).trans hg, hs, ht⟩
theorem OwnS.mono {B B' : Nat} {v : Value} {xs : List Value} (h : OwnS w B v xs) (hB : B' ≤ B) : OwnS w B' v xs := by
  obtain ⟨h1, a, cap, rfl, h2, h3, h4⟩ := h
  refine ⟨h1, a, cap, rfl, h2, h3, ?_⟩
  rcases h4 with h | ⟨b, o, cur, t, rfl, hb, hg, hs, ht⟩
  · exact .inl h
  · exact .inr ⟨b, o, cur, t, rfl, Nat.le_trans hB hb, hg, hs, ht⟩
theorem OwnS.of {B : Nat} {v : Value} {n : Nat} {xs : List Value} (h : w.ownsRow B e 1 v n xs) : OwnS w B v xs := by
  have hl : xs.length = n := by have := h.1; omega
  rcases h.2 with ⟨rfl, rfl⟩ | ⟨b, cap, cur, rfl, hb, hg, hn, hm, hs, ht⟩
  · have : xs = [] := List.eq_nil_of_length_eq_zero hl
    subst this
    exact ⟨Nat.zero_le _, none, 0, rfl, Nat.le_refl _, Nat.zero_le _, .inl rfl⟩
  · rw [← hl] at hn ht ⊢
    refine ⟨Nat.le_trans hn hm, _, cap, rfl, hn, hm, .inr ⟨b, 0, cur, e, rfl, hb, hg, by omega, ?_⟩⟩
    rw [List.drop_zero]
    rw [Nat.mul_one] at ht
    exact ht
/-- seen: where it lies -/
theorem OwnS.form {B : Nat} {v : Value} {xs : List Value} (h : OwnS w B v xs) (hn : 0 < xs.length) : ∃ b o cap, v = .slice (some ⟨b, o, none⟩) xs.length cap ∧ B ≤ b ∧ b < w.heap.size := by
  obtain ⟨h1, a, cap, rfl, h2, h3, h4⟩ := h
  rcases h4 with rfl | ⟨b, o, cur, t, rfl, hB, hg, hs, ht⟩
  · simp at hn
  · exact ⟨b, o, cap, rfl, hB, (Array.getElem?_eq_some_iff.1 hg).1⟩
theorem OwnS.cell {B b o n cap : Nat} {xs : List Value} (h : OwnS w B (.slice (some ⟨b, o, none⟩) n cap) xs) (j : Nat) (hj : j < xs.length) : w.cell? ⟨b, o + j, none⟩ = xs[j]? := by
  obtain ⟨hl, _, a, cap', hv, _, _, hc⟩ := h.sl
  obtain ⟨b', o', ha, hcell⟩ := hc j xs[j] (by simp [hj])
  have : a = some ⟨b, o, none⟩ := by cases hv; rfl
  rw [this] at ha
  cases ha
  rw [hcell]; simp [hj]
theorem Y.idxO {u : Value} {b o n cap by' j k : Nat} {ki : IntKind} {i : Int} (ht : P.underlying t = some (.slice e)) (hi : TI P e u 1 by') (hx : ev f x = .slice (some ⟨b, o, none⟩) n cap) (hy : ev f y = .int ki i) (hj : i = (j : Int)) (h1 : j < n) (hk : o + j = k) (w' : World) :
    Y P ⟨d, .indexAddr t x y, ty, pos, aft, g⟩ f w' (.pointer (some ⟨b, k, none⟩)) := by
  subst hj; subst hk
  have := Y.idxV (P := P) (d := d) (ty := ty) (pos := pos) (aft := aft) (g := g) ht hi hx hy (by omega) (by omega) w'
  simpa using this
theorem E.storeS {u0 u : Value} {by' B b o n cap j k : Nat} {xs : List Value} (hi : TI P t u0 1 by') (hx : ev f x = .pointer (some ⟨b, k, none⟩)) (hy : ev f y = u) (h1 : One u = true) (ho : OwnS w B (.slice (some ⟨b, o, none⟩) n cap) xs) (hj : j < xs.length) (hk : o + j = k) :
    ∃ v w', E P ⟨d, .store t x y, ty, pos, aft, g⟩ f w v w' ∧ (OwnS w' B (.slice (some ⟨b, o, none⟩) n cap) (xs.set j u) ∧ w.grownBy w' (some b)) := by
  subst hk
  have hc := ho.cell j hj
  obtain ⟨h9, a, cap', hv, h2, h3, h4⟩ := ho
  rcases h4 with rfl | ⟨b', o', cur, t', ha, hB, hg, hs, htk⟩
  · simp at hj
  · cases hv
    cases ha
    have hfz : w.frozen? ⟨b, o + j, none⟩ = false := frozen_of_row w b (o + j) cur t' hg
    refine ⟨_, _, E.store1 (old := xs[j]) hi hx hy h1 rfl (by rw [hc]; simp [hj]) hfz, ⟨by simpa using h9, _, cap, by simp, by simpa using h2, h3, .inr ⟨b, o, cur.setIfInBounds (o + j) u, t', rfl, hB, heap_setCell_same w b (o + j) cur t' u hg, by simpa using hs, ?_⟩⟩, ⟨rfl, rfl, rfl, by simp, fun q hq hne => heap_setCell_other (fun e => hne (by rw [e]))⟩⟩
    rw [Array.toList_setIfInBounds, List.length_set]
    rw [show (List.drop o (cur.toList.set (o + j) u)) = (cur.toList.drop o).set j u by rw [List.drop_set, if_neg (by omega), Nat.add_sub_cancel_left]]
    rw [List.take_set, htk]
theorem OwnS.grown {w' : World} {B b : Nat} {v : Value} {xs : List Value} (h : OwnS w B v xs) (hg : w.grownBy w' (some b)) (hne : ∀ b' o c, v = .slice (some ⟨b', o, none⟩) xs.length c → b' ≠ b) : OwnS w' B v xs := by
  obtain ⟨h1, a, cap, rfl, h2, h3, h4⟩ := h
  refine ⟨h1, a, cap, rfl, h2, h3, ?_⟩
  rcases h4 with h | ⟨b', o, cur, t, rfl, hB, hk, hs, ht⟩
  · exact .inl h
  · exact .inr ⟨b', o, cur, t, rfl, hB, (hg.block b' (Array.getElem?_eq_some_iff.1 hk).1 (fun e => hne b' o cap rfl (by cases e; rfl))).trans hk, hs, ht⟩
theorem OwnS.grownLt {w' : World} {B b : Nat} {v : Value} {xs : List Value} (h : OwnS w B v xs) (hg : w.grownBy w' (some b)) (hb : b < B) : OwnS w' B v xs := by
  obtain ⟨h1, a, cap, rfl, h2, h3, h4⟩ := h
  refine ⟨h1, a, cap, rfl, h2, h3, ?_⟩
  rcases h4 with h | ⟨b', o, cur, t, rfl, hB, hk, hs, ht⟩
  · exact .inl h
  · exact .inr ⟨b', o, cur, t, rfl, hB, (hg.block b' (Array.getElem?_eq_some_iff.1 hk).1 (fun e => by cases e; omega)).trans hk, hs, ht⟩
/-- from a place on -/
theorem Y.sliceFromS {B : Nat} {xs : List Value} {zv : Value} {by' : Nat} {kk : IntKind} {lI : Int} {l : Operand} (lo : Nat) (ht : P.underlying t = some (.slice e)) (hti : TI P e zv 1 by') (hs : OwnS w B (ev f x) xs)
    (hh : ev f l = .int kk lI) (he : lI = (lo : Int)) (hle : lo ≤ xs.length) :
    ∃ v, (∀ w', Y P ⟨d, .slice t x (some l) none none, ty, pos, aft, g⟩ f w' v) ∧ OwnS w B v (xs.drop lo) := by
  subst he
  have hsl := hs.sl
  obtain ⟨h1, a, cap, hv, h2, h3, h4⟩ := hs
  refine ⟨.slice (if cap = lo then a else a.map (·.add (lo * 1))) (xs.length - lo) (cap - lo), fun w' => ?_, ?_⟩
  · have h5 : (Instr.sliceBound (ev f l) xs.length .sliceB).run P w' = .ok lo w' := by
      rw [hh]
      simp only [Instr.sliceBound, asIntOf, Sem.run_bind, Sem.run_pure, Result.andThen_ok]
      rw [if_pos ⟨by omega, by omega⟩]; rfl
    simp [Y, execOp, Instr.sliceAt, Instr.slice, Instr.sliceBounds, hv, run_underlying ht, run_sizeOf hti, h5]
  · refine ⟨by rw [List.length_drop]; omega, _, cap - lo, by rw [List.length_drop], by rw [List.length_drop]; omega, by omega, ?_⟩
    by_cases hlo : lo = xs.length
    · exact .inl (by rw [hlo, List.drop_length])
    · rcases h4 with rfl | ⟨b, o, cur, t', rfl, hB, hg, hs', htk⟩
      · exact .inl (by simp)
      · refine .inr ⟨b, o + lo, cur, t', ?_, hB, hg, by rw [List.length_drop]; omega, ?_⟩
        · rw [if_neg (by omega), Nat.mul_one]
          simp [add_addr]
        · rw [List.length_drop, ← List.drop_drop, ← List.drop_take, htk]
theorem run_append_types {a b e2 : TypeId} (ht : P.underlying a = some (.slice e)) (ht2 : P.underlying b = some (.slice e2)) (u v : Value) : (Builtin.append_ #[a, b] ty #[u, v]).run P w = (Builtin.append_ #[a, a] ty #[u, v]).run P w := by
  cases u <;> simp [Builtin.append_, run_underlying ht, run_underlying ht2]
/-- append where the two slices' types bear two names -/
theorem E.append2 {zv : Value} {k by' n m B : Nat} {at2 e2 : TypeId} {xs news : List Value} (ht2 : P.underlying at2 = some (.slice e2)) (ht : P.underlying at' = some (.slice e)) (hi : TI P e zv k by') (hzs : zv.cells.size = k) (hk : 0 < k)
    (hs : w.ownsRow B e k (ev f x) n xs) (hy : SlK w k (ev f y) m news) (h1 : ∀ u ∈ news, One u = true) (hb : (n + m) * by' ≤ 140737488355328) (hm : n + m ≤ maxLen) (hB : B ≤ w.heap.size) :
    ∃ v w', E P ⟨d, .call ⟨.builtin .append, #[x, y], #[at', at2]⟩, ty, pos, aft, g⟩ f w v w' ∧ w'.ownsRow B e k v (n + m) (xs ++ news) ∧ Below B w w' ∧ w.grownBy w' (ev f x).ownBlock := by
  obtain ⟨v, w', h, r⟩ := E.append (P := P) (d := d) (ty := ty) (pos := pos) (aft := aft) (g := g) ht hi hzs hk hs hy h1 hb hm hB
  refine ⟨v, w', ?_, r⟩
  have key : (execOp (ev f) ⟨d, .call ⟨.builtin .append, #[x, y], #[at', at2]⟩, ty, pos, aft, g⟩).run P w = (execOp (ev f) ⟨d, .call ⟨.builtin .append, #[x, y], #[at', at']⟩, ty, pos, aft, g⟩).run P w := by
    have h2 := run_append_types (P := P) (w := w) (ty := ty) ht ht2 (ev f x) (ev f y)
    simp [execOp, resolve, invoke, builtin, h2]
  rcases h with h | h
  · exact .inl (key.trans h)
  · exact .inr ⟨key.trans h.1, h.2.1, fun c => by simp⟩
end Go.Cx
