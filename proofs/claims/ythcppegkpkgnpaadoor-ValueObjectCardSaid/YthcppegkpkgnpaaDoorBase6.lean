/-
  Writes into a slice of one's own; copy, cap, min.
-/
import Derived.Test.YthcppegkpkgnpaaDoorBase5
import Derived.Laws.OwnMore
import Derived.Laws.CopyRow
namespace Go.Cx
set_option linter.unusedVariables false
open Go Go.RowKit
variable {P : Program} {f : Fr} {w : World} {d : Option Tmp} {ty : TypeId} {pos : String} {aft : Array Edge} {g : Option (Nat × Bool)} {x y z c : Operand} {t e at' : TypeId}
theorem Y.remT {k : IntKind} {a b : Int} {xt yt : TypeId} (hx : ev f x = .int k a) (hy : ev f y = .int k b) (hb : 0 < b) : Y P ⟨d, .binOp .rem xt x y yt, ty, pos, aft, g⟩ f w (.int k (a.tmod b)) := by
  have hb0 : b ≠ 0 := by omega
  simp [Y, execOp, hx, hy, eqGuard, binOp, Op.intDiv, hb0]
/-- min of two, of three -/
theorem Y.min2 {k : IntKind} {a b m : Int} {ts : Array TypeId} (hx : ev f x = .int k a) (hy : ev f y = .int k b) (hm : m = min a b) :
    Y P ⟨d, .call ⟨.builtin .min, #[x, y], ts⟩, ty, pos, aft, g⟩ f w (.int k m) := by
  have e : (if b < a then b else a) = m := by rw [hm]; split <;> omega
  simp [Y, execOp, resolve, invoke, builtin, Builtin.min_, Builtin.min2, hx, hy, e]
theorem Y.min3 {k : IntKind} {a b q m : Int} {ts : Array TypeId} (hx : ev f x = .int k a) (hy : ev f y = .int k b) (hz : ev f z = .int k q) (hm : m = min a (min b q)) :
    Y P ⟨d, .call ⟨.builtin .min, #[x, y, z], ts⟩, ty, pos, aft, g⟩ f w (.int k m) := by
  have e : (if q < (if b < a then b else a) then q else (if b < a then b else a)) = m := by rw [hm]; split <;> split <;> omega
  simp [Y, execOp, resolve, invoke, builtin, Builtin.min_, Builtin.min2, hx, hy, hz, e]
theorem Y.capSl {a : Option Addr} {n k : Nat} (ht : P.underlying at' = some (.slice e)) (h : ev f x = .slice a n k) (w' : World) :
    Y P ⟨d, .call ⟨.builtin .cap, #[x], #[at']⟩, ty, pos, aft, g⟩ f w' (.int .i64 k) := by
  simp [Y, execOp, resolve, invoke, builtin, Builtin.cap_, h, run_underlying ht, goInt]
theorem Y.lenV {a : Option Addr} {n k : Nat} (ht : P.underlying at' = some (.slice e)) (h : ev f x = .slice a n k) (w' : World) :
    Y P ⟨d, .call ⟨.builtin .len, #[x], #[at']⟩, ty, pos, aft, g⟩ f w' (.int .i64 n) := by
  simp [Y, execOp, resolve, invoke, builtin, Builtin.len_, h, run_underlying ht, goInt]
/-- A slice of one's own that is not empty, seen. -/
theorem own_form {B n k : Nat} {v : Value} {xs : List Value} (h : w.ownsRow B e k v n xs) (hn : 0 < n) :
    ∃ b cap, v = .slice (some ⟨b, 0, none⟩) n cap ∧ B ≤ b ∧ b < w.heap.size := by
  rcases h.2 with ⟨_, h0⟩ | ⟨b, cap, cur, hv, hb, hg, _⟩
  · omega
  · exact ⟨b, cap, hv, hb, (Array.getElem?_eq_some_iff.1 hg).1⟩
/-- the address of an element, where the slice is seen -/
theorem Y.idxV {u : Value} {b o n cap k by' : Nat} {ki : IntKind} {i : Int} (ht : P.underlying t = some (.slice e)) (hi : TI P e u k by') (hx : ev f x = .slice (some ⟨b, o, none⟩) n cap) (hy : ev f y = .int ki i) (h0 : 0 ≤ i) (h1 : i < n) (w' : World) :
    Y P ⟨d, .indexAddr t x y, ty, pos, aft, g⟩ f w' (.pointer (some ⟨b, o + i.toNat * k, none⟩)) := by
  simp [Y, execOp, Instr.indexAt, hx, hy, asIntOf, run_underlying ht, h0, h1, run_sizeOf hi, add_addr]
theorem Y.idxV1 {u : Value} {b n cap by' j : Nat} {ki : IntKind} {i : Int} (ht : P.underlying t = some (.slice e)) (hi : TI P e u 1 by') (hx : ev f x = .slice (some ⟨b, 0, none⟩) n cap) (hy : ev f y = .int ki i) (hj : i = (j : Int)) (h1 : j < n) (w' : World) :
    Y P ⟨d, .indexAddr t x y, ty, pos, aft, g⟩ f w' (.pointer (some ⟨b, j, none⟩)) := by
  subst hj
  have := Y.idxV (P := P) (d := d) (ty := ty) (pos := pos) (aft := aft) (g := g) ht hi hx hy (by omega) (by omega) w'
  simpa using this
theorem own_cell {B b n cap : Nat} {xs : List Value} (h : w.ownsRow B e 1 (.slice (some ⟨b, 0, none⟩) n cap) n xs) (j : Nat) (hj : j < n) : w.cell? ⟨b, j, none⟩ = xs[j]? := h.cellAt j (by omega)
/-- a store into an element of it -/
theorem E.storeOwn {u0 u : Value} {by' B b n cap j : Nat} {xs : List Value} (hi : TI P t u0 1 by') (hx : ev f x = .pointer (some ⟨b, j, none⟩)) (hy : ev f y = u) (h1 : One u = true) (ho : w.ownsRow B e 1 (.slice (some ⟨b, 0, none⟩) n cap) n xs) (hj : j < n) :
    ∃ v w', E P ⟨d, .store t x y, ty, pos, aft, g⟩ f w v w' ∧ (w'.ownsRow B e 1 (.slice (some ⟨b, 0, none⟩) n cap) n (xs.set j u) ∧ w.grownBy w' (some b)) := by
  have hlen : j < xs.length := by have := ho.1; omega
  refine ⟨_, _, E.store1 (old := xs[j]) hi hx hy h1 rfl (by rw [own_cell ho j hj]; simp [hlen]) (ho.frozenAt j), ho.stored j u⟩
/-- copy, from the first cells of a block that is known whole -/
theorem E.copyBlk {z0 : Value} {by' b n cap : Nat} {bt : TypeId} {vs cs : List Value} {sT : TypeId} (ht : P.underlying at' = some (.slice e)) (hi : TI P e z0 1 by') (hx : ev f x = .slice (some ⟨b, 0, none⟩) n cap) (hB : Blk w b bt vs) (hy : SlK w 1 (ev f y) n cs) (hn : n ≤ vs.length) (h1 : ∀ u ∈ cs, One u = true) :
    ∃ v w', E P ⟨d, .call ⟨.builtin .copy, #[x, y], #[at', sT]⟩, ty, pos, aft, g⟩ f w v w' ∧ (Blk w' b bt (cs ++ vs.drop n) ∧ w.grownBy w' (some b)) := by
  obtain ⟨hl, _, a, cap', hv, hnc, hcm, hc⟩ := hy
  obtain ⟨i, hi1, hi2, hi3, hi4⟩ := hi.info
  rw [Nat.mul_one] at hl
  cases a with
  | none =>
    have hn0 : n = 0 := by
      cases n with
      | zero => rfl
      | succ n =>
        obtain ⟨b', o', h', _⟩ := hc 0 cs[0] (by simp)
        cases h'
    subst hn0
    have : cs = [] := List.eq_nil_of_length_eq_zero hl
    subst this
    refine ⟨goInt 0, w, .inl ?_, by simpa using hB, ⟨rfl, rfl, rfl, Nat.le_refl _, fun _ _ _ => rfl⟩⟩
    simp [execOp, resolve, invoke, builtin, Builtin.copy_, hx, hv, run_underlying ht, Builtin.lenOf, Builtin.firstCells, sizeOf, typeInfo, hi1, storeCells]
  | some a =>
    have hsrc : ∀ j v, cs[j]? = some v → w.cell? (a.add j) = some v := by
      intro j v hj
      obtain ⟨b', o', h', hcell⟩ := hc j v hj
      cases h'
      rw [add_addr]; exact hcell
    have hrun := run_copy_row (P := P) w at' sT ty e b 0 n cap a n cap' vs.toArray bt cs ht (by rw [hi1]; simp [hi3]) hB (by rw [hl]; exact (Nat.min_self n).symm) hsrc (by simp; omega) (fun u hu => One.one (h1 u hu))
    refine ⟨goInt cs.length, w.setRow b (vs.toArray.toList.take 0 ++ cs ++ vs.toArray.toList.drop (0 + cs.length)).toArray, .inl ?_, ?_⟩
    · simp only [execOp, resolve, invoke, builtin, Sem.run_bind, Sem.run_pure, Result.andThen_ok]
      simp [hx, hv, hrun]
    · refine ⟨?_, ?_⟩
      · unfold Blk
        rw [setRow_heap w b vs.toArray _ bt _ hB]
        simp [hl]
      · exact ⟨rfl, rfl, rfl, by simp [World.setRow], fun k hk hne => setRow_other w b k _ (fun e => hne (by rw [e]))⟩
/-- make of a length and a capacity, of elements of one cell -/
theorem E.makeBlk {z : Value} {by' n c : Nat} {nI cI : Int} {k1 k2 : IntKind} (ht : P.underlying t = some (.slice e)) (hi : TI P e z 1 by') (hz : z.cells = #[z]) (hx : ev f x = .int k1 nI) (hy : ev f y = .int k2 cI) (hn : nI = (n : Int)) (hc : cI = (c : Int)) (hnc : n ≤ c) (hb : by' * c ≤ 281474976710656) (h63 : c ≤ maxLen) :
    ∃ v w', E P ⟨d, .makeSlice t x y, ty, pos, aft, g⟩ f w v w' ∧ (v = .slice (some ⟨w.heap.size, 0, none⟩) n c ∧ Blk w' w.heap.size e (List.replicate c z) ∧ Below w.heap.size w w') := by
  subst hn; subst hc
  have := E.makeSlice (P := P) (w := w) (f := f) (d := d) (ty := ty) (pos := pos) (aft := aft) (g := g) ht hi hx hy (by omega) (by omega) (by rw [← Int.natCast_mul]; exact Int.ofNat_le.mpr hb) (by unfold maxLen at h63; omega)
  refine ⟨_, _, this, rfl, ?_, (Below.refl _ _).alloc (Nat.le_refl _) _⟩
  have h2 : Blk (w.alloc (.cells (madeCells z.cells ((c : Int).toNat * 1)) e)) w.heap.size e (madeCells z.cells ((c : Int).toNat * 1)).toList := Blk.new
  have h3 : (madeCells z.cells ((c : Int).toNat * 1)).toList = List.replicate c z := by rw [hz, toList_madeCells_one]; simp
  rw [h3] at h2
  exact h2
/-- a slice over the first cells of a block that is known whole -/
theorem Blk.sl {b n cap : Nat} {bt : TypeId} {vs : List Value} (h : Blk w b bt vs) (h1 : n ≤ cap) (h2 : cap ≤ maxLen) (h3 : n ≤ vs.length) : SlK w 1 (.slice (some ⟨b, 0, none⟩) n cap) n (vs.take n) := by
  refine ⟨by simp; omega, by omega, _, _, rfl, h1, h2, fun i u hu => ⟨b, 0, rfl, ?_⟩⟩
  rw [Nat.zero_add, h.cell]
  rw [List.getElem?_take] at hu
  split at hu
  · exact hu
  · cases hu
/-- what is one's own is kept where another block is written -/
theorem own_grown {w' : World} {B b n k : Nat} {v : Value} {xs : List Value} (h : w.ownsRow B e k v n xs) (hg : w.grownBy w' (some b)) (hb : b < B) : w'.ownsRow B e k v n xs := by
  refine h.kept hg (.inr fun e => ?_)
  have := (h.lt b e).1
  omega
/-- a part of a slice that is seen, up to its capacity -/
theorem Y.sliceV {z : Value} {by' b o n cap lo hi k : Nat} {k1 k2 : IntKind} {loI hiI : Int} {l u : Operand} (ht : P.underlying t = some (.slice e)) (hti : TI P e z k by') (hv : ev f x = .slice (some ⟨b, o, none⟩) n cap)
    (hlo : ev f l = .int k1 loI) (hhi : ev f u = .int k2 hiI) (e1 : loI = (lo : Int)) (e2 : hiI = (hi : Int)) (h1 : lo ≤ hi) (h2 : hi ≤ cap) (h3 : lo < cap) (w' : World) :
    Y P ⟨d, .slice t x (some l) (some u) none, ty, pos, aft, g⟩ f w' (.slice (some ⟨b, o + lo * k, none⟩) (hi - lo) (cap - lo)) := by
  subst e1; subst e2
  have h5 : (Instr.sliceBound (ev f l) hi .sliceB).run P w' = .ok lo w' := by
    rw [hlo]
    simp only [Instr.sliceBound, asIntOf, Sem.run_bind, Sem.run_pure, Result.andThen_ok]
    rw [if_pos ⟨by omega, by omega⟩]; rfl
  have h6 : (Instr.sliceBound (ev f u) cap .sliceAcap).run P w' = .ok hi w' := by
    rw [hhi]
    simp only [Instr.sliceBound, asIntOf, Sem.run_bind, Sem.run_pure, Result.andThen_ok]
    rw [if_pos ⟨by omega, by omega⟩]; rfl
  have h7 : cap ≠ lo := by omega
  simp [Y, execOp, Instr.sliceAt, Instr.slice, Instr.sliceBounds, hv, run_underlying ht, run_sizeOf hti, h5, h6, h7, add_addr]
end Go.Cx
