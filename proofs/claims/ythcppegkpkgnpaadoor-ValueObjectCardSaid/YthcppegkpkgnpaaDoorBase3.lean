import Derived.Test.YthcppegkpkgnpaaDoorBase2
namespace Go.Cx
set_option linter.unusedVariables false
open Go Go.RowKit
variable {P : Program} {f : Fr} {w : World}

/-- A block of cells, known whole, that may be written. -/
def Blk (w : World) (b : Nat) (t : TypeId) (vs : List Value) : Prop := w.heap[b]? = some (.cells vs.toArray t (0, 0))
theorem Blk.lt {b : Nat} {t : TypeId} {vs : List Value} (h : Blk w b t vs) : b < w.heap.size := (Array.getElem?_eq_some_iff.1 h).1
theorem Blk.cells {b : Nat} {t : TypeId} {vs : List Value} (h : Blk w b t vs) : Cells w b 0 vs := fun i v hv => by
  rw [Nat.zero_add, cell_of_row w b i _ t _ h]; simpa using hv
theorem Blk.cell {b : Nat} {t : TypeId} {vs : List Value} (h : Blk w b t vs) (i : Nat) : w.cell? ⟨b, i, none⟩ = vs[i]? := by
  rw [cell_of_row w b i _ t _ h]; simp
theorem Blk.one {b : Nat} {t : TypeId} {v : Value} (h : Blk w b t [v]) : w.cell? ⟨b, 0, none⟩ = some v := by rw [h.cell]; rfl
theorem Blk.free {b : Nat} {t : TypeId} {vs : List Value} (h : Blk w b t vs) (i : Nat) : w.frozen? ⟨b, i, none⟩ = false := by simp [World.frozen?, show w.heap[b]? = _ from h]
theorem Blk.bel {w' : World} {b : Nat} {t : TypeId} {vs : List Value} (h : Blk w b t vs) (hb : Below w.heap.size w w') : Blk w' b t vs := (hb.block b h.lt).trans h
theorem Blk.belB {w' : World} {B b : Nat} {t : TypeId} {vs : List Value} (h : Blk w b t vs) (hb : Below B w w') (hB : b < B) : Blk w' b t vs := (hb.block b hB).trans h
theorem Blk.new {w : World} {arr : Array Value} {t : TypeId} : Blk (w.alloc (.cells arr t)) w.heap.size t arr.toList := by
  unfold Blk; rw [Array.toArray_toList]; exact heap_alloc_new w _
theorem heap_setCell_other {w : World} {a : Addr} {u : Value} {k : Nat} (h : k ≠ a.block) : (w.setCell a u).heap[k]? = w.heap[k]? := by
  simp [World.setCell, Array.getElem?_modify, Ne.symm h]
theorem Blk.other {b b' i : Nat} {t : TypeId} {vs : List Value} {u : Value} (h : Blk w b t vs) (hne : b ≠ b') : Blk (w.setCell ⟨b', i, none⟩ u) b t vs := by
  unfold Blk; rw [heap_setCell_other (by exact hne)]; exact h
theorem Blk.set {b i : Nat} {t : TypeId} {vs : List Value} {u : Value} (h : Blk w b t vs) : Blk (w.setCell ⟨b, i, none⟩ u) b t (vs.set i u) := by
  unfold Blk
  show (w.heap.modify b _)[b]? = _
  rw [Array.getElem?_modify, if_pos rfl, show w.heap[b]? = _ from h]
  simp

theorem grownBy_of_below {w w' : World} (h : Below w.heap.size w w') : w.grownBy w' none := ⟨h.os, h.tape, h.output, h.size, fun k hk _ => h.block k hk⟩
theorem below_of_grown {w w' : World} {B : Nat} {row : Option Nat} (h : w.grownBy w' row) (hB : B ≤ w.heap.size) (hr : ∀ k, row = some k → B ≤ k) : Below B w w' :=
  (Below.refl B w).grown h hB hr
section own
variable {B n k : Nat} {e : TypeId} {v : Value} {xs : List Value}
theorem ownsRow_bel {w' : World} (h : w.ownsRow B e k v n xs) (hb : Below w.heap.size w w') : w'.ownsRow B e k v n xs := by
  refine h.kept (grownBy_of_below hb) ?_
  cases hv : v.ownBlock <;> simp
theorem ownsRow_mono {B' : Nat} (h : w.ownsRow B e k v n xs) (hB : B' ≤ B) : w.ownsRow B' e k v n xs := by
  refine ⟨h.1, ?_⟩
  rcases h.2 with h | ⟨g, cap, cur, a, b, c⟩
  · exact .inl h
  · exact .inr ⟨g, cap, cur, a, Nat.le_trans hB b, c⟩
theorem ownsRow_sl (h : w.ownsRow B e k v n xs) : SlK w k v n xs := by
  rcases h.2 with ⟨rfl, rfl⟩ | ⟨g, cap, cur, rfl, hb, hg, hn, hm, hs, ht⟩
  · have : xs = [] := List.eq_nil_of_length_eq_zero (by simpa using h.1)
    subst this; exact SlK.nil
  · refine ⟨h.1, Nat.le_trans hn hm, some ⟨g, 0, none⟩, cap, rfl, hn, hm, fun i u hu => ⟨g, 0, rfl, ?_⟩⟩
    have := h.cells (g := g) rfl i u hu
    rwa [add_addr] at this
theorem ownsRow_block (h : w.ownsRow B e k v n xs) (b : Nat) (hv : v.ownBlock = some b) : B ≤ b := (h.lt b hv).1
end own

section ops
variable {d : Option Tmp} {ty : TypeId} {pos : String} {aft : Array Edge} {g : Option (Nat × Bool)} {x y c : Operand} {t e at' : TypeId}
theorem E.allocX {z : Value} {n by' : Nat} (hi : TI P t z n by') : ∃ v w', E P ⟨d, .alloc t, ty, pos, aft, g⟩ f w v w' ∧ (v = .pointer (some ⟨w.heap.size, 0, none⟩) ∧ Blk w' w.heap.size t z.cells.toList ∧ Below w.heap.size w w') :=
  ⟨_, _, E.alloc hi, rfl, Blk.new, (Below.refl _ _).alloc (Nat.le_refl _) _⟩
theorem E.boxX : ∃ v w', E P ⟨d, .box t x, ty, pos, aft, g⟩ f w v w' ∧ (v = .pointer (some ⟨w.heap.size, 0, none⟩) ∧ Blk w' w.heap.size t (ev f x).cells.toList ∧ Below w.heap.size w w') :=
  ⟨_, _, E.box, rfl, Blk.new, (Below.refl _ _).alloc (Nat.le_refl _) _⟩
/-- A store of one cell into a block that is known whole. -/
theorem E.storeX {z u : Value} {by' b i : Nat} {bt : TypeId} {vs : List Value} (hi : TI P t z 1 by') (hx : ev f x = .pointer (some ⟨b, i, none⟩)) (hy : ev f y = u) (h1 : One u = true) (hB : Blk w b bt vs) (hlt : i < vs.length) :
    ∃ v w', E P ⟨d, .store t x y, ty, pos, aft, g⟩ f w v w' ∧ (Blk w' b bt (vs.set i u) ∧ w.grownBy w' (some b) ∧ w' = w.setCell ⟨b, i, none⟩ u) :=
  ⟨_, _, E.store1 (old := vs[i]) hi hx hy h1 rfl (by rw [hB.cell]; simp [hlt]) (hB.free i), hB.set, ⟨rfl, rfl, rfl, by simp, fun k hk hne => heap_setCell_other (fun e => hne (by rw [e]))⟩, rfl⟩
theorem E.append {z : Value} {k by' n m B : Nat} {xs news : List Value} (ht : P.underlying at' = some (.slice e)) (hi : TI P e z k by') (hzs : z.cells.size = k) (hk : 0 < k)
    (hs : w.ownsRow B e k (ev f x) n xs) (hy : SlK w k (ev f y) m news) (h1 : ∀ u ∈ news, One u = true) (hb : (n + m) * by' ≤ 140737488355328) (hm : n + m ≤ maxLen) (hB : B ≤ w.heap.size) :
    ∃ v w', E P ⟨d, .call ⟨.builtin .append, #[x, y], #[at', at']⟩, ty, pos, aft, g⟩ f w v w' ∧ w'.ownsRow B e k v (n + m) (xs ++ news) ∧ Below B w w' ∧ w.grownBy w' (ev f x).ownBlock := by
  obtain ⟨i, hi1, hi2, hi3, hi4⟩ := hi.info
  have key : ∃ v w', (Builtin.append_ #[at', at'] ty #[ev f x, ev f y]).run P w = .ok v w' ∧ w'.ownsRow B e k v (n + m) (xs ++ news) ∧ w.grownBy w' (ev f x).ownBlock := by
    obtain ⟨hl, hml, a, cap, hv, hmc, hcm, hc⟩ := hy
    cases a with
    | some a =>
      rw [hv]
      obtain ⟨v, w', h1, h2, h3, _⟩ := run_append_own (P := P) w B at' ty e i z k by' ht hi1 hi2 hi3 hi4 hzs hk (ev f x) n xs hs a m cap news hl (fun j u hu => by
        obtain ⟨b, o, ha, hcell⟩ := hc j u hu
        cases ha; rw [add_addr]; exact hcell) (fun u hu => One.one (h1 u hu)) hm hb hB
      exact ⟨v, w', h1, h2, h3⟩
    | none =>
      have hne : news = [] := by
        cases news with
        | nil => rfl
        | cons u us => obtain ⟨b, o, ha, _⟩ := hc 0 u rfl; cases ha
      subst hne
      have hm0 : m = 0 := by
        simp only [List.length_nil] at hl
        have := Nat.le_mul_of_pos_right m hk
        omega
      subst hm0
      rw [hv]
      have hcase : ∃ a0 c0, ev f x = .slice a0 n c0 ∧ n ≤ c0 := by
        rcases hs.2 with ⟨h, rfl⟩ | ⟨g, cap, cur, h, _, _, hn, _⟩
        · exact ⟨_, _, h, Nat.le_refl _⟩
        · exact ⟨_, _, h, hn⟩
      obtain ⟨a0, c0, hx, hn⟩ := hcase
      refine ⟨ev f x, w, ?_, by simpa using hs, ⟨rfl, rfl, rfl, Nat.le_refl _, fun _ _ _ => rfl⟩⟩
      rw [hx]
      cases a0 <;> simp [Builtin.append_, run_underlying ht, sizeOf, typeInfo, hi1, Builtin.lenOf, hn, Builtin.firstCells, storeCells]
  obtain ⟨v, w', h1, h2, h3⟩ := key
  refine ⟨v, w', .inl ?_, h2, below_of_grown h3 hB (fun b hb' => ownsRow_block hs b hb'), h3⟩
  simp [execOp, resolve, invoke, builtin, h1]
theorem E.makeSlice {z : Value} {k by' : Nat} {n c : Int} {k1 k2 : IntKind} (ht : P.underlying t = some (.slice e)) (hi : TI P e z k by') (hx : ev f x = .int k1 n) (hy : ev f y = .int k2 c) (h0 : 0 ≤ n) (h1 : n ≤ c) (hb : (by' : Int) * c ≤ 281474976710656) (h63 : c ≤ 9223372036854775807) :
    E P ⟨d, .makeSlice t x y, ty, pos, aft, g⟩ f w (.slice (some ⟨w.heap.size, 0, none⟩) n.toNat c.toNat) (w.alloc (.cells (madeCells z.cells (c.toNat * k)) e)) := by
  obtain ⟨i, hi1, hi2, hi3, hi4⟩ := hi.info
  refine .inl ?_
  have := run_make (P := P) w t e i z ht hi1 hi2 k1 k2 n c h0 h1 (by rw [hi4]; exact hb) h63
  rw [hi3] at this
  simp [execOp, hx, hy, this]
/-- make([]T, 0, c) is owned -/
theorem own_made0 {z : Value} {k c B : Nat} (hB : B ≤ w.heap.size) (hc : c ≤ maxLen) : (w.alloc (.cells (madeCells z.cells (c * k)) e)).ownsRow B e k (.slice (some ⟨w.heap.size, 0, none⟩) 0 c) 0 [] :=
  World.ownsRow_made w _ c hB hc (size_madeCells _ _)
theorem E.buildSlice {z : Value} {k by' len : Nat} {parts : Array (Nat × Operand)} {cs : Array Value} (ht : P.underlying t = some (.slice e)) (hi : TI P e z k by') (hl : len * k ≤ 16777216) (h0 : len * k ≠ 0)
    (hfill : Instr.fill (fun i => some (i * k, k)) (madeCells z.cells (len * k)) (parts.toList.map fun p => (p.1, ev f p.2)) = some cs) :
    E P ⟨d, .buildSlice t len parts, ty, pos, aft, g⟩ f w (.slice (some ⟨w.heap.size, 0, none⟩) len len) (w.alloc (.cells cs e)) := by
  refine .inl ?_
  have hnl : ¬ (2 ^ 24 < len * k) := by simpa using hl
  have hp : (parts.map fun p => (p.1, ev f p.2)).toList = parts.toList.map fun p => (p.1, ev f p.2) := by simp
  have hfill' := hfill
  unfold madeCells at hfill'
  have h0' : ¬ (len = 0 ∨ k = 0) := by intro h; apply h0; rcases h with h | h <;> simp [h]
  have hnl' : ¬ (16777216 < len * k) := by omega
  simp only [execOp, Instr.buildSlice, Sem.run_bind, run_underlying ht, Result.andThen_ok, run_sizeOf hi, Sem.run_pure]
  simp only [gt_iff_lt, hnl, if_false, h0, run_zeroValue hi, Sem.run_bind, Result.andThen_ok, Sem.run_pure, hp, hfill', newRow, newObj, Sem.run]
  rfl
end ops
theorem Below.step {w0 w w' : World} (hb : Below w0.heap.size w0 w) (h : Below w.heap.size w w') : Below w0.heap.size w0 w' := hb.trans (h.mono hb.size)
theorem Below.stepG {w0 w w' : World} {b : Nat} (hb : Below w0.heap.size w0 w) (h : w.grownBy w' (some b)) (hB : w0.heap.size ≤ b) : Below w0.heap.size w0 w' :=
  hb.grown h hb.size (fun k e => by cases e; exact hB)
theorem Blk.grown {w' : World} {b b' : Nat} {t : TypeId} {vs : List Value} (h : Blk w b t vs) (hg : w.grownBy w' (some b')) (hne : b ≠ b') : Blk w' b t vs := (hg.block b h.lt (fun e => hne (by cases e; rfl))).trans h
/-- a slice over a block just made -/
theorem sl_new {arr : Array Value} {e : TypeId} {k n : Nat} (hs : arr.size = n * k) (hn : n ≤ maxLen) : SlK (w.alloc (.cells arr e)) k (.slice (some ⟨w.heap.size, 0, none⟩) n n) n arr.toList :=
  ownsRow_sl (World.ownsRow_lit (base := 0) w arr n (Nat.zero_le _) hn hs)
section
variable {d : Option Tmp} {ty : TypeId} {pos : String} {aft : Array Edge} {g : Option (Nat × Bool)} {x y c : Operand} {t e at' : TypeId}
theorem E.buildSliceX {z : Value} {k by' len : Nat} {parts : Array (Nat × Operand)} {cs : List Value} (ht : P.underlying t = some (.slice e)) (hi : TI P e z k by') (hl : len * k ≤ 16777216) (h0 : len * k ≠ 0)
    (hfill : Instr.fill (fun i => some (i * k, k)) (madeCells z.cells (len * k)) (parts.toList.map fun p => (p.1, ev f p.2)) = some cs.toArray) (hcs : cs.length = len * k) :
    ∃ v w', E P ⟨d, .buildSlice t len parts, ty, pos, aft, g⟩ f w v w' ∧ (v = .slice (some ⟨w.heap.size, 0, none⟩) len len ∧ w'.ownsRow w.heap.size e k v len cs ∧ Below w.heap.size w w' ∧ Blk w' w.heap.size e cs) := by
  have hk : 0 < k := by rcases Nat.eq_zero_or_pos k with h | h <;> simp_all
  have hlen : len ≤ 16777216 := Nat.le_trans (Nat.le_mul_of_pos_right len hk) hl
  have hown := World.ownsRow_lit (base := w.heap.size) (e := e) w cs.toArray len (Nat.le_refl _) (by unfold maxLen; omega) (size := k) (by simpa using hcs)
  exact ⟨_, _, E.buildSlice ht hi hl h0 hfill, rfl, hown, (Below.refl _ _).alloc (Nat.le_refl _) _, Blk.new⟩
/-- one element of one cell -/
theorem E.build1 {z : Value} {by' : Nat} {o : Operand} {u : Value} (ht : P.underlying t = some (.slice e)) (hi : TI P e z 1 by') (hz : One z = true) (ho : ev f o = u) (hu : One u = true) :
    ∃ v w', E P ⟨d, .buildSlice t 1 #[(0, o)], ty, pos, aft, g⟩ f w v w' ∧ (SlK w' 1 v 1 [u] ∧ Below w.heap.size w w' ∧ ∃ b, v = .slice (some ⟨b, 0, none⟩) 1 1 ∧ w.heap.size ≤ b) := by
  have hzc := One.cells hz
  have huc := One.cells hu
  obtain ⟨v, w', h1, h2, h3, h4, _⟩ := E.buildSliceX (P := P) (w := w) (f := f) (d := d) (ty := ty) (pos := pos) (aft := aft) (g := g) (len := 1) (parts := #[(0, o)]) (cs := [u]) ht hi (by omega) (by omega)
    (by simp [Instr.fill, ho, huc, hzc, madeCells, Array.range]; rfl) rfl
  exact ⟨v, w', h1, ownsRow_sl h3, h4, _, h2, Nat.le_refl _⟩
/-- no element -/
theorem E.build0 {z : Value} {k by' : Nat} (ht : P.underlying t = some (.slice e)) (hi : TI P e z k by') :
    ∃ v w', E P ⟨d, .buildSlice t 0 #[], ty, pos, aft, g⟩ f w v w' ∧ (w'.ownsRow w.heap.size e k v 0 [] ∧ Below w.heap.size w w') := by
  refine ⟨.slice (some ⟨w.heap.size, 0, none⟩) 0 0, w.alloc (.cells #[] e), .inl ?_, World.ownsRow_made w #[] 0 (Nat.le_refl _) (Nat.zero_le _) (by simp), (Below.refl _ _).alloc (Nat.le_refl _) _⟩
  simp [execOp, Instr.buildSlice, run_underlying ht, run_sizeOf hi, Instr.fill, newRow, newObj, Sem.run, Array.range_zero']
/-- make of length 0 -/
theorem E.make0 {z : Value} {k by' c : Nat} {cI : Int} {k1 k2 : IntKind} (ht : P.underlying t = some (.slice e)) (hi : TI P e z k by') (hx : ev f x = .int k1 0) (hy : ev f y = .int k2 cI) (hc : cI = (c : Int)) (hb : by' * c ≤ 281474976710656) (h63 : c ≤ maxLen) :
    ∃ v w', E P ⟨d, .makeSlice t x y, ty, pos, aft, g⟩ f w v w' ∧ (w'.ownsRow w.heap.size e k v 0 [] ∧ Below w.heap.size w w') := by
  subst hc
  have := E.makeSlice (P := P) (w := w) (f := f) (d := d) (ty := ty) (pos := pos) (aft := aft) (g := g) ht hi hx hy (by omega) (by omega) (by rw [← Int.natCast_mul]; exact Int.ofNat_le.mpr hb) (by unfold maxLen at h63; omega)
  exact ⟨_, _, this, own_made0 (Nat.le_refl _) h63, (Below.refl _ _).alloc (Nat.le_refl _) _⟩
/-- an element of an array, by its address -/
theorem Y.idxArr {z : Value} {by' len b o j : Nat} {ki : IntKind} {i : Int} (ht : P.underlying t = some (.array len e)) (hi : TI P e z 1 by') (hx : ev f x = .pointer (some ⟨b, o, none⟩)) (hy : ev f y = .int ki i) (h0 : 0 ≤ i) (h1 : i < len) (hj : o + i.toNat = j) :
    Y P ⟨d, .indexAddr t x y, ty, pos, aft, g⟩ f w (.pointer (some ⟨b, j, none⟩)) := by
  subst hj
  simp [Y, execOp, Instr.indexAt, hx, hy, asIntOf, run_underlying ht, Instr.sureAddr, h0, h1, run_sizeOf hi, add_addr]
/-- a store of a whole aggregate over a block -/
theorem E.storeAll {z : Value} {by' b : Nat} {bt : TypeId} {vs us : List Value} (hi : TI P t z us.length by') (hx : ev f x = .pointer (some ⟨b, 0, none⟩)) (hy : ev f y = .agg us.toArray) (h1 : ∀ u ∈ us, One u = true) (hB : Blk w b bt vs) (hl : us.length = vs.length) :
    ∃ v w', E P ⟨d, .store t x y, ty, pos, aft, g⟩ f w v w' ∧ (Blk w' b bt us ∧ w.grownBy w' (some b)) := by
  have hst := run_storeCells_at P b 0 bt us 0 vs.toArray w hB (by simp; omega) (fun u hu => One.one (h1 u hu))
  have e1 : ((vs.take (0 + 0)) ++ us ++ vs.drop (0 + 0 + us.length)) = us := by rw [List.drop_of_length_le (by omega)]; simp
  simp only at hst
  rw [e1] at hst
  refine ⟨undef, w.setRow b us.toArray, .inr ⟨?_, rfl, fun c => by simp⟩, setRow_heap w b _ _ bt (0, 0) hB, ⟨rfl, rfl, rfl, by simp [World.setRow], fun k hk hne => setRow_other w b k _ (fun e => hne (by rw [e]))⟩⟩
  simp [execOp, hx, hy, Instr.storeAt, Instr.sureAddr, storeVar, run_sizeOf hi, Value.cells, hst]
theorem endQ.cellN {R : Value → World → Prop} {ds' : TypeDesc} {z : Value} {by' a b o : Nat} {vs : List Value} {ex : Exit} (ht : P.underlying t = some ds') (ha : aggD ds' = true) (hi : TI P t z vs.length by') (he : ex = .normal ∨ ex = .ret) (hx : f a = .pointer (some ⟨b, o, none⟩)) (hc : Cells w b o vs) (h : R (.agg vs.toArray) w) :
    endQ P #[.cell a t] R ex f [] w :=
  ⟨he, rfl, .agg vs.toArray, by simp [resS, hx, asAddr, loadVar, run_isAgg ht, ha, run_sizeOf hi, run_loadCells hc], h⟩
end
end Go.Cx
