/-
  Values as trees; how they lie in memory.
-/
import Derived.Test.YthcppegkpkgnpaaDoorBase13
namespace Go.Proofs.YthcppegkpkgnpaaDoor
open Go Go.RowKit Go.Cx
set_option linter.unusedVariables false
/-- a value: its kind, what each kind may name, the items of its list, the keys of its members, and what they have -/
inductive V where
  | mk (k : Int) (b : Bool) (i : Int) (t : List UInt8) (l : List V) (ks : List (List UInt8)) (vs : List V) : V
namespace V
def k : V → Int | mk k _ _ _ _ _ _ => k
def b : V → Bool | mk _ b _ _ _ _ _ => b
def i : V → Int | mk _ _ i _ _ _ _ => i
def t : V → List UInt8 | mk _ _ _ t _ _ _ => t
def l : V → List V | mk _ _ _ _ l _ _ => l
def ks : V → List (List UInt8) | mk _ _ _ _ _ ks _ => ks
def vs : V → List V | mk _ _ _ _ _ _ vs => vs
def nil : V := mk 0 false 0 [] [] [] []
theorem ind {Q : V → Prop} (h : ∀ v : V, (∀ x ∈ v.l, Q x) → (∀ x ∈ v.vs, Q x) → Q v) : ∀ v, Q v
  | mk k b i t l ks vs => h _ (fun x hx => ind h x) (fun x hx => ind h x)
termination_by v => SizeOf.sizeOf v
decreasing_by
  all_goals (first | (have := List.sizeOf_lt_of_mem (show x ∈ l from hx); simp only [mk.sizeOf_spec]; omega) | (have := List.sizeOf_lt_of_mem (show x ∈ vs from hx); simp only [mk.sizeOf_spec]; omega))
end V
/-- a value's cells -/
structure VC where
  c : List Value
  h : c.length = 6
def vcell (v : V) (lv ov : Value) : List Value := [.int .i64 v.k, .bool v.b, .int .i64 v.i, strv v.t, lv, ov]
/-- the cells of members -/
def mcells (ks : List (List UInt8)) (cs : List VC) : List Value := (ks.zip cs).flatMap fun p => strv p.1 :: p.2.c
/-- the bounds that the form names -/
structure VOk (v : V) : Prop where
  k : -9223372036854775808 ≤ v.k ∧ v.k ≤ 9223372036854775807
  i : -9223372036854775808 ≤ v.i ∧ v.i ≤ 9223372036854775807
  t : v.t.length ≤ 140737488351232
  l : v.l.length ≤ 1599289640354
  o : v.vs.length ≤ 1353245080300
  ks : v.ks.length = v.vs.length
  kt : ∀ x ∈ v.ks, x.length ≤ 140737488351232
/-- a value lies in memory: its six cells -/
inductive VAt (w : World) : V → List Value → Prop where
  | mk {v : V} {lv ov : Value} {lc oc : List VC} (ok : VOk v) (h1 : lc.length = v.l.length) (h2 : ∀ j (h : j < v.l.length) (h' : j < lc.length), VAt w v.l[j] lc[j].c) (hs : SlK w 6 lv v.l.length (lc.flatMap VC.c))
      (h3 : oc.length = v.vs.length) (h4 : ∀ j (h : j < v.vs.length) (h' : j < oc.length), VAt w v.vs[j] oc[j].c) (ho : SlK w 7 ov v.vs.length (mcells v.ks oc)) : VAt w v (vcell v lv ov)
theorem VAt.len {w : World} {v : V} {c : List Value} (h : VAt w v c) : c.length = 6 := by cases h; rfl
theorem VAt.ok {w : World} {v : V} {c : List Value} (h : VAt w v c) : VOk v := by cases h; assumption
theorem VAt.bel {w w' : World} (hb : Below w.heap.size w w') : ∀ {v : V} {c : List Value}, VAt w v c → VAt w' v c := by
  intro v
  induction v using V.ind with
  | h v ih1 ih2 =>
    intro c h
    cases h with
    | mk ok h1 h2 hs h3 h4 ho => exact .mk ok h1 (fun j h h' => ih1 _ (List.getElem_mem h) (h2 j h h')) (hs.bel hb) h3 (fun j h h' => ih2 _ (List.getElem_mem h) (h4 j h h')) (ho.bel hb)
theorem VAt.one {w : World} {v : V} {c : List Value} (h : VAt w v c) : ∀ u ∈ c, One u = true := by
  cases h with
  | mk ok h1 h2 hs h3 h4 ho =>
    intro u hu
    simp only [vcell, List.mem_cons, List.mem_nil_iff, or_false] at hu
    rcases hu with rfl | rfl | rfl | rfl | rfl | rfl
    · rfl
    · rfl
    · rfl
    · rfl
    · exact hs.one
    · exact ho.one
/-- one of a list, by its cells -/
theorem elem_cells {w : World} {b o j : Nat} {lc : List VC} (h : j < lc.length) (hc : Cells w b o (((lc.flatMap VC.c).drop ((j : Int).toNat * 6)).take 6)) : Cells w b o lc[j].c := by
  rw [Int.toNat_natCast, flat_at VC.h lc j h] at hc
  exact hc
/-- a member's cells -/
def mc (p : List UInt8 × VC) : List Value := strv p.1 :: p.2.c
theorem mc_len (p : List UInt8 × VC) : (mc p).length = 7 := by simp [mc, p.2.h]
theorem mem_cells {w : World} {b o j : Nat} {ks : List (List UInt8)} {oc : List VC} (h1 : j < ks.length) (h2 : j < oc.length) (hc : Cells w b o (((mcells ks oc).drop ((j : Int).toNat * 7)).take 7)) : Cells w b o (strv ks[j] :: oc[j].c) := by
  have hz : j < (ks.zip oc).length := by rw [List.length_zip]; omega
  have : mcells ks oc = (ks.zip oc).flatMap mc := rfl
  rw [this, Int.toNat_natCast, flat_at mc_len _ j hz, List.getElem_zip] at hc
  exact hc
theorem Cells.tl {w : World} {b o : Nat} {u : Value} {us : List Value} (h : Cells w b o (u :: us)) : Cells w b (o + 1) us := by
  intro i v hv
  have := h (i + 1) v (by simpa using hv)
  rwa [show o + (i + 1) = o + 1 + i by omega] at this
theorem Cells.hd {w : World} {b o : Nat} {u : Value} {us : List Value} (h : Cells w b o (u :: us)) : w.cell? ⟨b, o, none⟩ = some u := h 0 u rfl
theorem Y.loadK {P : Program} {f : Fr} {w : World} {d : Option Tmp} {ty : TypeId} {pos : String} {aft : Array Edge} {g : Option (Nat × Bool)} {x : Operand} {t : TypeId} {ds' : TypeDesc} {z : Value} {n by' b o : Nat} {vs : List Value} (ht : P.underlying t = some ds') (ha : aggD ds' = true) (hi : TI P t z n by') (hn : vs.length = n) (hx : ev f x = .pointer (some ⟨b, o, none⟩)) (hc : Cells w b o vs) :
    Y P ⟨d, .load t x, ty, pos, aft, g⟩ f w (.agg vs.toArray) := by subst hn; exact Y.loadN ht ha hi hx hc
theorem E.storeAllK {P : Program} {f : Fr} {w : World} {d : Option Tmp} {ty : TypeId} {pos : String} {aft : Array Edge} {g : Option (Nat × Bool)} {x y : Operand} {t bt : TypeId} {z : Value} {n by' b : Nat} {us vs : List Value} (hi : TI P t z n by') (hn : us.length = n) (hx : ev f x = .pointer (some ⟨b, 0, none⟩)) (hy : ev f y = .agg us.toArray) (h1 : ∀ u ∈ us, One u = true) (hB : Blk w b bt vs) (hl : vs.length = n) :
    ∃ v w', E P ⟨d, .store t x y, ty, pos, aft, g⟩ f w v w' ∧ (Blk w' b bt us ∧ w.grownBy w' (some b)) := by
  subst hn
  exact E.storeAll hi hx hy h1 hB hl.symm
theorem Y.max2 {P : Program} {f : Fr} {w : World} {d : Option Tmp} {ty : TypeId} {pos : String} {aft : Array Edge} {g : Option (Nat × Bool)} {x y : Operand} {k : IntKind} {a b : Int} {ts : Array TypeId} (hx : ev f x = .int k a) (hy : ev f y = .int k b) :
    Y P ⟨d, .call ⟨.builtin .max, #[x, y], ts⟩, ty, pos, aft, g⟩ f w (.int k (max a b)) := by
  have e : (if a < b then b else a) = max a b := by split <;> omega
  simp [Y, execOp, resolve, invoke, builtin, Builtin.max_, Builtin.max2, hx, hy, e]
theorem six {c : List Value} (h : c.length = 6) : ∃ a0 a1 a2 a3 a4 a5, c = [a0, a1, a2, a3, a4, a5] := by
  match c, h with
  | [a0, a1, a2, a3, a4, a5], _ => exact ⟨a0, a1, a2, a3, a4, a5, rfl⟩
theorem foldl_put (o : Nat) : ∀ (us : List Value) (k : Nat) (cells : Array Value), o + k + us.length ≤ cells.size →
    ((us.zipIdx k).foldl (fun (cs : Array Value) (p : Value × Nat) => cs.setIfInBounds (o + p.2) p.1) cells).toList = cells.toList.take (o + k) ++ us ++ cells.toList.drop (o + k + us.length)
  | [], k, cells, _ => by simp
  | u :: us, k, cells, h => by
    have hk : o + k < cells.toList.length := by simp only [List.length_cons] at h; simp; omega
    rw [List.zipIdx_cons, List.foldl_cons, foldl_put o us (k + 1) _ (by simp only [Array.size_setIfInBounds, List.length_cons] at h ⊢; omega)]
    rw [Array.toList_setIfInBounds, List.set_eq_take_append_cons_drop, if_pos hk]
    have e1 : (cells.toList.take (o + k) ++ u :: cells.toList.drop (o + k + 1)).take (o + (k + 1)) = cells.toList.take (o + k) ++ [u] := by
      rw [List.take_append, List.length_take, Nat.min_eq_left (by omega), show o + (k + 1) - (o + k) = 1 by omega, List.take_of_length_le (by rw [List.length_take]; omega)]
      rfl
    have e2 : (cells.toList.take (o + k) ++ u :: cells.toList.drop (o + k + 1)).drop (o + (k + 1) + us.length) = cells.toList.drop (o + k + (u :: us).length) := by
      rw [List.drop_append, List.length_take, Nat.min_eq_left (by omega), show o + (k + 1) + us.length - (o + k) = us.length + 1 by omega, List.drop_of_length_le (by rw [List.length_take]; omega), List.nil_append, List.drop_succ_cons, List.drop_drop, List.length_cons]
      congr 1
      omega
    rw [e1, e2, List.append_assoc, List.append_assoc]
    simp
/-- one of a type of n cells, made a list of -/
theorem fill1 {n : Nat} {c : List Value} (h : c.length = n) (z : Array Value) : Instr.fill (fun i => some (i * n, n)) (madeCells z (1 * n)) [(0, .agg c.toArray)] = some c.toArray := by
  have hs : (madeCells z (1 * n)).size = n := by rw [size_madeCells, Nat.one_mul]
  generalize madeCells z (1 * n) = m at hs
  have key := foldl_put 0 c 0 m (by omega)
  rw [Nat.zero_add, List.take_zero, List.nil_append, Nat.zero_add, List.drop_of_length_le (by rw [Array.length_toList]; omega), List.append_nil] at key
  have e : c.toArray.zipIdx.foldl (fun (cs : Array Value) (p : Value × Nat) => cs.setIfInBounds (0 * n + p.2) p.1) m = c.toArray := by
    apply Array.toList_inj.mp
    rw [Nat.zero_mul]
    have e1 : c.toArray.zipIdx = c.zipIdx.toArray := by simp
    rw [e1, ← Array.foldl_toList]
    exact key
  have hc : (Value.agg c.toArray).cells = c.toArray := rfl
  unfold Instr.fill
  simp only [hc]
  split
  · rename_i hb
    exfalso
    simp [hs, h] at hb
  · unfold Instr.fill
    exact congrArg some e
theorem E.build1A {P : Program} {f : Fr} {w : World} {d : Option Tmp} {ty : TypeId} {pos : String} {aft : Array Edge} {g : Option (Nat × Bool)} {o : Operand} {t e : TypeId} {z : Value} {n by' : Nat} {c : List Value} (ht : P.underlying t = some (.slice e)) (hi : TI P e z n by') (hn : c.length = n) (h0 : 0 < n) (h1 : n ≤ 1000) (ho : ev f o = .agg c.toArray) :
    ∃ v w', E P ⟨d, .buildSlice t 1 #[(0, o)], ty, pos, aft, g⟩ f w v w' ∧ (v = .slice (some ⟨w.heap.size, 0, none⟩) 1 1 ∧ w'.ownsRow w.heap.size e n v 1 c ∧ Below w.heap.size w w' ∧ Blk w' w.heap.size e c) :=
  E.buildSliceX ht hi (by omega) (by omega) (by simp only [List.map_cons, List.map_nil, ho]; exact fill1 hn z.cells) (by omega)
end Go.Proofs.YthcppegkpkgnpaaDoor
