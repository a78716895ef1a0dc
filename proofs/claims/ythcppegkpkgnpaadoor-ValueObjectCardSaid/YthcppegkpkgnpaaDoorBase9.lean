/-
  Blocks that may change (a set of them), rows of elements of several cells that one owns and that begin anywhere, rows that lie outside such a set.
-/
import Derived.Test.YthcppegkpkgnpaaDoorBase8
import Derived.Laws.IdiomStrings
namespace Go.Cx
set_option linter.unusedVariables false
open Go Go.RowKit
variable {P : Program} {f : Fr} {w : World} {d : Option Tmp} {ty : TypeId} {pos : String} {aft : Array Edge} {g : Option (Nat × Bool)} {x y z c : Operand} {t e at' : TypeId}
/-- All blocks but those of M are kept. -/
structure Kept (M : Nat → Prop) (w w' : World) : Prop where
  os : w'.os = w.os
  tape : w'.tape = w.tape
  output : w'.output = w.output
  size : w.heap.size ≤ w'.heap.size
  block : ∀ k, k < w.heap.size → ¬ M k → w'.heap[k]? = w.heap[k]?
section
variable {M M' : Nat → Prop} {w' w'' : World}
theorem Kept.refl (M : Nat → Prop) (w : World) : Kept M w w := ⟨rfl, rfl, rfl, Nat.le_refl _, fun _ _ _ => rfl⟩
theorem Kept.trans' (h : Kept M w w') (k : Kept M' w' w'') (hM : ∀ b, M' b → b < w.heap.size → M b) : Kept M w w'' :=
  ⟨k.os.trans h.os, k.tape.trans h.tape, k.output.trans h.output, Nat.le_trans h.size k.size, fun b hb hn => (k.block b (Nat.lt_of_lt_of_le hb h.size) (fun m => hn (hM b m hb))).trans (h.block b hb hn)⟩
theorem Kept.trans (h : Kept M w w') (k : Kept M w' w'') : Kept M w w'' := h.trans' k (fun _ m _ => m)
theorem Kept.mono (h : Kept M w w') (hM : ∀ b, M b → b < w.heap.size → M' b) : Kept M' w w' := ⟨h.os, h.tape, h.output, h.size, fun b hb hn => h.block b hb (fun m => hn (hM b m hb))⟩
theorem Kept.of_bel (h : Below w.heap.size w w') : Kept M w w' := ⟨h.os, h.tape, h.output, h.size, fun b hb _ => h.block b hb⟩
theorem Kept.of_grown {b : Nat} (h : w.grownBy w' (some b)) (hM : M b) : Kept M w w' := ⟨h.os, h.tape, h.output, h.size, fun k hk hn => h.block k hk (fun e => hn (by cases e; exact hM))⟩
theorem Kept.of_grownR {r : Option Nat} (h : w.grownBy w' r) (hM : ∀ b, r = some b → M b) : Kept M w w' := ⟨h.os, h.tape, h.output, h.size, fun k hk hn => h.block k hk (fun e => hn (hM k e.symm))⟩
theorem Kept.bel (h : Kept M w w') (k : Below w'.heap.size w' w'') : Kept M w w'' := h.trans (Kept.of_bel k)
theorem Kept.below {B : Nat} (h : Kept M w w') (hM : ∀ b, M b → B ≤ b) (hB : B ≤ w.heap.size) : Below B w w' := ⟨h.os, h.tape, h.output, h.size, fun k hk => h.block k (by omega) (fun m => by have := hM k m; omega)⟩
theorem Below.kept {B : Nat} {w0 : World} (h : Below B w0 w) (k : Kept M w w') (hM : ∀ b, M b → B ≤ b) (hB : B ≤ w0.heap.size) : Below B w0 w' := h.trans (k.below hM (Nat.le_trans hB h.size))
theorem Blk.kept {b : Nat} {vs : List Value} (h : Blk w b t vs) (k : Kept M w w') (hn : ¬ M b) : Blk w' b t vs := (k.block b h.lt hn).trans h
theorem cell_kept {p : Addr} {v : Value} (h : w.cell? p = some v) (k : Kept M w w') (hn : ¬ M p.block) : w'.cell? p = some v := by
  rw [World.cell?_of_block (k.block p.block (World.block_lt_of_cell? w _ h) hn)]; exact h
end
theorem WC.regionK {F : Fence} {sz : Nat} {Q : Post} {ds : List Deferred} [hF : WideF F] {id : Nat} {l : List Oper} (M : Nat → Prop) (T : Nat → Bool) (π : List (Nat × Md)) (hm : P.follows .mixedOrders = true)
    (hB : (Region.noSelect l.toArray && l.toArray.all (dstOk sz) && decide (π.length = l.length) && π.all (fun p => Nat.blt p.1 l.length) && pathB .any l.toArray T π (Array.replicate l.length false)) = true)
    (h : ∀ w', Below w.heap.size w w' → w'.heap = w.heap → RL P sz l.toArray (Kept M w') T (fun f ds w => Q .normal f ds w) π f ds w') : WC F P sz (.region id l.toArray true) Q f ds w :=
  WC.regionS (Kept M { w with drawn := w.drawn + 1 }) T π hm hB (h _ ⟨rfl, rfl, rfl, Nat.le_refl _, fun _ _ => rfl⟩ rfl)
theorem own_kept {M : Nat → Prop} {w' : World} {B n k : Nat} {v : Value} {xs : List Value} (h : w.ownsRow B e k v n xs) (hk : Kept M w w') (hM : ∀ b, M b → b < w.heap.size → b < B) : w'.ownsRow B e k v n xs := by
  refine ⟨h.1, ?_⟩
  rcases h.2 with h | ⟨b, cap, cur, hv, hB, hb, r⟩
  · exact .inl h
  · have hlt := (Array.getElem?_eq_some_iff.1 hb).1
    exact .inr ⟨b, cap, cur, hv, hB, (hk.block b hlt (fun m => by have := hM b m hlt; omega)).trans hb, r⟩
/-- a slice that is read, outside the blocks of M -/
def SlA (w : World) (M : Nat → Prop) (k : Nat) (v : Value) (n : Nat) (cs : List Value) : Prop :=
  cs.length = n * k ∧ n ≤ maxLen ∧ ∃ a cap, v = .slice a n cap ∧ n ≤ cap ∧ cap ≤ maxLen ∧ ∀ i u, cs[i]? = some u → ∃ b o, a = some ⟨b, o, none⟩ ∧ ¬ M b ∧ w.cell? ⟨b, o + i, none⟩ = some u
section
variable {M M' : Nat → Prop} {w' : World} {k n : Nat} {v : Value} {cs : List Value}
theorem SlA.sl (h : SlA w M k v n cs) : SlK w k v n cs := by
  obtain ⟨h1, h2, a, cap, hv, hn, hm, hc⟩ := h
  refine ⟨h1, h2, a, cap, hv, hn, hm, fun i u hu => ?_⟩
  obtain ⟨b, o, ha, _, hcell⟩ := hc i u hu
  exact ⟨b, o, ha, hcell⟩
theorem SlA.one (h : SlA w M k v n cs) : One v = true := h.sl.one
theorem SlA.kept (h : SlA w M k v n cs) (hk : Kept M' w w') (hM : ∀ b, M' b → b < w.heap.size → M b) : SlA w' M k v n cs := by
  obtain ⟨h1, h2, a, cap, hv, hn, hm, hc⟩ := h
  refine ⟨h1, h2, a, cap, hv, hn, hm, fun i u hu => ?_⟩
  obtain ⟨b, o, ha, hb, hcell⟩ := hc i u hu
  exact ⟨b, o, ha, hb, cell_kept hcell hk (fun m => hb (hM b m (World.block_lt_of_cell? w _ hcell)))⟩
theorem SlA.bel (h : SlA w M k v n cs) (hb : Below w.heap.size w w') : SlA w' M k v n cs := h.kept (Kept.of_bel (M := M) hb) (fun _ m _ => m)
theorem SlA.mono (h : SlA w M k v n cs) (hM : ∀ b, M' b → b < w.heap.size → M b) : SlA w M' k v n cs := by
  obtain ⟨h1, h2, a, cap, hv, hn, hm, hc⟩ := h
  refine ⟨h1, h2, a, cap, hv, hn, hm, fun i u hu => ?_⟩
  obtain ⟨b, o, ha, hb, hcell⟩ := hc i u hu
  exact ⟨b, o, ha, fun m => hb (hM b m (World.block_lt_of_cell? w _ hcell)), hcell⟩
theorem SlA.nil : SlA w M k (.slice none 0 0) 0 [] := ⟨by simp, Nat.zero_le _, none, 0, rfl, Nat.le_refl _, Nat.zero_le _, fun i u h => by simp at h⟩
theorem SlA.of_own {B : Nat} (h : w.ownsRow B e k v n cs) (hM : ∀ b, M b → b < w.heap.size → b < B) : SlA w M k v n cs := by
  have hs := ownsRow_sl h
  obtain ⟨h1, h2, a, cap, hv, hn, hm, hc⟩ := hs
  refine ⟨h1, h2, a, cap, hv, hn, hm, fun i u hu => ?_⟩
  obtain ⟨b, o, ha, hcell⟩ := hc i u hu
  refine ⟨b, o, ha, fun m => ?_, hcell⟩
  have h3 := h.lt b (by rw [hv, ha]; rfl)
  have := hM b m h3.2
  omega
/-- of memory that was there ahead -/
theorem SlA.of_sl (h : SlK w k v n cs) (hM : ∀ b, M b → w.heap.size ≤ b) : SlA w M k v n cs := by
  obtain ⟨h1, h2, a, cap, hv, hn, hm, hc⟩ := h
  refine ⟨h1, h2, a, cap, hv, hn, hm, fun i u hu => ?_⟩
  obtain ⟨b, o, ha, hcell⟩ := hc i u hu
  refine ⟨b, o, ha, fun m => ?_, hcell⟩
  have h3 := World.block_lt_of_cell? w _ hcell
  have := hM b m
  simp only at h3
  omega
theorem SlA.ownS {B : Nat} (h : OwnS w B v cs) (hM : ∀ b, M b → b < B) : SlA w M 1 v cs.length cs := by
  have hs := h.sl
  obtain ⟨h1, h2, a, cap, hv, hn, hm, hc⟩ := hs
  refine ⟨h1, h2, a, cap, hv, hn, hm, fun i u hu => ?_⟩
  obtain ⟨b, o, ha, hcell⟩ := hc i u hu
  refine ⟨b, o, ha, fun m => ?_, hcell⟩
  have := hM b m
  obtain ⟨_, a', cap', hv', _, _, h4⟩ := h
  rcases h4 with rfl | ⟨b', o', cur, t', rfl, hB, _⟩
  · simp at hu
  · rw [hv] at hv'; cases hv'; cases ha; omega
end
/-- A row of elements of k cells each, over block bl, that one may write: the slice begins anywhere. -/
def OwnK (w : World) (bl : Nat) (t : TypeId) (k : Nat) (v : Value) (n : Nat) (xs : List Value) : Prop :=
  xs.length = n * k ∧ ((v = .slice none 0 0 ∧ n = 0) ∨ ∃ o cap cur, v = .slice (some ⟨bl, o, none⟩) n cap ∧ w.heap[bl]? = some (.cells cur t (0, 0)) ∧ n ≤ cap ∧ cap ≤ maxLen ∧ o + cap * k ≤ cur.size ∧ (cur.toList.drop o).take (n * k) = xs)
section
variable {M M' : Nat → Prop} {w' : World} {bl k n : Nat} {v : Value} {xs : List Value}
theorem OwnK.nil : OwnK w bl t k (.slice none 0 0) 0 [] := ⟨by simp, .inl ⟨rfl, rfl⟩⟩
theorem OwnK.kept (h : OwnK w bl t k v n xs) (hk : Kept M w w') (hn : ¬ M bl) : OwnK w' bl t k v n xs := by
  refine ⟨h.1, ?_⟩
  rcases h.2 with h | ⟨o, cap, cur, hv, hb, h1, h2, h3, h4⟩
  · exact .inl h
  · exact .inr ⟨o, cap, cur, hv, (hk.block bl (Array.getElem?_eq_some_iff.1 hb).1 hn).trans hb, h1, h2, h3, h4⟩
theorem OwnK.bel (h : OwnK w bl t k v n xs) (hb : Below w.heap.size w w') : OwnK w' bl t k v n xs := h.kept (Kept.of_bel (M := fun _ => False) hb) (fun m => m)
theorem OwnK.sla (h : OwnK w bl t k v n xs) (hn : ¬ M bl) : SlA w M k v n xs := by
  rcases h.2 with ⟨rfl, rfl⟩ | ⟨o, cap, cur, hv, hb, h1, h2, h3, h4⟩
  · have : xs = [] := List.eq_nil_of_length_eq_zero (by simpa using h.1)
    subst this; exact SlA.nil
  · refine ⟨h.1, by omega, _, cap, hv, h1, h2, fun i u hu => ⟨bl, o, rfl, hn, ?_⟩⟩
    rw [cell_of_row w bl (o + i) cur t (0, 0) hb]
    rw [← h4, List.getElem?_take] at hu
    split at hu
    · simpa [List.getElem?_drop] using hu
    · cases hu
theorem OwnK.sl (h : OwnK w bl t k v n xs) : SlK w k v n xs := (h.sla (M := fun _ => False) (fun m => m)).sl
theorem OwnK.of_own {B : Nat} (h : w.ownsRow B t k v n xs) : ∃ bl, B ≤ bl ∧ OwnK w bl t k v n xs := by
  rcases h.2 with h2 | ⟨b, cap, cur, hv, hB, hb, h1, h2, h3, h4⟩
  · exact ⟨B, Nat.le_refl _, h.1, .inl h2⟩
  · exact ⟨b, hB, h.1, .inr ⟨0, cap, cur, hv, hb, h1, h2, by omega, by simpa using h4⟩⟩
/-- seen: where it lies -/
theorem OwnK.form (h : OwnK w bl t k v n xs) (hn : 0 < n) : ∃ o cap, v = .slice (some ⟨bl, o, none⟩) n cap ∧ n ≤ cap ∧ cap ≤ maxLen ∧ bl < w.heap.size := by
  rcases h.2 with ⟨_, h0⟩ | ⟨o, cap, cur, hv, hb, h1, h2, h3, h4⟩
  · omega
  · exact ⟨o, cap, hv, h1, h2, (Array.getElem?_eq_some_iff.1 hb).1⟩
theorem OwnK.cells {o cap : Nat} (h : OwnK w bl t k (.slice (some ⟨bl, o, none⟩) n cap) n xs) : Cells w bl o xs := by
  intro i u hu
  obtain ⟨_, _, a, c, hv, _, _, hc⟩ := h.sl
  obtain ⟨b, o', ha, hcell⟩ := hc i u hu
  cases hv; cases ha
  exact hcell
theorem seg_write (L vs : List Value) (o N p : Nat) (h1 : p + vs.length ≤ N) (h2 : o + N ≤ L.length) :
    ((L.take (o + p) ++ vs ++ L.drop (o + p + vs.length)).drop o).take N = ((L.drop o).take N).take p ++ vs ++ ((L.drop o).take N).drop (p + vs.length) := by
  apply List.ext_getElem?
  intro i
  by_cases hi : i < p
  · rw [List.getElem?_take, if_pos (by omega), List.getElem?_drop, List.append_assoc, List.getElem?_append_left (by simp; omega), List.append_assoc, List.getElem?_append_left (by simp; omega)]
    simp only [List.getElem?_take, List.getElem?_drop]
    rw [if_pos (by omega), if_pos hi, if_pos (by omega)]
  · by_cases hv : i < p + vs.length
    · rw [List.getElem?_take, if_pos (by omega), List.getElem?_drop, List.append_assoc, List.getElem?_append_right (by simp; omega), List.getElem?_append_left (by simp; omega), List.append_assoc, List.getElem?_append_right (by simp; omega), List.getElem?_append_left (by simp; omega)]
      congr 1
      simp; omega
    · by_cases hN : i < N
      · rw [List.getElem?_take, if_pos (by omega), List.getElem?_drop, List.append_assoc, List.getElem?_append_right (by simp; omega), List.getElem?_append_right (by simp; omega), List.append_assoc, List.getElem?_append_right (by simp; omega), List.getElem?_append_right (by simp; omega)]
        simp only [List.getElem?_drop, List.getElem?_take]
        rw [if_pos (by simp; omega)]
        congr 1
        simp; omega
      · rw [List.getElem?_eq_none (by simp; omega), List.getElem?_eq_none (by simp; omega)]
/-- cells written within it -/
theorem OwnK.wrote {o cap p : Nat} {us : List Value} (h : OwnK w bl t k (.slice (some ⟨bl, o, none⟩) n cap) n xs) (hp : p + us.length ≤ n * k) (h1 : ∀ u ∈ us, One u = true) :
    ∃ w', (storeCells ⟨bl, o + p, none⟩ us 0).run P w = .ok () w' ∧ OwnK w' bl t k (.slice (some ⟨bl, o, none⟩) n cap) n (xs.take p ++ us ++ xs.drop (p + us.length)) ∧ w.grownBy w' (some bl) := by
  rcases h.2 with ⟨hv, _⟩ | ⟨o', cap', cur, hv, hb, hn, h2, h3, h4⟩
  · cases hv
  · cases hv
    have hnk : n * k ≤ cap * k := Nat.mul_le_mul_right _ hn
    have hst := run_storeCells_at P bl (o + p) t us 0 cur w hb (by omega) (fun u hu => One.one (h1 u hu))
    refine ⟨_, hst, ⟨?_, .inr ⟨o, cap, _, rfl, setRow_heap w bl cur _ t _ hb, hn, h2, ?_, ?_⟩⟩, ⟨rfl, rfl, rfl, by simp [World.setRow], fun q hq hne => setRow_other w bl q _ (fun e => hne (by rw [e]))⟩⟩
    · have := h.1
      simp only [List.length_append, List.length_take, List.length_drop]
      omega
    · simp only [List.size_toArray, List.length_append, List.length_take, List.length_drop, Array.length_toList]
      omega
    · have hl : cur.toList.length = cur.size := Array.length_toList
      have := seg_write cur.toList us o (n * k) p hp (by omega)
      rw [h4] at this
      simpa using this
/-- a part of it -/
theorem OwnK.cut {a : Option Addr} {cap : Nat} (h : OwnK w bl t k (.slice a n cap) n xs) (lo hi : Nat) (h1 : lo ≤ hi) (h2 : hi ≤ n) :
    OwnK w bl t k (.slice (if cap = lo then a else a.map (·.add (lo * k))) (hi - lo) (cap - lo)) (hi - lo) ((xs.drop (lo * k)).take ((hi - lo) * k)) := by
  have hlen : lo * k + (hi - lo) * k ≤ n * k := by rw [← Nat.add_mul]; exact Nat.mul_le_mul_right _ (by omega)
  refine ⟨by have := h.1; simp only [List.length_take, List.length_drop]; omega, ?_⟩
  rcases h.2 with ⟨hv, hn⟩ | ⟨o, cap', cur, hv, hb, hn, hm, h3, h4⟩
  · cases hv
    have : lo = 0 := by omega
    subst this
    exact .inl ⟨by simp; omega, by omega⟩
  · cases hv
    right
    by_cases hc : cap = lo
    · have e0 : hi - lo = 0 := by omega
      rw [if_pos hc, e0]
      exact ⟨o, cap - lo, cur, rfl, hb, by omega, by omega, by rw [hc, Nat.sub_self]; omega, by simp⟩
    · rw [if_neg hc]
      have hsum : lo * k + (cap - lo) * k = cap * k := by rw [← Nat.add_mul]; congr 1; omega
      refine ⟨o + lo * k, cap - lo, cur, by simp [add_addr], hb, by omega, by omega, by omega, ?_⟩
      rw [← h4, ← List.drop_drop, List.drop_take, List.take_take]
      congr 1
      omega
end
theorem OwnK.own {bl k n : Nat} {v : Value} {xs : List Value} (h : OwnK w bl t k v n xs) : v.ownBlock = none ∨ v.ownBlock = some bl := by
  rcases h.2 with ⟨rfl, _⟩ | ⟨o, cap, cur, rfl, _⟩
  · exact .inl rfl
  · exact .inr rfl
theorem OwnK.other {bl k n b : Nat} {v : Value} {xs vs : List Value} {t' : TypeId} (h : OwnK w bl t k v n xs) (hB : Blk w b t' vs) (hne : t' ≠ t) : v.ownBlock ≠ some b := by
  rcases h.2 with ⟨rfl, _⟩ | ⟨o, cap, cur, rfl, hb, _⟩
  · simp [Value.ownBlock]
  · intro e
    simp only [Value.ownBlock, Option.some.injEq] at e
    subst e
    have := hB.symm.trans hb
    simp only [Option.some.injEq, Obj.cells.injEq] at this
    exact hne this.2.1
theorem OwnK.keptR {bl k n : Nat} {v : Value} {xs : List Value} {w' : World} {r : Option Nat} (h : OwnK w bl t k v n xs) (hg : w.grownBy w' r) (hne : v.ownBlock = none ∨ v.ownBlock ≠ r) : OwnK w' bl t k v n xs := by
  refine ⟨h.1, ?_⟩
  rcases h.2 with h | ⟨o, cap, cur, rfl, hb, h1, h2, h3, h4⟩
  · exact .inl h
  · exact .inr ⟨o, cap, cur, rfl, (hg.block bl (Array.getElem?_eq_some_iff.1 hb).1 (by simpa [Value.ownBlock] using hne)).trans hb, h1, h2, h3, h4⟩
/-- append to it -/
theorem E.appendK {zv : Value} {k by' bl n m : Nat} {at2 e2 : TypeId} {xs news : List Value} (ht2 : P.underlying at2 = some (.slice e2)) (ht : P.underlying at' = some (.slice e)) (hi : TI P e zv k by') (hzs : zv.cells.size = k) (hk : 0 < k)
    (hs : OwnK w bl e k (ev f x) n xs) (hy : SlK w k (ev f y) m news) (h1 : ∀ u ∈ news, One u = true) (hb : (n + m) * by' ≤ 140737488355328) (hm : n + m ≤ maxLen) :
    ∃ v w', E P ⟨d, .call ⟨.builtin .append, #[x, y], #[at', at2]⟩, ty, pos, aft, g⟩ f w v w' ∧ ((∃ bl', OwnK w' bl' e k v (n + m) (xs ++ news) ∧ (bl' = bl ∨ w.heap.size ≤ bl')) ∧ w.grownBy w' (ev f x).ownBlock) := by
  obtain ⟨i, hi1, hi2, hi3, hi4⟩ := hi.info
  subst hi3; subst hi4
  have key : ∃ v w', (Builtin.append_ #[at', at'] ty #[ev f x, ev f y]).run P w = .ok v w' ∧ ((∃ bl', OwnK w' bl' e i.size v (n + m) (xs ++ news) ∧ (bl' = bl ∨ w.heap.size ≤ bl')) ∧ w.grownBy w' (ev f x).ownBlock) := by
    have hxsl := hs.sl
    obtain ⟨hl, hml, a, cap, hv, hmc, hcm, hc⟩ := hy
    rcases Nat.eq_zero_or_pos m with hm0 | hm0
    · subst hm0
      have hne : news = [] := List.eq_nil_of_length_eq_zero (by simpa using hl)
      subst hne
      obtain ⟨_, _, ax, capx, hvx, hnx, _, _⟩ := hxsl
      refine ⟨ev f x, w, ?_, ⟨bl, by simpa using hs, .inl rfl⟩, ⟨rfl, rfl, rfl, Nat.le_refl _, fun _ _ _ => rfl⟩⟩
      rw [hv, hvx]
      cases a <;> cases ax <;> simp [Builtin.append_, run_underlying ht, sizeOf, typeInfo, hi1, Builtin.lenOf, hnx, Builtin.firstCells, storeCells, loadCells, loadCellsFrom]
    · have hpos : 0 < news.length := by rw [hl]; exact Nat.mul_pos hm0 hk
      obtain ⟨b0, o0, ha0, _⟩ := hc 0 (news[0]'hpos) (by simp [hpos])
      subst ha0
      have hnews : ∀ j u, news[j]? = some u → w.cell? ((⟨b0, o0, none⟩ : Addr).add j) = some u := fun j u hu => by
        obtain ⟨b, o, ha, hcell⟩ := hc j u hu
        cases ha; rw [add_addr]; exact hcell
      have hlx := hs.1
      have hlen : (xs ++ news).length = (n + m) * i.size := by rw [List.length_append, hlx, hl, Nat.add_mul]
      have grown : ∀ (old : Nat) (row : Option Nat), OwnK (w.drew.alloc (.cells (xs.toArray ++ news.toArray ++ Builtin.zeroCells zv.cells (grownCap w (n + m) old e - (n + m))) e)) w.heap.size e i.size
          (.slice (some ⟨w.heap.size, 0, none⟩) (n + m) (grownCap w (n + m) old e)) (n + m) (xs ++ news) ∧
          w.grownBy (w.drew.alloc (.cells (xs.toArray ++ news.toArray ++ Builtin.zeroCells zv.cells (grownCap w (n + m) old e - (n + m))) e)) row := by
        intro old row
        have hge := grownCap_ge w (n + m) old e
        have hcm2 : grownCap w (n + m) old e ≤ maxLen := grownCap_le_maxLen w (n + m) old e hm
        refine ⟨⟨hlen, .inr ⟨0, _, _, rfl, heap_alloc_new w.drew _, hge, hcm2, ?_, ?_⟩⟩, ⟨rfl, rfl, rfl, by simp, fun q hq _ => heap_alloc_old w.drew _ hq⟩⟩
        · simp only [Array.size_append, List.size_toArray, size_zeroCells, hzs, hlx, hl, ← Nat.add_mul, Nat.zero_add]
          exact Nat.mul_le_mul_right _ (by omega)
        · simp only [Array.toList_append, List.append_assoc, List.drop_zero]
          rw [← List.append_assoc, ← hlen]
          exact List.take_left
      rw [hv]
      rcases hs.2 with ⟨hvx, hn0⟩ | ⟨o, capx, cur, hvx, hbl, hnc, hcx, hcs, htake⟩
      · subst hn0
        have hx0 : xs = [] := List.eq_nil_of_length_eq_zero (by simpa using hlx)
        subst hx0
        rw [hvx]
        have hr := run_append_nil (P := P) w at' ty e i zv ht hi1 hi2 ⟨b0, o0, none⟩ m cap news hl hnews hm0 (by have := hm; unfold maxLen at this; omega) (by rw [Nat.zero_add] at hb; omega)
        have hgr := grown 0 (Value.ownBlock (.slice none 0 0))
        simp only [Nat.zero_add, List.nil_append, Array.empty_append] at hgr ⊢
        exact ⟨_, _, hr, ⟨_, hgr.1, .inr (Nat.le_refl _)⟩, hgr.2⟩
      · rw [hvx]
        by_cases hroom : n + m ≤ capx
        · have hnm : (n + m) * i.size ≤ capx * i.size := Nat.mul_le_mul_right _ hroom
          have hnm2 : n * i.size + m * i.size = (n + m) * i.size := (Nat.add_mul _ _ _).symm
          have hfit : o + n * i.size + 0 + news.length ≤ cur.size := by omega
          have hst := run_storeCells_at P bl (o + n * i.size) e news 0 cur w hbl hfit (fun u hu => One.one (h1 u hu))
          have hf := run_firstCells_some (P := P) w i.size m ⟨b0, o0, none⟩ m cap news hl hnews
          simp only [Nat.add_zero] at hst
          refine ⟨.slice (some ⟨bl, o, none⟩) (n + m) capx, w.setRow bl (cur.toList.take (o + n * i.size) ++ news ++ cur.toList.drop (o + n * i.size + news.length)).toArray, ?_, ⟨bl, ⟨hlen, .inr ⟨o, capx, _, rfl, setRow_heap w bl cur _ e _ hbl, hroom, hcx, ?_, ?_⟩⟩, .inl rfl⟩, ⟨rfl, rfl, rfl, by simp [World.setRow], fun q _ hq => setRow_other w bl q _ (fun e => hq (by simp [Value.ownBlock, e]))⟩⟩
          · simp [Builtin.append_, run_underlying ht, sizeOf, typeInfo, hi1, Builtin.lenOf, hroom, hf, add_addr, hst]
          · simp only [List.size_toArray, List.length_append, List.length_take, List.length_drop, Array.length_toList]
            omega
          · have hcl : cur.toList.length = cur.size := Array.length_toList
            have := seg_write cur.toList news o ((n + m) * i.size) (n * i.size) (by omega) (by omega)
            rw [this]
            rw [List.take_take, Nat.min_eq_left (by omega), htake, List.drop_of_length_le (by simp; omega), List.append_nil]
        · have holds : ∀ j u, xs[j]? = some u → w.cell? ((⟨bl, o, none⟩ : Addr).add j) = some u := fun j u hu => by
            rw [add_addr]
            rw [hvx] at hs
            exact hs.cells j u hu
          have hr := run_append_grow (P := P) w at' ty e i zv ht hi1 hi2 ⟨bl, o, none⟩ n capx xs hlx holds ⟨b0, o0, none⟩ m cap news hl hnews (by omega) (by have := hm; unfold maxLen at this; omega) (growslice_fits (by omega) hb)
          have hgr := grown capx (Value.ownBlock (.slice (some ⟨bl, o, none⟩) n capx))
          exact ⟨_, _, hr, ⟨_, hgr.1, .inr (Nat.le_refl _)⟩, hgr.2⟩
  obtain ⟨v, w', h, r⟩ := key
  refine ⟨v, w', .inl ?_, r⟩
  have h2 := run_append_types (P := P) (w := w) (ty := ty) ht ht2 (ev f x) (ev f y)
  simp [execOp, resolve, invoke, builtin, h2, h]
/-- a store of a whole element -/
theorem E.storeK {zv : Value} {by' bl o n cap k i j : Nat} {us xs : List Value} (hi : TI P t zv k by') (hx : ev f x = .pointer (some ⟨bl, j, none⟩)) (hy : ev f y = .agg us.toArray) (hu : us.length = k) (h1 : ∀ u ∈ us, One u = true) (ho : OwnK w bl e k (.slice (some ⟨bl, o, none⟩) n cap) n xs) (hin : i < n) (hj : o + i * k = j) :
    ∃ v w', E P ⟨d, .store t x y, ty, pos, aft, g⟩ f w v w' ∧ (OwnK w' bl e k (.slice (some ⟨bl, o, none⟩) n cap) n (xs.take (i * k) ++ us ++ xs.drop (i * k + k)) ∧ w.grownBy w' (some bl)) := by
  subst hj
  have hik : i * k + k ≤ n * k := by rw [← Nat.succ_mul]; exact Nat.mul_le_mul_right _ hin
  obtain ⟨w', hr, h2, h3⟩ := ho.wrote (P := P) (p := i * k) (us := us) (by omega) h1
  rw [hu] at h2
  refine ⟨undef, w', .inr ⟨?_, rfl, fun c => by simp⟩, h2, h3⟩
  simp [execOp, hx, hy, Instr.storeAt, Instr.sureAddr, storeVar, run_sizeOf hi, Value.cells, hu, hr]
/-- a store into one cell of it -/
theorem E.storeK1 {zv u : Value} {by' bl o n cap k i j : Nat} {xs : List Value} (hi : TI P t zv 1 by') (hx : ev f x = .pointer (some ⟨bl, j, none⟩)) (hy : ev f y = u) (h1 : One u = true) (ho : OwnK w bl e k (.slice (some ⟨bl, o, none⟩) n cap) n xs) (hin : i < n * k) (hj : o + i = j) :
    ∃ v w', E P ⟨d, .store t x y, ty, pos, aft, g⟩ f w v w' ∧ (OwnK w' bl e k (.slice (some ⟨bl, o, none⟩) n cap) n (xs.set i u) ∧ w.grownBy w' (some bl)) := by
  subst hj
  obtain ⟨w', hr, h2, h3⟩ := ho.wrote (P := P) (p := i) (us := [u]) (by simp; omega) (by simpa using h1)
  have hl := ho.1
  have e2 : xs.take i ++ [u] ++ xs.drop (i + [u].length) = xs.set i u := by
    rw [List.set_eq_take_append_cons_drop, if_pos (by omega)]; simp
  rw [e2] at h2
  refine ⟨undef, w', .inr ⟨?_, rfl, fun c => by simp⟩, h2, h3⟩
  have hcs := One.cells h1
  simp [execOp, hx, hy, Instr.storeAt, Instr.sureAddr, storeVar, run_sizeOf hi, hcs, hr]
/-- the value of a part of a slice that is seen -/
theorem Y.sliceVal {zv : Value} {by' n cap k : Nat} {a : Option Addr} {k1 k2 : IntKind} {lo hi : Nat} {ol oh : Option Operand} (ht : P.underlying t = some (.slice e)) (hti : TI P e zv k by') (hv : ev f x = .slice a n cap) (hnc : n ≤ cap)
    (hlo : match ol with | some l => ∃ lI, ev f l = .int k1 lI ∧ lI = (lo : Int) | none => lo = 0) (hhi : match oh with | some l => ∃ hI, ev f l = .int k2 hI ∧ hI = (hi : Int) | none => hi = n) (h1 : lo ≤ hi) (h2 : hi ≤ n) (w' : World) :
    Y P ⟨d, .slice t x ol oh none, ty, pos, aft, g⟩ f w' (.slice (if cap = lo then a else a.map (·.add (lo * k))) (hi - lo) (cap - lo)) := by
  have hb1 : ∀ (v : Value) (c : BoundsCode), (∃ lI, v = .int k1 lI ∧ lI = (lo : Int)) → (Instr.sliceBound v hi c).run P w' = .ok lo w' := by
    rintro v c ⟨_, rfl, rfl⟩
    simp only [Instr.sliceBound, asIntOf, Sem.run_bind, Sem.run_pure, Result.andThen_ok]
    rw [if_pos ⟨by omega, by omega⟩]; rfl
  have hb2 : ∀ (v : Value) (c : BoundsCode), (∃ hI, v = .int k2 hI ∧ hI = (hi : Int)) → (Instr.sliceBound v cap c).run P w' = .ok hi w' := by
    rintro v c ⟨_, rfl, rfl⟩
    simp only [Instr.sliceBound, asIntOf, Sem.run_bind, Sem.run_pure, Result.andThen_ok]
    rw [if_pos ⟨by omega, by omega⟩]; rfl
  cases ol with
  | none =>
    simp only at hlo; subst hlo
    cases oh with
    | none =>
      simp only at hhi; subst hhi
      simp [Y, execOp, Instr.sliceAt, Instr.slice, Instr.sliceBounds, hv, run_underlying ht, run_sizeOf hti]
    | some u =>
      simp only at hhi
      have := hb2 (ev f u) .sliceAcap hhi
      simp [Y, execOp, Instr.sliceAt, Instr.slice, Instr.sliceBounds, hv, run_underlying ht, run_sizeOf hti, this]
  | some l =>
    simp only at hlo
    cases oh with
    | none =>
      simp only at hhi; subst hhi
      have := hb1 (ev f l) .sliceB hlo
      simp [Y, execOp, Instr.sliceAt, Instr.slice, Instr.sliceBounds, hv, run_underlying ht, run_sizeOf hti, this]
    | some u =>
      simp only at hhi
      have h5 := hb1 (ev f l) .sliceB hlo
      have h6 := hb2 (ev f u) .sliceAcap hhi
      simp [Y, execOp, Instr.sliceAt, Instr.slice, Instr.sliceBounds, hv, run_underlying ht, run_sizeOf hti, h5, h6]
/-- copy within, or into, it: so many elements, from element lo on -/
theorem E.copyK {zv : Value} {k by' bl o n cap lo m m1 dcap : Nat} {a' : Option Addr} {sT : TypeId} {cs xs : List Value} (ht : P.underlying at' = some (.slice e)) (hi : TI P e zv k by') (hk : 0 < k)
    (hx : ev f x = .slice a' m1 dcap) (hm1 : m ≤ m1) (ha : 0 < m → a' = some ⟨bl, o + lo * k, none⟩) (ho : OwnK w bl t k (.slice (some ⟨bl, o, none⟩) n cap) n xs) (hy : SlK w k (ev f y) m cs) (hn : lo + m ≤ n) (h1 : ∀ u ∈ cs, One u = true) :
    ∃ v w', E P ⟨d, .call ⟨.builtin .copy, #[x, y], #[at', sT]⟩, ty, pos, aft, g⟩ f w v w' ∧ (OwnK w' bl t k (.slice (some ⟨bl, o, none⟩) n cap) n (xs.take (lo * k) ++ cs ++ xs.drop (lo * k + m * k)) ∧ w.grownBy w' (some bl)) := by
  obtain ⟨hl, _, a, cap', hv, hnc, hcm, hc⟩ := hy
  obtain ⟨i, hi1, hi2, hi3, hi4⟩ := hi.info
  have hmin : min m m1 = m := Nat.min_eq_left hm1
  rcases Nat.eq_zero_or_pos m with hm0 | hm0
  · subst hm0
    have hcs : cs = [] := List.eq_nil_of_length_eq_zero (by simpa using hl)
    subst hcs
    refine ⟨goInt 0, w, .inl ?_, by simpa using ho, ⟨rfl, rfl, rfl, Nat.le_refl _, fun _ _ _ => rfl⟩⟩
    cases a' <;> cases a <;> simp [execOp, resolve, invoke, builtin, Builtin.copy_, hx, hv, run_underlying ht, Builtin.lenOf, Builtin.firstCells, sizeOf, typeInfo, hi1, storeCells, loadCells, loadCellsFrom]
  · obtain rfl := ha hm0
    have hpos : 0 < cs.length := by rw [hl]; exact Nat.mul_pos hm0 hk
    obtain ⟨b0, o0, ha0, _⟩ := hc 0 (cs[0]'hpos) (by simp [hpos])
    subst ha0
    have hmk : lo * k + m * k ≤ n * k := by rw [← Nat.add_mul]; exact Nat.mul_le_mul_right _ hn
    obtain ⟨w', hr, h2, h3⟩ := ho.wrote (P := P) (p := lo * k) (us := cs) (by omega) h1
    rw [hl] at h2
    have hf := run_firstCells_some (P := P) w i.size m ⟨b0, o0, none⟩ m cap' cs (by rw [hi3]; exact hl) (fun j u hu => by
      obtain ⟨b, o, ha, hcell⟩ := hc j u hu
      cases ha; rw [add_addr]; exact hcell)
    refine ⟨goInt m, w', .inl ?_, h2, h3⟩
    simp [execOp, resolve, invoke, builtin, Builtin.copy_, hx, hv, run_underlying ht, Builtin.lenOf, sizeOf, typeInfo, hi1, hmin, hf, hr]
/-! lists of elements of k cells -/
section
variable {α : Type} {enc : α → List Value} {k : Nat}
theorem flat_len (h : ∀ a, (enc a).length = k) : ∀ ls : List α, (ls.flatMap enc).length = ls.length * k
  | [] => by simp
  | a :: ls => by rw [List.flatMap_cons, List.length_append, h, flat_len h ls, List.length_cons, Nat.succ_mul, Nat.add_comm]
theorem flat_drop (h : ∀ a, (enc a).length = k) : ∀ (ls : List α) (i : Nat), (ls.flatMap enc).drop (i * k) = (ls.drop i).flatMap enc
  | ls, 0 => by simp
  | [], i + 1 => by simp
  | a :: ls, i + 1 => by
    rw [List.flatMap_cons, List.drop_succ_cons, ← flat_drop h ls i, Nat.succ_mul, Nat.add_comm, ← List.drop_drop]
    congr 1
    rw [← h a, List.drop_left]
theorem flat_take (h : ∀ a, (enc a).length = k) : ∀ (ls : List α) (i : Nat), (ls.flatMap enc).take (i * k) = (ls.take i).flatMap enc
  | ls, 0 => by simp
  | [], i + 1 => by simp
  | a :: ls, i + 1 => by
    rw [List.flatMap_cons, List.take_succ_cons, List.flatMap_cons, ← flat_take h ls i, Nat.succ_mul, Nat.add_comm, ← h a, List.take_length_add_append]
theorem flat_at (h : ∀ a, (enc a).length = k) (ls : List α) (i : Nat) (hi : i < ls.length) : ((ls.flatMap enc).drop (i * k)).take k = enc ls[i] := by
  rw [flat_drop h, List.drop_eq_getElem_cons hi, List.flatMap_cons, ← h ls[i], List.take_left]
theorem flat_set (h : ∀ a, (enc a).length = k) (ls : List α) (i : Nat) (a : α) (hi : i < ls.length) : (ls.flatMap enc).take (i * k) ++ enc a ++ (ls.flatMap enc).drop (i * k + k) = (ls.set i a).flatMap enc := by
  rw [← Nat.succ_mul, flat_take h, flat_drop h, List.set_eq_take_append_cons_drop, if_pos hi]
  simp
end
theorem Y.idxF {α : Type} {enc : α → List Value} {l : List α} {zv : Value} {by' k : Nat} {ki : IntKind} {i : Int} (d0 : α) (hl : ∀ a, (enc a).length = k) (hk : 0 < k) (ht : P.underlying t = some (.slice e)) (hi : TI P e zv k by') (h : SlK w k (ev f x) l.length (l.flatMap enc)) (hy : ev f y = .int ki i) (h0 : 0 ≤ i) (h1 : i < l.length) :
    ∃ v, (∀ w', Y P ⟨d, .indexAddr t x y, ty, pos, aft, g⟩ f w' v) ∧ ∃ b o, v = .pointer (some ⟨b, o, none⟩) ∧ Cells w b o (enc (l.getD i.toNat d0)) := by
  obtain ⟨v, hY, b, o, hv, hc⟩ := Y.idx (P := P) (d := d) (ty := ty) (pos := pos) (aft := aft) (g := g) ht hi hk h hy h0 h1
  refine ⟨v, hY, b, o, hv, ?_⟩
  have hlen : i.toNat < l.length := by omega
  rw [flat_at hl l i.toNat hlen] at hc
  simpa [hlen] using hc
/-- a slice held against nil -/
theorem Y.eqsn {a : Option Addr} {n c : Nat} {xt yt : TypeId} (ht : P.underlying xt = some (.slice e)) (hx : ev f x = .slice a n c) (hy : ev f y = .slice none 0 0) : Y P ⟨d, .binOp .eql xt x y yt, ty, pos, aft, g⟩ f w (.bool a.isNone) :=
  Y.eq_of hx hy rfl (by simp [eqGuard]) fun n => by cases a <;> simp [Op.equalIn, run_underlying ht]
theorem Y.nesn {a : Option Addr} {n c : Nat} {xt yt : TypeId} (ht : P.underlying xt = some (.slice e)) (hx : ev f x = .slice a n c) (hy : ev f y = .slice none 0 0) : Y P ⟨d, .binOp .neq xt x y yt, ty, pos, aft, g⟩ f w (.bool (!a.isNone)) :=
  Y.ne_of hx hy rfl (by simp [eqGuard]) fun n => by cases a <;> simp [Op.equalIn, run_underlying ht]
/-- a string of bytes -/
theorem Y.b2s {l : List UInt8} {src dst : TypeId} (hs : P.underlying src = some (.slice e)) (he : P.underlying e = some (.int .u8)) (hd : P.underlying dst = some .string) (h : SlK w 1 (ev f x) l.length (l.map u8v)) : Y P ⟨d, .convert src dst x, ty, pos, aft, g⟩ f w (strv l) := by
  obtain ⟨_, _, a, cap, hv, _, _, hc⟩ := h
  cases a with
  | none =>
    have : l = [] := by
      cases l with
      | nil => rfl
      | cons c l => obtain ⟨b, o, ha, _⟩ := hc 0 (u8v c) rfl; cases ha
    subst this
    have hr := run_convert_bytes_nil (P := P) (w := w) src e hs he 0 cap dst hd
    simp only [List.length_nil] at hv
    simp [Y, execOp, hv, hr, strv]
    rfl
  | some a =>
    have hr := run_convert_bytes_back (P := P) w src dst e a cap l hs he hd (fun j hj => by
      obtain ⟨b, o, ha, hcell⟩ := hc j (u8v l[j]) (by simp [hj])
      cases ha; rw [add_addr]; exact hcell)
    simp [Y, execOp, hv, hr, strv]
end Go.Cx
