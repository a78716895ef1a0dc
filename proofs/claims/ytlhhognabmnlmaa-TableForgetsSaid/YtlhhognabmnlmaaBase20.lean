/-
  Maps whose entries' stamps are known: an entry stored anew, a range over a map.
-/
import Derived.Test.YtlhhognabmnlmaaBase14
import Derived.Maps.RangeRun
namespace Go.Cx
set_option linter.unusedVariables false
open Go Go.RowKit
/-- the block b is a map of these entries, each with its own stamp -/
structure MapF (w : World) (b : Nat) (es : Array MapEntry) (clock : Nat) : Prop where
  blk : w.heap[b]? = some (.map es clock)
  nd : (es.toList.map (·.born)).Nodup
  lt : ∀ e ∈ es.toList, e.born < clock
section
variable {α : Type} {kv : α → Value} {w w' : World} {b b' : Nat} {m : List (α × Value)}
/-- the block b is a map with the entries m, in their order, stamped -/
def MapN (kv : α → Value) (w : World) (b : Nat) (m : List (α × Value)) : Prop := ∃ es clock, MapF w b es clock ∧ es.toList.map (fun e => (e.key, e.val)) = m.map (fun p => (kv p.1, p.2))
theorem MapN.at (h : MapN kv w b m) : MapAt w b (m.map fun p => (kv p.1, p.2)) := by
  obtain ⟨es, c, h1, h2⟩ := h
  exact ⟨es, c, h1.blk, h2⟩
theorem MapN.lt (h : MapN kv w b m) : b < w.heap.size := h.at.lt
theorem MapF.same {es : Array MapEntry} {c : Nat} (h : MapF w b es c) (e : w'.heap[b]? = w.heap[b]?) : MapF w' b es c := ⟨e.trans h.blk, h.nd, h.lt⟩
theorem MapN.same (h : MapN kv w b m) (e : w'.heap[b]? = w.heap[b]?) : MapN kv w' b m := by
  obtain ⟨es, c, h1, h2⟩ := h
  exact ⟨es, c, h1.same e, h2⟩
theorem MapN.bel (h : MapN kv w b m) (hb : Below w.heap.size w w') : MapN kv w' b m := h.same (hb.block b h.lt)
theorem MapN.grown (h : MapN kv w b m) (hg : w.grownBy w' (some b')) (hne : b ≠ b') : MapN kv w' b m := h.same (hg.block b h.lt (fun e => hne (by cases e; rfl)))
end
section
variable {α : Type} [DecidableEq α]
/-- an entry stored: in its key's place, or at the end -/
def mput (a : α) (v : Value) : List (α × Value) → List (α × Value)
  | [] => [(a, v)]
  | p :: m => if a = p.1 then (a, v) :: m else p :: mput a v m
theorem mget_mput (a a' : α) (v : Value) : ∀ m : List (α × Value), mget a' (mput a v m) = if a' = a then some v else mget a' m
  | [] => by simp [mput, mget]
  | p :: m => by
    unfold mput
    by_cases h : a = p.1
    · rw [if_pos h]
      by_cases h2 : a' = a
      · simp [mget, h2]
      · rw [if_neg h2, mget, if_neg h2, mget, if_neg (by rw [← h]; exact h2)]
    · rw [if_neg h, mget, mget_mput a a' v m]
      by_cases h2 : a' = p.1
      · have : a' ≠ a := fun e => h (e.symm.trans h2)
        rw [if_pos h2, if_neg this, mget, if_pos h2]
      · rw [if_neg h2, mget, if_neg h2]
variable {P : Program} {f : Fr} {w : World} {d : Option Tmp} {ty : TypeId} {pos : String} {aft : Array Edge} {g : Option (Nat × Bool)} {x y z : Operand} {t K El : TypeId} {kind : TypeDesc} {kv : α → Value}
theorem KD.find2 (D : KD P K kind kv) (a : α) : ∀ (es : List MapEntry) (m : List (α × Value)) (i : Nat), es.map (fun e => (e.key, e.val)) = m.map (fun p => (kv p.1, p.2)) →
    (mget a m = none ∧ Instr.findNow kind (kv a) es i = some none ∧ ∀ v, mput a v m = m ++ [(a, v)]) ∨
    (∃ j v, Instr.findNow kind (kv a) es i = some (some (i + j, v)) ∧ mget a m = some v ∧ j < es.length ∧ (∀ e, es[j]? = some e → e.key = kv a) ∧ ∀ u, (mput a u m).map (fun p => (kv p.1, p.2)) = (es.map (fun e => (e.key, e.val))).set j (kv a, u))
  | [], m, i, h => by
    have : m = [] := by simpa using h.symm
    subst this
    exact .inl ⟨rfl, rfl, fun _ => rfl⟩
  | e :: es, [], i, h => by simp at h
  | e :: es, p :: m, i, h => by
    have h0 := h
    simp only [List.map_cons, List.cons.injEq, Prod.mk.injEq] at h
    obtain ⟨⟨h1, h2⟩, h3⟩ := h
    have hs := D.same a p.1
    rw [← h1] at hs
    by_cases ha : a = p.1
    · rw [decide_eq_true ha] at hs
      refine .inr ⟨0, e.val, by simp [Instr.findNow, hs], by simp [mget, ha, h2], by simp, fun e' he => ?_, fun u => ?_⟩
      · have : e = e' := by simpa using he
        rw [← this, h1, ha]
      · rw [mput, if_pos ha, List.map_cons, ← h3]; rfl
    · rw [decide_eq_false ha] at hs
      rcases D.find2 a es m (i + 1) h3 with ⟨h4, h5, h6⟩ | ⟨j, v, h4, h5, h6, h7, h8⟩
      · exact .inl ⟨by simp [mget, ha, h4], by simp [Instr.findNow, hs, h5], fun v => by rw [mput, if_neg ha, h6]; rfl⟩
      · refine .inr ⟨j + 1, v, by simp [Instr.findNow, hs, h4]; omega, by simp [mget, ha, h5], by simp; exact h6, fun e' he => h7 e' (by simpa using he), fun u => ?_⟩
        rw [mput, if_neg ha, List.map_cons, h8 u, ← h1, ← h2]; rfl
theorem heap_set_self {b : Nat} {o : Obj} (h : b < w.heap.size) : ({ w with heap := w.heap.setIfInBounds b o } : World).heap[b]? = some o := by
  show (w.heap.setIfInBounds b _)[b]? = _
  rw [Array.getElem?_setIfInBounds, if_pos rfl, if_pos h]
theorem born_modify (es : Array MapEntry) (i : Nat) (h : MapEntry → MapEntry) (hh : ∀ e, (h e).born = e.born) : (es.modify i h).toList.map (·.born) = es.toList.map (·.born) := by
  apply List.ext_getElem?
  intro j
  simp only [List.getElem?_map, Array.getElem?_toList, Array.getElem?_modify]
  by_cases e : i = j
  · rw [if_pos e]
    cases es[j]? with
    | none => rfl
    | some x => simp [hh]
  · rw [if_neg e]
theorem MapF.modify {b : Nat} {es : Array MapEntry} {c : Nat} (h : MapF w b es c) (i : Nat) (hf : MapEntry → MapEntry) (hh : ∀ e, (hf e).born = e.born) : MapF { w with heap := w.heap.setIfInBounds b (.map (es.modify i hf) c) } b (es.modify i hf) c := by
  refine ⟨heap_set_self (Array.getElem?_eq_some_iff.1 h.blk).1, by rw [born_modify es i hf hh]; exact h.nd, fun e he => ?_⟩
  have h1 : e.born ∈ (es.modify i hf).toList.map (·.born) := List.mem_map.2 ⟨e, he, rfl⟩
  rw [born_modify es i hf hh] at h1
  obtain ⟨e', h2, h3⟩ := List.mem_map.1 h1
  rw [← h3]; exact h.lt e' h2
theorem MapF.push {b : Nat} {es : Array MapEntry} {c : Nat} (h : MapF w b es c) (k v : Value) : MapF { w with heap := w.heap.setIfInBounds b (.map (es.push ⟨k, v, c⟩) (c + 1)) } b (es.push ⟨k, v, c⟩) (c + 1) := by
  refine ⟨heap_set_self (Array.getElem?_eq_some_iff.1 h.blk).1, ?_, fun e he => ?_⟩
  · rw [Array.toList_push, List.map_append, List.nodup_append]
    refine ⟨h.nd, by simp, fun a ha b hb => ?_⟩
    obtain ⟨e, he, rfl⟩ := List.mem_map.1 ha
    have := h.lt e he
    simp at hb
    omega
  · rw [Array.toList_push] at he
    rcases List.mem_append.1 he with he | he
    · have := h.lt e he; omega
    · simp at he; rw [he]; simp
theorem pair_modify (es : Array MapEntry) (i : Nat) (h : MapEntry → MapEntry) (q : Value × Value) (hq : ∀ e, es[i]? = some e → ((h e).key, (h e).val) = q) : (es.modify i h).toList.map (fun e => (e.key, e.val)) = (es.toList.map (fun e => (e.key, e.val))).set i q := by
  apply List.ext_getElem?
  intro j
  simp only [List.getElem?_map, Array.getElem?_toList, Array.getElem?_modify, List.getElem?_set]
  by_cases e : i = j
  · subst e
    rw [if_pos rfl, if_pos rfl]
    cases hj : es[i]? with
    | none =>
      have := Array.getElem?_eq_none_iff.1 hj
      rw [if_neg (by simp; omega)]; rfl
    | some x =>
      have := (Array.getElem?_eq_some_iff.1 hj).1
      rw [if_pos (by simp; omega)]
      exact congrArg some (hq x hj)
  · rw [if_neg e, if_neg e]
theorem Y.lookup1 {zv : Value} {size bytes b : Nat} {m : List (α × Value)} {a : α} (ht : P.underlying t = some (.map K El)) (D : KD P K kind kv) (hi : TI P El zv size bytes) (hx : ev f x = .map (some b)) (hm : MapN kv w b m) (hy : ev f y = kv a) :
    Y P ⟨d, .lookup t x y false, ty, pos, aft, g⟩ f w ((mget a m).getD zv) := Y.lookup ht D hi hx hm.at hy
theorem Y.lookup1Nil {zv : Value} {size bytes : Nat} {a : α} (ht : P.underlying t = some (.map K El)) (D : KD P K kind kv) (hi : TI P El zv size bytes) (hx : ev f x = .map none) (hy : ev f y = kv a) :
    Y P ⟨d, .lookup t x y false, ty, pos, aft, g⟩ f w zv := Y.lookupNil ht D hi hx hy
/-- an entry stored -/
theorem E.mapUpdateN {b : Nat} {m : List (α × Value)} {a : α} {v : Value} (ht : P.underlying t = some (.map K El)) (D : KD P K kind kv) (hx : ev f x = .map (some b)) (hm : MapN kv w b m) (hy : ev f y = kv a) (hz : ev f z = v) :
    ∃ u w', E P ⟨d, .mapUpdate t x y z, ty, pos, aft, g⟩ f w u w' ∧ (MapN kv w' b (mput a v m) ∧ w.grownBy w' (some b)) := by
  obtain ⟨es, c, h1, h2⟩ := hm
  rcases D.find2 a es.toList m 0 h2 with ⟨h3, h4, h5⟩ | ⟨j, v', h3, h4, h5, h6, h7⟩
  · refine ⟨undef, _, .inr ⟨by simp [execOp, Instr.mapUpdate, Instr.findKey, run_underlying ht, run_underlying D.und, hx, hy, hz, run_getMap h1.blk, D.check _ a w, h4, Result.andThen, run_setMap _ h1.blk], rfl, fun c => by simp⟩, ⟨es.push ⟨kv a, v, c⟩, c + 1, h1.push _ _, ?_⟩, setMap_bel⟩
    rw [h5, Array.toList_push, List.map_append, h2, List.map_append]; rfl
  · have hj : j < es.size := by simpa using h5
    have hk : es[j].key = kv a := h6 es[j] (by simp [hj])
    refine ⟨undef, _, .inr ⟨by simp [execOp, Instr.mapUpdate, Instr.findKey, run_underlying ht, run_underlying D.und, hx, hy, hz, run_getMap h1.blk, D.check _ a w, h3, Result.andThen, run_setMap _ h1.blk, hj, hk, D.stays], rfl, fun c => by simp⟩, ⟨es.modify j (fun e => { e with key := kv a, val := v }), c, h1.modify j _ (fun e => rfl), ?_⟩, setMap_bel⟩
    rw [h7]
    exact pair_modify es j _ _ (fun e he => rfl)
end
section
variable {α : Type}
variable {P : Program} {f : Fr} {w : World} {d : Option Tmp} {ty : TypeId} {pos : String} {aft : Array Edge} {g : Option (Nat × Bool)} {x y z : Operand} {t K El : TypeId} {kind : TypeDesc} {kv : α → Value}
theorem E.makeMapN {r : Option Operand} {ki : IntKind} {n : Int} (hm : P.underlying t = some (.map K El)) (hr : ∀ o, r = some o → ev f o = .int ki n) : ∃ v w', E P ⟨d, .makeMap t r, ty, pos, aft, g⟩ f w v w' ∧ (v = .map (some w.heap.size) ∧ MapN kv w' w.heap.size [] ∧ Below w.heap.size w w') := by
  refine ⟨_, w.alloc (.map #[] 0), .inl ?_, rfl, ⟨#[], 0, ⟨heap_alloc_new w _, by simp, by simp⟩, rfl⟩, (Below.refl _ _).alloc (Nat.le_refl _) _⟩
  cases r with
  | none => simp [execOp, Instr.makeMap, newObj, Sem.run]
  | some o => simp [execOp, Instr.makeMap, newObj, Sem.run, hr o rfl, run_underlying hm, Result.andThen, asInt, asIntOf]
/-- an iterator (block r) over a map (block bo, or none), and what it has not yet told -/
def IterAt (kv : α → Value) (w : World) (r : Nat) (bo : Option Nat) (left : List (α × Value)) : Prop :=
  (bo = none ∧ left = [] ∧ ∃ s seen c, w.heap[r]? = some (.mapIter none s seen c)) ∨
  ∃ b es clock since seen c0, bo = some b ∧ w.heap[r]? = some (.mapIter (some b) since seen c0) ∧ MapF w b es clock ∧ (∀ e ∈ es.toList, e.born < since) ∧ since ≤ c0 ∧ since ≤ clock ∧ (leftOf es seen).toList.map (fun e => (e.key, e.val)) = left.map (fun p => (kv p.1, p.2))
/-- an iterator behind a step: the entry that it has told -/
def IterE (kv : α → Value) (w : World) (r : Nat) (bo : Option Nat) (a : α) (u : Value) : Prop :=
  ∃ b es clock since seen e, bo = some b ∧ w.heap[r]? = some (.mapIter (some b) since (Array.push seen e.born) clock) ∧ MapF w b es clock ∧ e ∈ es.toList ∧ e.key = kv a ∧ e.val = u
theorem IterE.kept {w' : World} {r : Nat} {bo : Option Nat} {a : α} {u : Value} (h : IterE kv w r bo a u) (hk : ∀ k, k < w.heap.size → (k = r ∨ bo = some k) → w'.heap[k]? = w.heap[k]?) : IterE kv w' r bo a u := by
  obtain ⟨b, es, clock, since, seen, e, h0, h, h1, h2⟩ := h
  exact ⟨b, es, clock, since, seen, e, h0, (hk r (Array.getElem?_eq_some_iff.1 h).1 (.inl rfl)).trans h, h1.same (hk b (Array.getElem?_eq_some_iff.1 h1.blk).1 (.inr h0)), h2⟩
theorem IterE.bel {w' : World} {r : Nat} {bo : Option Nat} {a : α} {u : Value} (h : IterE kv w r bo a u) (hb : Below w.heap.size w w') : IterE kv w' r bo a u := h.kept fun k hk _ => hb.block k hk
theorem Y.entryN {r : Nat} {bo : Option Nat} {a : α} {u : Value} (hx : ev f x = .pointer (some ⟨r, 0, none⟩)) (h : IterE kv w r bo a u) : Y P ⟨d, .entry x, ty, pos, aft, g⟩ f w (.tuple #[kv a, u]) := by
  obtain ⟨b, es, clock, since, seen, e, h0, h, h1, h2, h3, h4⟩ := h
  have := run_entry_at (P := P) w r b since seen es clock e h h1.blk h2 h1.nd
  show (execOp (ev f) _).run P w = _
  simp only [execOp, hx, Sem.run_bind, this, Result.andThen, h3, h4]
  rfl
theorem IterAt.lt {r : Nat} {bo : Option Nat} {left : List (α × Value)} (h : IterAt kv w r bo left) : r < w.heap.size := by
  rcases h with ⟨_, _, s, seen, c, h⟩ | ⟨b, es, clock, since, seen, c0, _, h, _⟩
  · exact (Array.getElem?_eq_some_iff.1 h).1
  · exact (Array.getElem?_eq_some_iff.1 h).1
/-- what lies in neither the iterator's nor the map's block may change -/
theorem IterAt.kept {w' : World} {r : Nat} {bo : Option Nat} {left : List (α × Value)} (h : IterAt kv w r bo left) (hk : ∀ k, k < w.heap.size → (k = r ∨ bo = some k) → w'.heap[k]? = w.heap[k]?) : IterAt kv w' r bo left := by
  have hl := h.lt
  rcases h with ⟨h0, h00, s, seen, c, h⟩ | ⟨b, es, clock, since, seen, c0, h0, h, h1, h2⟩
  · exact .inl ⟨h0, h00, s, seen, c, (hk r hl (.inl rfl)).trans h⟩
  · exact .inr ⟨b, es, clock, since, seen, c0, h0, (hk r hl (.inl rfl)).trans h, h1.same (hk b (Array.getElem?_eq_some_iff.1 h1.blk).1 (.inr h0)), h2⟩
theorem IterAt.bel {w' : World} {r : Nat} {bo : Option Nat} {left : List (α × Value)} (h : IterAt kv w r bo left) (hb : Below w.heap.size w w') : IterAt kv w' r bo left := h.kept fun k hk _ => hb.block k hk
theorem E.rangeN {b : Nat} {left : List (α × Value)} (ht : P.underlying t = some (.map K El)) (hx : ev f x = .map (some b)) (hm : MapN kv w b left) :
    ∃ v w', E P ⟨d, .range t x, ty, pos, aft, g⟩ f w v w' ∧ (v = .pointer (some ⟨w.heap.size, 0, none⟩) ∧ IterAt kv w' w.heap.size (some b) left ∧ Below w.heap.size w w') := by
  have hl := hm.lt
  obtain ⟨es, c, h1, h2⟩ := hm
  refine ⟨_, _, .inl (by simp only [execOp, hx, Sem.run_bind, run_range_map w t K El b es c ht h1.blk, Result.andThen]; rfl), rfl, .inr ⟨b, es, c, c, #[], c, rfl, heap_alloc_new w _, h1.same (heap_alloc_old w _ hl), h1.lt, Nat.le_refl _, Nat.le_refl _, ?_⟩, (Below.refl _ _).alloc (Nat.le_refl _) _⟩
  rw [← h2, leftOf, Array.toList_filter, List.filter_eq_self.2 (by intro x _; simp)]
theorem E.rangeNil (ht : P.underlying t = some (.map K El)) (hx : ev f x = .map none) :
    ∃ v w', E P ⟨d, .range t x, ty, pos, aft, g⟩ f w v w' ∧ (v = .pointer (some ⟨w.heap.size, 0, none⟩) ∧ IterAt kv w' w.heap.size none [] ∧ Below w.heap.size w w') := by
  refine ⟨_, _, .inl (by simp only [execOp, hx, Sem.run_bind, run_range_nilMap w t K El ht, Result.andThen]; rfl), rfl, .inl ⟨rfl, rfl, 0, #[], 0, heap_alloc_new w _⟩, (Below.refl _ _).alloc (Nat.le_refl _) _⟩
theorem left_push {es : Array MapEntry} {seen : Array Nat} (hn : (es.toList.map (·.born)).Nodup) {e : MapEntry} {l1 l2 : List MapEntry} (h : (leftOf es seen).toList = l1 ++ e :: l2) : (leftOf es (seen.push e.born)).toList = l1 ++ l2 := by
  have hs : (leftOf es (seen.push e.born)).toList = ((leftOf es seen).toList).filter (fun x => x.born != e.born) := by
    simp only [leftOf, Array.toList_filter, List.filter_filter]
    apply List.filter_congr
    intro x _
    rw [Bool.eq_iff_iff]
    simp
    exact ⟨fun h => ⟨h.2, h.1⟩, fun h => ⟨h.2, h.1⟩⟩
  have hnd : (l1 ++ e :: l2).map (·.born) |>.Nodup := by
    rw [← h]
    simp only [leftOf, Array.toList_filter]
    exact hn.sublist (List.filter_sublist.map _)
  rw [hs, h, List.filter_append, List.filter_cons]
  simp only [bne_self_eq_false, Bool.false_eq_true, if_false]
  rw [List.map_append, List.map_cons, List.nodup_append] at hnd
  obtain ⟨n1, n2, n3⟩ := hnd
  rw [List.nodup_cons] at n2
  congr 1
  · apply List.filter_eq_self.2
    intro x hx
    have := n3 x.born (List.mem_map.2 ⟨x, hx, rfl⟩) e.born (by simp)
    simpa using this
  · apply List.filter_eq_self.2
    intro x hx
    simp only [bne_iff_ne]
    intro e2
    exact n2.1 (List.mem_map.2 ⟨x, hx, e2⟩)
/-- the next entry, whichever -/
theorem E.nextN {r : Nat} {bo : Option Nat} {left : List (α × Value)} (hx : ev f x = .pointer (some ⟨r, 0, none⟩)) (hm : IterAt kv w r bo left) :
    ∃ v w', E P ⟨d, .next x false, ty, pos, aft, g⟩ f w v w' ∧ ((left = [] ∧ v = .tuple #[.bool false] ∧ w' = w) ∨ (∃ l1 a u l2, left = l1 ++ (a, u) :: l2 ∧ v = .tuple #[.bool true, kv a, u] ∧ IterAt kv w' r bo (l1 ++ l2) ∧ IterE kv w' r bo a u ∧ w.grownBy w' (some r))) := by
  have hl := hm.lt
  rcases hm with ⟨_, h0, s, seen, c, h⟩ | ⟨b, es, clock, since, seen, c0, hbo, h, h1, h2, h3, h4, h5⟩
  · refine ⟨.tuple #[.bool false], w, .inl ?_, .inl ⟨h0, rfl, rfl⟩⟩
    simp only [execOp, hx, Instr.next, getObj, Sem.run_bind, Sem.run, h, Result.andThen]
    rfl
  · rcases run_next_at (P := P) w ty r b since c0 seen es clock h h1.blk h2 h3 with ⟨e0, hrun⟩ | ⟨e, he, w1, hal, hrun⟩
    · refine ⟨.tuple #[.bool false], w, .inl (by simp only [execOp, hx, Sem.run_bind, hrun, Result.andThen]; rfl), .inl ⟨?_, rfl, rfl⟩⟩
      have : (leftOf es seen).toList = [] := List.eq_nil_of_length_eq_zero (by simpa using e0)
      rw [this] at h5
      simpa using h5.symm
    · obtain ⟨l1, l2, hl2⟩ := List.append_of_mem he
      have hb1 : w1.heap = w.heap := by rcases hal with rfl | rfl <;> rfl
      have hne : b ≠ r := fun e => by rw [e] at h1; rw [h1.blk] at h; cases h
      have h5' := h5
      rw [hl2, List.map_append, List.map_cons] at h5'
      obtain ⟨m1, m2, e1, e2, e3⟩ := List.map_eq_append_iff.1 h5'.symm
      obtain ⟨p, m3, e4, e5, e6⟩ := List.map_eq_cons_iff.1 e3
      subst e4
      obtain ⟨a, u⟩ := p
      have e5' : kv a = e.key ∧ u = e.val := by simpa using e5
      refine ⟨.tuple #[.bool true, e.key, e.val], _, .inl (by simp only [execOp, hx, Sem.run_bind, hrun, Result.andThen]; rfl), .inr ⟨m1, a, u, m3, e1, by rw [e5'.1, e5'.2], .inr ⟨b, es, clock, since, seen.push e.born, clock, hbo, ?_, h1.same ?_, h2, h4, h4, ?_⟩, ⟨b, es, clock, since, seen, e, hbo, ?_, h1.same ?_, (mem_left he).1, e5'.1.symm, e5'.2.symm⟩, ?_⟩⟩
      · show (w1.heap.setIfInBounds r _)[r]? = _
        rw [Array.getElem?_setIfInBounds, if_pos rfl, if_pos (by rw [hb1]; exact hl)]
      · show (w1.heap.setIfInBounds r _)[b]? = _
        rw [Array.getElem?_setIfInBounds, if_neg (fun e => hne e.symm), hb1]
      · rw [left_push h1.nd hl2, List.map_append, List.map_append, e2, e6]
      · show (w1.heap.setIfInBounds r _)[r]? = _
        rw [Array.getElem?_setIfInBounds, if_pos rfl, if_pos (by rw [hb1]; exact hl)]
      · show (w1.heap.setIfInBounds r _)[b]? = _
        rw [Array.getElem?_setIfInBounds, if_neg (fun e => hne e.symm), hb1]
      · rcases hal with rfl | rfl
        · exact setMap_bel
        · exact ⟨rfl, rfl, rfl, (setMap_bel (w := w.drew)).size, (setMap_bel (w := w.drew)).block⟩
end
end Go.Cx
