/-
  What is spoilt: cells that hold no slices.
-/
import Derived.Test.YthcppegkpkgnpaaDoorVal18
import Derived.Test.YthcppegkpkgnpaaDoorBase10
namespace Go.Proofs.YthcppegkpkgnpaaDoor
open Go Go.RowKit Go.Cx
set_option linter.unusedVariables false
set_option maxHeartbeats 4000000
/-- a value that is no slice -/
def NS : Value → Bool
  | .slice _ _ _ => false
  | _ => true
/-- a cell that one may write, and that holds no slice -/
def Wr (w : World) (b i : Nat) : Prop := (∃ u, w.cell? ⟨b, i, none⟩ = some u ∧ NS u = true) ∧ w.frozen? ⟨b, i, none⟩ = false
/-- w' has all that w has, but for cells in blocks of M that hold no slices -/
structure SpK (M : Nat → Prop) (w w' : World) : Prop where
  kept : Kept M w w'
  sl : ∀ b i a n c, w.cell? ⟨b, i, none⟩ = some (.slice a n c) → w'.cell? ⟨b, i, none⟩ = some (.slice a n c)
  wr : ∀ b i, Wr w b i → Wr w' b i
theorem SpK.refl (M : Nat → Prop) (w : World) : SpK M w w := ⟨Kept.refl _ _, fun _ _ _ _ _ h => h, fun _ _ h => h⟩
theorem SpK.trans {M : Nat → Prop} {w w' w'' : World} (h : SpK M w w') (k : SpK M w' w'') : SpK M w w'' := ⟨h.kept.trans k.kept, fun b i a n c hc => k.sl b i a n c (h.sl b i a n c hc), fun b i hw => k.wr b i (h.wr b i hw)⟩
theorem frozen_below {w w' : World} {p : Addr} (hb : Below w.heap.size w w') (h : p.block < w.heap.size) : w'.frozen? p = w.frozen? p := by
  unfold World.frozen?
  rw [hb.block _ h]
theorem cell_lt {w : World} {p : Addr} {u : Value} (h : w.cell? p = some u) : p.block < w.heap.size := by
  by_cases hlt : p.block < w.heap.size
  · exact hlt
  · have : w.heap[p.block]? = none := Array.getElem?_eq_none (by omega)
    simp [World.cell?, this] at h
theorem SpK.of_bel {M : Nat → Prop} {w w' : World} (hb : Below w.heap.size w w') : SpK M w w' :=
  ⟨Kept.of_bel hb, fun b i a n c hc => cell_bel hc hb, fun b i ⟨⟨u, h1, h2⟩, h3⟩ => ⟨⟨u, cell_bel h1 hb, h2⟩, (frozen_below hb (cell_lt h1)).trans h3⟩⟩
theorem setCell_cell {w : World} {b i j : Nat} {u v : Value} (h : w.cell? ⟨b, i, none⟩ = some v) : (w.setCell ⟨b, j, none⟩ u).cell? ⟨b, i, none⟩ = some (if i = j then u else v) := by
  have hlt := cell_lt h
  simp only at hlt
  unfold World.cell? World.setCell at *
  simp only [Array.getElem?_modify] at *
  cases hb : w.heap[b]? with
  | none => rw [hb] at h; cases h
  | some o =>
    rw [hb] at h
    cases o <;> simp only at h <;> try cases h
    rename_i c t fz
    simp only [Option.isSome_none, Bool.false_eq_true, if_false] at h
    simp only [if_true, Option.map_some, Option.isSome_none, Bool.false_eq_true, if_false]
    have hi := (Array.getElem?_eq_some_iff.1 h).1
    by_cases e : i = j
    · subst e
      rw [if_pos rfl, Array.getElem?_setIfInBounds, if_pos rfl, if_pos hi]
    · rw [if_neg e, Array.getElem?_setIfInBounds, if_neg (fun h => e h.symm)]
      exact h
theorem setCell_frozen {w : World} {p q : Addr} {u : Value} : (w.setCell p u).frozen? q = w.frozen? q := by
  unfold World.frozen? World.setCell
  simp only [Array.getElem?_modify]
  by_cases e : p.block = q.block
  · rw [if_pos e]
    cases w.heap[q.block]? with
    | none => rfl
    | some o => cases o <;> rfl
  · rw [if_neg e]
theorem setCell_other {w : World} {b b' i j : Nat} {u : Value} (h : b ≠ b') : (w.setCell ⟨b', j, none⟩ u).cell? ⟨b, i, none⟩ = w.cell? ⟨b, i, none⟩ := by
  have := Go.Cx.heap_setCell_other (w := w) (a := ⟨b', j, none⟩) (u := u) (k := b) h
  unfold World.cell?
  simp only [this]
theorem setCell_grown {w : World} {b i : Nat} {u : Value} : w.grownBy (w.setCell ⟨b, i, none⟩ u) (some b) := ⟨rfl, rfl, rfl, by simp, fun k hk hne => Go.Cx.heap_setCell_other (fun e => hne (by rw [e]))⟩
theorem SpK.set {M : Nat → Prop} {w : World} {b i : Nat} {u : Value} (h : Wr w b i) (hM : M b) (hu : NS u = true) : SpK M w (w.setCell ⟨b, i, none⟩ u) := by
  obtain ⟨⟨v, hv, hn⟩, hf⟩ := h
  refine ⟨Kept.of_grown setCell_grown hM, fun b' i' a n c hc => ?_, fun b' i' ⟨⟨v', hv', hn'⟩, hf'⟩ => ?_⟩
  · by_cases e : b' = b
    · subst e
      rw [setCell_cell hc]
      by_cases e2 : i' = i
      · subst e2
        rw [hv] at hc
        cases hc
        cases hn
      · rw [if_neg e2]
    · rw [setCell_other e]; exact hc
  · by_cases e : b' = b
    · subst e
      refine ⟨⟨_, setCell_cell hv', ?_⟩, by rw [setCell_frozen]; exact hf'⟩
      split
      · exact hu
      · exact hn'
    · exact ⟨⟨v', by rw [setCell_other e]; exact hv', hn'⟩, by rw [setCell_frozen]; exact hf'⟩
theorem E.storeWr {P : Program} {f : Fr} {w : World} {d : Option Tmp} {ty : TypeId} {pos : String} {aft : Array Edge} {g : Option (Nat × Bool)} {x y : Operand} {t : TypeId} {z u : Value} {by' b i : Nat} {M : Nat → Prop} (hi : TI P t z 1 by') (hx : ev f x = .pointer (some ⟨b, i, none⟩)) (hy : ev f y = u) (h1 : One u = true) (h : Wr w b i) (hM : M b) (hu : NS u = true) :
    ∃ v w', E P ⟨d, .store t x y, ty, pos, aft, g⟩ f w v w' ∧ SpK M w w' := by
  have hqq := id h
  obtain ⟨⟨v, hv, hn⟩, hf⟩ := hqq
  exact ⟨_, _, E.store1 hi hx hy h1 rfl hv hf, SpK.set h hM hu⟩
/-- where the slices lie that a value leads to -/
inductive HAt (w : World) (M : Nat → Prop) : V → Value → Value → Prop where
  | mk {v : V} {la oa : Option Addr} {b o cap b' o' cap' : Nat} {f g : Nat → Value × Value} (z1 : v.l.length ≤ 1599289640354) (z2 : v.vs.length ≤ 1599289640354) (h0 : 0 < v.l.length → la = some ⟨b, o, none⟩ ∧ M b)
      (h1 : ∀ j, j < v.l.length → (Wr w b (o + j * 6) ∧ Wr w b (o + j * 6 + 3)) ∧ w.cell? ⟨b, o + j * 6 + 4, none⟩ = some (f j).1 ∧ w.cell? ⟨b, o + j * 6 + 5, none⟩ = some (f j).2)
      (h2 : ∀ j (h : j < v.l.length), HAt w M v.l[j] (f j).1 (f j).2) (k0 : 0 < v.vs.length → oa = some ⟨b', o', none⟩ ∧ M b')
      (k1 : ∀ j, j < v.vs.length → (Wr w b' (o' + j * 7) ∧ Wr w b' (o' + j * 7 + 1)) ∧ w.cell? ⟨b', o' + j * 7 + 5, none⟩ = some (g j).1 ∧ w.cell? ⟨b', o' + j * 7 + 6, none⟩ = some (g j).2)
      (k2 : ∀ j (h : j < v.vs.length), HAt w M v.vs[j] (g j).1 (g j).2) : HAt w M v (.slice la v.l.length cap) (.slice oa v.vs.length cap')
theorem HAt.form {w : World} {M : Nat → Prop} {v : V} {a b : Value} (h : HAt w M v a b) : (∃ x n c, a = .slice x n c) ∧ (∃ x n c, b = .slice x n c) := by
  cases h; exact ⟨⟨_, _, _, rfl⟩, ⟨_, _, _, rfl⟩⟩
theorem HAt.sp {w w' : World} {M M' : Nat → Prop} (hk : SpK M' w w') : ∀ {v : V} {a b : Value}, HAt w M v a b → HAt w' M v a b := by
  intro v
  induction v using V.ind with
  | h v ih1 ih2 =>
    intro a b h
    cases h with
    | mk z1 z2 h0 h1 h2 k0 k1 k2 =>
      refine .mk z1 z2 h0 (fun j hj => ?_) (fun j hj => ih1 _ (List.getElem_mem hj) (h2 j hj)) k0 (fun j hj => ?_) (fun j hj => ih2 _ (List.getElem_mem hj) (k2 j hj))
      · have hqq := h1 j hj
        obtain ⟨⟨p1, p2⟩, p3, p4⟩ := hqq
        have hqq := (h2 j hj).form
        obtain ⟨⟨x, n, c, e1⟩, ⟨x', n', c', e2⟩⟩ := hqq
        rw [e1] at p3 ⊢
        rw [e2] at p4 ⊢
        exact ⟨⟨hk.wr _ _ p1, hk.wr _ _ p2⟩, hk.sl _ _ _ _ _ p3, hk.sl _ _ _ _ _ p4⟩
      · have hqq := k1 j hj
        obtain ⟨⟨p1, p2⟩, p3, p4⟩ := hqq
        have hqq := (k2 j hj).form
        obtain ⟨⟨x, n, c, e1⟩, ⟨x', n', c', e2⟩⟩ := hqq
        rw [e1] at p3 ⊢
        rw [e2] at p4 ⊢
        exact ⟨⟨hk.wr _ _ p1, hk.wr _ _ p2⟩, hk.sl _ _ _ _ _ p3, hk.sl _ _ _ _ _ p4⟩
theorem own_wr {w : World} {bl k n o cap : Nat} {t : TypeId} {xs : List Value} (h : OwnK w bl t k (.slice (some ⟨bl, o, none⟩) n cap) n xs) {i : Nat} {u : Value} (hi : xs[i]? = some u) (hu : NS u = true) : Wr w bl (o + i) := by
  refine ⟨⟨u, h.cells i u hi, hu⟩, ?_⟩
  rcases h.2 with ⟨hv, _⟩ | ⟨o', cap', cur, hv, hb, _⟩
  · cases hv
  · unfold World.frozen?
    simp only [hb]
    simp
theorem own_slot {w : World} {bl k n : Nat} {t : TypeId} {v : Value} {xs : List Value} (h : OwnK w bl t k v n xs) : ∃ a cap, v = .slice a n cap ∧ (0 < n → ∃ o, a = some ⟨bl, o, none⟩) := by
  rcases h.2 with ⟨rfl, rfl⟩ | ⟨o, cap, cur, rfl, _⟩
  · exact ⟨_, _, rfl, fun h => absurd h (by omega)⟩
  · exact ⟨_, _, rfl, fun _ => ⟨o, rfl⟩⟩
theorem VW.hat {w : World} {M : Nat → Prop} : ∀ {v : V} {lv ov : Value}, VW w M v (vcell v lv ov) → HAt w M v lv ov := by
  intro v
  induction v using V.ind with
  | h v ih1 ih2 =>
    intro lv ov h
    have hqq := h.parts
    obtain ⟨lv', ov', ⟨bl, lc, a1, a2, a3, a4⟩, ⟨bo, oc, b1, b2, b3, b4⟩, ok, e⟩ := hqq
    have e1 : lv' = lv := by simpa [vcell] using (congrArg (fun l : List Value => l.getD 4 .nilIface) e).symm
    have e2 : ov' = ov := by simpa [vcell] using (congrArg (fun l : List Value => l.getD 5 .nilIface) e).symm
    subst e1 e2
    clear e
    have hqq := own_slot a3
    obtain ⟨la, cap, rfl, hla⟩ := hqq
    have hqq := own_slot b3
    obtain ⟨oa, cap', rfl, hoa⟩ := hqq
    have hL : ∃ o, 0 < v.l.length → la = some ⟨bl, o, none⟩ ∧ M bl := by
      by_cases h0 : 0 < v.l.length
      · have hqq := hla h0
        obtain ⟨o, ho⟩ := hqq
        refine ⟨o, fun _ => ⟨ho, ?_⟩⟩
        rcases a2 with e | e
        · rw [ho] at e; cases e
        · exact e
      · exact ⟨0, fun h => absurd h h0⟩
    have hO : ∃ o, 0 < v.vs.length → oa = some ⟨bo, o, none⟩ ∧ M bo := by
      by_cases h0 : 0 < v.vs.length
      · have hqq := hoa h0
        obtain ⟨o, ho⟩ := hqq
        refine ⟨o, fun _ => ⟨ho, ?_⟩⟩
        rcases b2 with e | e
        · rw [ho] at e; cases e
        · exact e
      · exact ⟨0, fun h => absurd h h0⟩
    obtain ⟨o, hL⟩ := hL
    obtain ⟨o', hO⟩ := hO
    refine .mk (b := bl) (o := o) (b' := bo) (o' := o') (f := fun j => ((lc.getD j ⟨vcell v .nilIface .nilIface, rfl⟩).c.getD 4 .nilIface, (lc.getD j ⟨vcell v .nilIface .nilIface, rfl⟩).c.getD 5 .nilIface)) (g := fun j => ((oc.getD j ⟨vcell v .nilIface .nilIface, rfl⟩).c.getD 4 .nilIface, (oc.getD j ⟨vcell v .nilIface .nilIface, rfl⟩).c.getD 5 .nilIface)) ok.l (Nat.le_trans ok.o (by decide)) hL (fun j hj => ?_) (fun j hj => ?_) hO (fun j hj => ?_) (fun j hj => ?_)
    · have hjc : j < lc.length := by omega
      have hqq := hL (by omega)
      obtain ⟨rfl, -⟩ := hqq
      have hqq := (a4 j hj hjc).parts
      obtain ⟨x, y, -, -, -, ec⟩ := hqq
      have hg : ∀ r, r < 6 → (lc.flatMap VC.c)[j * 6 + r]? = (lc[j].c)[r]? := fun r hr => flat_get VC.h lc j r hjc hr
      have g0 := hg 0 (by omega)
      have g3 := hg 3 (by omega)
      have g4 := hg 4 (by omega)
      have g5 := hg 5 (by omega)
      rw [ec] at g0 g3 g4 g5
      have c4 := a3.cells _ _ g4
      have c5 := a3.cells _ _ g5
      simp only [List.getD_eq_getElem?_getD, List.getElem?_eq_getElem hjc, Option.getD_some, ec]
      refine ⟨⟨?_, ?_⟩, ?_, ?_⟩
      · have := own_wr a3 g0 rfl; simpa using this
      · have := own_wr a3 g3 rfl; rwa [← Nat.add_assoc] at this
      · rw [← Nat.add_assoc] at c4; exact c4
      · rw [← Nat.add_assoc] at c5; exact c5
    · have hjc : j < lc.length := by omega
      have hqq := (a4 j hj hjc).parts
      obtain ⟨x, y, -, -, -, ec⟩ := hqq
      have := a4 j hj hjc
      simp only [List.getD_eq_getElem?_getD, List.getElem?_eq_getElem hjc, Option.getD_some]
      rw [ec] at this ⊢
      exact ih1 _ (List.getElem_mem hj) this
    · have hjc : j < oc.length := by omega
      have hjk : j < v.ks.length := by have := ok.ks; omega
      have hqq := hO (by omega)
      obtain ⟨rfl, -⟩ := hqq
      have hqq := (b4 j hj hjc).parts
      obtain ⟨x, y, -, -, -, ec⟩ := hqq
      have hz : j < (v.ks.zip oc).length := by rw [List.length_zip]; omega
      have hg : ∀ r, r < 7 → (mcells v.ks oc)[j * 7 + r]? = (strv v.ks[j] :: oc[j].c)[r]? := fun r hr => by
        have := flat_get mc_len (v.ks.zip oc) j r hz hr
        rw [List.getElem_zip] at this
        exact this
      have g0 := hg 0 (by omega)
      have g1 := hg 1 (by omega)
      have g5 := hg 5 (by omega)
      have g6 := hg 6 (by omega)
      rw [ec] at g0 g1 g5 g6
      have c5 := b3.cells _ _ g5
      have c6 := b3.cells _ _ g6
      simp only [List.getD_eq_getElem?_getD, List.getElem?_eq_getElem hjc, Option.getD_some, ec]
      refine ⟨⟨?_, ?_⟩, ?_, ?_⟩
      · have := own_wr b3 g0 rfl; simpa using this
      · have := own_wr b3 g1 rfl; rwa [← Nat.add_assoc] at this
      · rw [← Nat.add_assoc] at c5; exact c5
      · rw [← Nat.add_assoc] at c6; exact c6
    · have hjc : j < oc.length := by omega
      have hqq := (b4 j hj hjc).parts
      obtain ⟨x, y, -, -, -, ec⟩ := hqq
      have := b4 j hj hjc
      simp only [List.getD_eq_getElem?_getD, List.getElem?_eq_getElem hjc, Option.getD_some]
      rw [ec] at this ⊢
      exact ih2 _ (List.getElem_mem hj) this
end Go.Proofs.YthcppegkpkgnpaaDoor
