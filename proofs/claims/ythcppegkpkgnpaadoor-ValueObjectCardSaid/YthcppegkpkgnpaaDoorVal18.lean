/-
  Values in memory of their own: rows that one may write.
-/
import Derived.Test.YthcppegkpkgnpaaDoorVal0
import Derived.Test.YthcppegkpkgnpaaDoorFacts
namespace Go.Proofs.YthcppegkpkgnpaaDoor
open Go Go.RowKit Go.Cx
set_option linter.unusedVariables false
set_option maxHeartbeats 4000000
/-- a value lies in rows of M, each of which one may write -/
inductive VW (w : World) (M : Nat → Prop) : V → List Value → Prop where
  | mk {v : V} {lv ov : Value} {lc oc : List VC} {bl bo : Nat} (ok : VOk v) (h1 : lc.length = v.l.length) (h2 : ∀ j (h : j < v.l.length) (h' : j < lc.length), VW w M v.l[j] lc[j].c) (hm : lv = .slice none 0 0 ∨ M bl) (hs : OwnK w bl 26 6 lv v.l.length (lc.flatMap VC.c))
      (h3 : oc.length = v.vs.length) (h4 : ∀ j (h : j < v.vs.length) (h' : j < oc.length), VW w M v.vs[j] oc[j].c) (hn : ov = .slice none 0 0 ∨ M bo) (ho : OwnK w bo 38 7 ov v.vs.length (mcells v.ks oc)) : VW w M v (vcell v lv ov)
theorem own_nilAny {w w' : World} {bl bl' k n : Nat} {t : TypeId} {xs : List Value} (h : OwnK w bl t k (.slice none 0 0) n xs) : OwnK w' bl' t k (.slice none 0 0) n xs := by
  refine ⟨h.1, ?_⟩
  rcases h.2 with h | ⟨o, cap, cur, hv, _⟩
  · exact .inl h
  · cases hv
theorem VW.at {w : World} {M : Nat → Prop} : ∀ {v : V} {c : List Value}, VW w M v c → VAt w v c := by
  intro v
  induction v using V.ind with
  | h v ih1 ih2 =>
    intro c h
    cases h with
    | mk ok h1 h2 hm hs h3 h4 hn ho => exact .mk ok h1 (fun j h h' => ih1 _ (List.getElem_mem h) (h2 j h h')) hs.sl h3 (fun j h h' => ih2 _ (List.getElem_mem h) (h4 j h h')) ho.sl
theorem VW.kept {w w' : World} {M M' : Nat → Prop} (hk : Kept M' w w') (hM : ∀ b, M b → ¬ M' b) : ∀ {v : V} {c : List Value}, VW w M v c → VW w' M v c := by
  intro v
  induction v using V.ind with
  | h v ih1 ih2 =>
    intro c h
    cases h with
    | mk ok h1 h2 hm hs h3 h4 hn ho =>
      refine .mk ok h1 (fun j h h' => ih1 _ (List.getElem_mem h) (h2 j h h')) hm ?_ h3 (fun j h h' => ih2 _ (List.getElem_mem h) (h4 j h h')) hn ?_
      · rcases hm with e | e
        · rw [e] at hs ⊢; exact own_nilAny hs
        · exact hs.kept hk (hM _ e)
      · rcases hn with e | e
        · rw [e] at ho ⊢; exact own_nilAny ho
        · exact ho.kept hk (hM _ e)
theorem VW.bel {w w' : World} {M : Nat → Prop} {v : V} {c : List Value} (h : VW w M v c) (hb : Below w.heap.size w w') : VW w' M v c := VW.kept (M' := fun _ => False) (Kept.of_bel hb) (fun _ _ h => h) h
/-- M may be made wider, of what there is -/
theorem VW.mono {w : World} {M M' : Nat → Prop} (hM : ∀ b, b < w.heap.size → M b → M' b) : ∀ {v : V} {c : List Value}, VW w M v c → VW w M' v c := by
  intro v
  induction v using V.ind with
  | h v ih1 ih2 =>
    intro c h
    cases h with
    | @mk _ lv ov _ _ bl bo ok h1 h2 hm hs h3 h4 hn ho =>
      refine .mk ok h1 (fun j h h' => ih1 _ (List.getElem_mem h) (h2 j h h')) ?_ hs h3 (fun j h h' => ih2 _ (List.getElem_mem h) (h4 j h h')) ?_ ho
      · rcases hm with e | e
        · exact .inl e
        · rcases hs.2 with ⟨e2, _⟩ | ⟨o, cap, cur, hv, hb, _⟩
          · exact .inl e2
          · exact .inr (hM _ (Array.getElem?_eq_some_iff.1 hb).1 e)
      · rcases hn with e | e
        · exact .inl e
        · rcases ho.2 with ⟨e2, _⟩ | ⟨o, cap, cur, hv, hb, _⟩
          · exact .inl e2
          · exact .inr (hM _ (Array.getElem?_eq_some_iff.1 hb).1 e)
theorem VW.len {w : World} {M : Nat → Prop} {v : V} {c : List Value} (h : VW w M v c) : c.length = 6 := h.at.len
theorem VW.ok {w : World} {M : Nat → Prop} {v : V} {c : List Value} (h : VW w M v c) : VOk v := h.at.ok
theorem VW.one {w : World} {M : Nat → Prop} {v : V} {c : List Value} (h : VW w M v c) : ∀ u ∈ c, One u = true := h.at.one
/-- values, in rows of M -/
def LW (w : World) (M : Nat → Prop) (l : List V) (r : Value) : Prop := ∃ (bl : Nat) (lc : List VC), lc.length = l.length ∧ (r = .slice none 0 0 ∨ M bl) ∧ OwnK w bl 26 6 r l.length (lc.flatMap VC.c) ∧ ∀ j (h : j < l.length) (h' : j < lc.length), VW w M l[j] lc[j].c
/-- members, in rows of M -/
def MW (w : World) (M : Nat → Prop) (ks : List (List UInt8)) (vs : List V) (r : Value) : Prop := ∃ (bo : Nat) (oc : List VC), oc.length = vs.length ∧ (r = .slice none 0 0 ∨ M bo) ∧ OwnK w bo 38 7 r vs.length (mcells ks oc) ∧ ∀ j (h : j < vs.length) (h' : j < oc.length), VW w M vs[j] oc[j].c
theorem VW.of {w : World} {M : Nat → Prop} {v : V} {lv ov : Value} (ok : VOk v) (hl : LW w M v.l lv) (ho : MW w M v.ks v.vs ov) : VW w M v (vcell v lv ov) := by
  obtain ⟨bl, lc, a1, a2, a3, a4⟩ := hl
  obtain ⟨bo, oc, b1, b2, b3, b4⟩ := ho
  exact .mk ok a1 a4 a2 a3 b1 b4 b2 b3
theorem VW.parts {w : World} {M : Nat → Prop} {v : V} {c : List Value} (h : VW w M v c) : ∃ lv ov, LW w M v.l lv ∧ MW w M v.ks v.vs ov ∧ VOk v ∧ c = vcell v lv ov := by
  cases h with
  | mk ok h1 h2 hm hs h3 h4 hn ho => exact ⟨_, _, ⟨_, _, h1, hm, hs, h2⟩, ⟨_, _, h3, hn, ho, h4⟩, ok, rfl⟩
theorem LW.nil {w : World} {M : Nat → Prop} : LW w M [] (.slice none 0 0) := ⟨0, [], rfl, .inl rfl, OwnK.nil, fun j h => absurd h (by simp)⟩
theorem MW.nil {w : World} {M : Nat → Prop} : MW w M [] [] (.slice none 0 0) := ⟨0, [], rfl, .inl rfl, OwnK.nil, fun j h => absurd h (by simp)⟩
theorem VW.nil {w : World} {M : Nat → Prop} : VW w M V.nil (vcell V.nil (.slice none 0 0) (.slice none 0 0)) :=
  .of ⟨by simp [V.nil, V.k], by simp [V.nil, V.i], by simp [V.nil, V.t], by simp [V.nil, V.l], by simp [V.nil, V.vs], rfl, by simp [V.nil, V.ks]⟩ LW.nil MW.nil
theorem LW.kept {w w' : World} {M M' : Nat → Prop} (hk : Kept M' w w') (hM : ∀ b, M b → ¬ M' b) {l : List V} {r : Value} (h : LW w M l r) : LW w' M l r := by
  obtain ⟨bl, lc, a1, a2, a3, a4⟩ := h
  refine ⟨bl, lc, a1, a2, ?_, fun j h h' => VW.kept hk hM (a4 j h h')⟩
  rcases a2 with e | e
  · rw [e] at a3 ⊢; exact own_nilAny a3
  · exact a3.kept hk (hM _ e)
theorem MW.kept {w w' : World} {M M' : Nat → Prop} (hk : Kept M' w w') (hM : ∀ b, M b → ¬ M' b) {ks : List (List UInt8)} {l : List V} {r : Value} (h : MW w M ks l r) : MW w' M ks l r := by
  obtain ⟨bl, lc, a1, a2, a3, a4⟩ := h
  refine ⟨bl, lc, a1, a2, ?_, fun j h h' => VW.kept hk hM (a4 j h h')⟩
  rcases a2 with e | e
  · rw [e] at a3 ⊢; exact own_nilAny a3
  · exact a3.kept hk (hM _ e)
theorem LW.bel {w w' : World} {M : Nat → Prop} {l : List V} {r : Value} (h : LW w M l r) (hb : Below w.heap.size w w') : LW w' M l r := LW.kept (M' := fun _ => False) (Kept.of_bel hb) (fun _ _ h => h) h
theorem MW.bel {w w' : World} {M : Nat → Prop} {ks : List (List UInt8)} {l : List V} {r : Value} (h : MW w M ks l r) (hb : Below w.heap.size w w') : MW w' M ks l r := MW.kept (M' := fun _ => False) (Kept.of_bel hb) (fun _ _ h => h) h
theorem LW.mono {w : World} {M M' : Nat → Prop} (hM : ∀ b, b < w.heap.size → M b → M' b) {l : List V} {r : Value} (h : LW w M l r) : LW w M' l r := by
  obtain ⟨bl, lc, a1, a2, a3, a4⟩ := h
  refine ⟨bl, lc, a1, ?_, a3, fun j h h' => VW.mono hM (a4 j h h')⟩
  rcases a2 with e | e
  · exact .inl e
  · rcases a3.2 with ⟨e2, _⟩ | ⟨o, cap, cur, hv, hb, _⟩
    · exact .inl e2
    · exact .inr (hM _ (Array.getElem?_eq_some_iff.1 hb).1 e)
theorem MW.mono {w : World} {M M' : Nat → Prop} (hM : ∀ b, b < w.heap.size → M b → M' b) {ks : List (List UInt8)} {l : List V} {r : Value} (h : MW w M ks l r) : MW w M' ks l r := by
  obtain ⟨bl, lc, a1, a2, a3, a4⟩ := h
  refine ⟨bl, lc, a1, ?_, a3, fun j h h' => VW.mono hM (a4 j h h')⟩
  rcases a2 with e | e
  · exact .inl e
  · rcases a3.2 with ⟨e2, _⟩ | ⟨o, cap, cur, hv, hb, _⟩
    · exact .inl e2
    · exact .inr (hM _ (Array.getElem?_eq_some_iff.1 hb).1 e)
theorem LW.one {w : World} {M : Nat → Prop} {l : List V} {r : Value} (h : LW w M l r) : One r = true := by
  obtain ⟨bl, lc, a1, a2, a3, a4⟩ := h
  exact a3.sl.one
theorem MW.one {w : World} {M : Nat → Prop} {ks : List (List UInt8)} {l : List V} {r : Value} (h : MW w M ks l r) : One r = true := by
  obtain ⟨bl, lc, a1, a2, a3, a4⟩ := h
  exact a3.sl.one
theorem one_strv {k : List UInt8} {c : List Value} (h : ∀ u ∈ c, One u = true) : ∀ u ∈ strv k :: c, One u = true := by
  intro u hu
  rcases List.mem_cons.1 hu with rfl | hu
  · rfl
  · exact h u hu
theorem VC.ext {a b : VC} (h : a.c = b.c) : a = b := by cases a; cases b; cases h; rfl
/-- a list of which one place is written -/
theorem set_done {α : Type} {P : Nat → α → Prop} {lc : List α} {j : Nat} {x : α} (h : ∀ i, i < j → ∀ h' : i < lc.length, P i lc[i]) (hx : P j x) : ∀ i, i < j + 1 → ∀ h' : i < (lc.set j x).length, P i (lc.set j x)[i] := by
  intro i hi h'
  rw [List.getElem_set]
  split
  · rename_i e; subst e; exact hx
  · exact h i (by omega) _
end Go.Proofs.YthcppegkpkgnpaaDoor
