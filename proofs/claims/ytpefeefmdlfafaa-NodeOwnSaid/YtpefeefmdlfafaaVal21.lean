/-
  ref02: Copy: walk.
-/
import Derived.Test.YtpefeefmdlfafaaVal19
namespace Go.Proofs.Ytpefeefmdlfafaa
open Go Go.RowKit Go.Cx
set_option linter.unusedVariables false
set_option maxHeartbeats 8000000
/-- an append: the row that one has, or a new one -/
theorem E.appendN {P : Program} {f : Fr} {w : World} {d : Option Tmp} {ty : TypeId} {pos : String} {aft : Array Edge} {g : Option (Nat × Bool)} {x y : Operand} {at' e : TypeId} {zv : Value} {k by' bl n m : Nat} {xs news : List Value} (ht : P.underlying at' = some (.slice e)) (hi : TI P e zv k by') (hzs : zv.cells.size = k) (hk : 0 < k)
    (hs : OwnK w bl e k (ev f x) n xs) (hy : SlK w k (ev f y) m news) (h1 : ∀ u ∈ news, One u = true) (hb : (n + m) * by' ≤ 140737488355328) (hm : n + m ≤ maxLen) :
    ∃ v w', E P ⟨d, .call ⟨.builtin .append, #[x, y], #[at', at']⟩, ty, pos, aft, g⟩ f w v w' ∧ ((∃ bl', OwnK w' bl' e k v (n + m) (xs ++ news) ∧ ((bl' = bl ∧ ev f x ≠ .slice none 0 0) ∨ w.heap.size ≤ bl')) ∧ w.grownBy w' (ev f x).ownBlock) := by
  by_cases hv : ev f x = .slice none 0 0
  · have hs' : w.ownsRow w.heap.size e k (ev f x) n xs := by
      rw [hv]
      rcases hs.2 with ⟨_, h0⟩ | ⟨o, cap, cur, hv2, _⟩
      · have h2 := hs.1
        subst h0
        have : xs = [] := List.eq_nil_of_length_eq_zero (by simpa using h2)
        subst this
        exact World.ownsRow_nil _ _ _ _
      · rw [hv] at hv2; cases hv2
    have hqq := E.append (P := P) (f := f) (w := w) (d := d) (ty := ty) (pos := pos) (aft := aft) (g := g) (x := x) (y := y) ht hi hzs hk hs' hy h1 hb hm (Nat.le_refl _)
    obtain ⟨v, w', hE, ho, hb', hg⟩ := hqq
    have hqq := OwnK.of_own ho
    obtain ⟨bl', hB, hO⟩ := hqq
    exact ⟨v, w', hE, ⟨bl', hO, .inr hB⟩, hg⟩
  · have hqq := E.appendK (P := P) (f := f) (w := w) (d := d) (ty := ty) (pos := pos) (aft := aft) (g := g) (x := x) (y := y) ht ht hi hzs hk hs hy h1 hb hm
    obtain ⟨v, w', hE, ⟨bl', hO, hB⟩, hg⟩ := hqq
    exact ⟨v, w', hE, ⟨bl', hO, hB.imp (fun e => ⟨e, hv⟩) id⟩, hg⟩
/-- values appended so far -/
def LB (w : World) (B : Nat) (l : List V) (j : Nat) (r : Value) (bl : Nat) (lc : List VC) : Prop := lc.length = j ∧ bl < w.heap.size ∧ (r = .slice none 0 0 ∨ B ≤ bl) ∧ OwnK w bl 40 6 r j (lc.flatMap VC.c) ∧ ∀ i (h : i < l.length) (h' : i < lc.length), VW w (fun b => B ≤ b ∧ b ≠ bl) l[i] lc[i].c
/-- members appended so far -/
def MB (w : World) (B : Nat) (ks : List (List UInt8)) (l : List V) (j : Nat) (r : Value) (bl : Nat) (lc : List VC) : Prop := lc.length = j ∧ bl < w.heap.size ∧ (r = .slice none 0 0 ∨ B ≤ bl) ∧ OwnK w bl 71 7 r j (mcells (ks.take j) lc) ∧ ∀ i (h : i < l.length) (h' : i < lc.length), VW w (fun b => B ≤ b ∧ b ≠ bl) l[i] lc[i].c
theorem LB.bel {w w' : World} {B : Nat} {l : List V} {j : Nat} {r : Value} {bl : Nat} {lc : List VC} (h : LB w B l j r bl lc) (hb : Below w.heap.size w w') : LB w' B l j r bl lc :=
  ⟨h.1, Nat.lt_of_lt_of_le h.2.1 hb.size, h.2.2.1, h.2.2.2.1.bel hb, fun i h1 h2 => (h.2.2.2.2 i h1 h2).bel hb⟩
theorem MB.bel {w w' : World} {B : Nat} {ks : List (List UInt8)} {l : List V} {j : Nat} {r : Value} {bl : Nat} {lc : List VC} (h : MB w B ks l j r bl lc) (hb : Below w.heap.size w w') : MB w' B ks l j r bl lc :=
  ⟨h.1, Nat.lt_of_lt_of_le h.2.1 hb.size, h.2.2.1, h.2.2.2.1.bel hb, fun i h1 h2 => (h.2.2.2.2 i h1 h2).bel hb⟩
theorem LB.kept {w w' : World} {M : Nat → Prop} {B : Nat} {l : List V} {j : Nat} {r : Value} {bl : Nat} {lc : List VC} (h : LB w B l j r bl lc) (hk : Kept M w w') (hM : ∀ b, B ≤ b → ¬ M b) : LB w' B l j r bl lc :=
  ⟨h.1, Nat.lt_of_lt_of_le h.2.1 hk.size, h.2.2.1, by
    rcases h.2.2.1 with e | e
    · have := h.2.2.2.1
      rw [e] at this ⊢
      exact own_nilAny this
    · exact h.2.2.2.1.kept hk (hM _ e), fun i h1 h2 => VW.kept hk (fun b hb => hM b hb.1) (h.2.2.2.2 i h1 h2)⟩
theorem MB.kept {w w' : World} {M : Nat → Prop} {B : Nat} {ks : List (List UInt8)} {l : List V} {j : Nat} {r : Value} {bl : Nat} {lc : List VC} (h : MB w B ks l j r bl lc) (hk : Kept M w w') (hM : ∀ b, B ≤ b → ¬ M b) : MB w' B ks l j r bl lc :=
  ⟨h.1, Nat.lt_of_lt_of_le h.2.1 hk.size, h.2.2.1, by
    rcases h.2.2.1 with e | e
    · have := h.2.2.2.1
      rw [e] at this ⊢
      exact own_nilAny this
    · exact h.2.2.2.1.kept hk (hM _ e), fun i h1 h2 => VW.kept hk (fun b hb => hM b hb.1) (h.2.2.2.2 i h1 h2)⟩
theorem LB.zero {w : World} {B : Nat} {l : List V} (h : 0 < w.heap.size) : LB w B l 0 (.slice none 0 0) 0 [] := ⟨rfl, h, .inl rfl, OwnK.nil, fun i _ h => absurd h (by simp)⟩
theorem MB.zero {w : World} {B : Nat} {ks : List (List UInt8)} {l : List V} (h : 0 < w.heap.size) : MB w B ks l 0 (.slice none 0 0) 0 [] := ⟨rfl, h, .inl rfl, OwnK.nil, fun i _ h => absurd h (by simp)⟩
theorem LB.done {w : World} {B : Nat} {l : List V} {r : Value} {bl : Nat} {lc : List VC} (h : LB w B l l.length r bl lc) : LW w (fun b => B ≤ b) l r :=
  ⟨bl, lc, h.1, h.2.2.1, h.2.2.2.1, fun i h1 h2 => (h.2.2.2.2 i h1 h2).mono (fun _ _ h => h.1)⟩
theorem MB.done {w : World} {B : Nat} {ks : List (List UInt8)} {l : List V} {r : Value} {bl : Nat} {lc : List VC} (hk : ks.length = l.length) (h : MB w B ks l l.length r bl lc) : MW w (fun b => B ≤ b) ks l r := by
  refine ⟨bl, lc, h.1, h.2.2.1, ?_, fun i h1 h2 => (h.2.2.2.2 i h1 h2).mono (fun _ _ h => h.1)⟩
  have := h.2.2.2.1
  rwa [List.take_of_length_le (by omega)] at this
theorem own_row {w w' : World} {bl k n : Nat} {t : TypeId} {r : Value} {xs : List Value} (hs : OwnK w bl t k r n xs) (hg : w.grownBy w' r.ownBlock) : Kept (fun b => b = bl) w w' :=
  Kept.of_grownR hg (fun b hb => by rcases hs.own with e | e <;> rw [e] at hb <;> cases hb; rfl)
theorem LB.apart {w : World} {B : Nat} {l : List V} {j : Nat} {r : Value} {bl : Nat} {lc : List VC} (h : LB w B l j r bl lc) : ∀ b, r.ownBlock = some b → B ≤ b := by
  intro b hb
  rcases h.2.2.1 with e | e
  · rw [e] at hb; cases hb
  · rcases h.2.2.2.1.own with e2 | e2 <;> rw [e2] at hb <;> cases hb
    exact e
theorem MB.apart {w : World} {B : Nat} {ks : List (List UInt8)} {l : List V} {j : Nat} {r : Value} {bl : Nat} {lc : List VC} (h : MB w B ks l j r bl lc) : ∀ b, r.ownBlock = some b → B ≤ b := by
  intro b hb
  rcases h.2.2.1 with e | e
  · rw [e] at hb; cases hb
  · rcases h.2.2.2.1.own with e2 | e2 <;> rw [e2] at hb <;> cases hb
    exact e
theorem VW.append {w w' : World} {B bl bl' : Nat} {v : V} {c : List Value} {r : Value} (he : VW w (fun b => B ≤ b ∧ b ≠ bl) v c) (hbl : (bl' = bl ∧ r ≠ .slice none 0 0) ∨ w.heap.size ≤ bl') (hk : Kept (fun b => b = bl) w w') : VW w' (fun b => B ≤ b ∧ b ≠ bl') v c := by
  have h1 : VW w (fun b => B ≤ b ∧ b ≠ bl ∧ b ≠ bl') v c := he.mono (fun b hb h => ⟨h.1, h.2, by rcases hbl with ⟨rfl, _⟩ | e; exact h.2; omega⟩)
  have h2 : VW w' (fun b => B ≤ b ∧ b ≠ bl ∧ b ≠ bl') v c := VW.kept hk (fun b h => h.2.1) h1
  exact h2.mono (fun b _ h => ⟨h.1, h.2.2⟩)
theorem LB.append {w w' : World} {B bl bl' j : Nat} {l : List V} {r r' : Value} {lc : List VC} {c : VC} (h : LB w B l j r bl lc) (hB : B ≤ w.heap.size) (hj : j < l.length) (hx : VW w (fun b => B ≤ b ∧ b ≠ bl) l[j] c.c) (ho : OwnK w' bl' 40 6 r' (j + 1) (lc.flatMap VC.c ++ c.c)) (hbl : (bl' = bl ∧ r ≠ .slice none 0 0) ∨ w.heap.size ≤ bl') (hg : w.grownBy w' r.ownBlock) : LB w' B l (j + 1) r' bl' (lc ++ [c]) := by
  obtain ⟨h1, h2, h3, h4, h5⟩ := h
  have hk := own_row h4 hg
  refine ⟨by simp [h1], ?_, ?_, by simpa using ho, fun i hi hi' => ?_⟩
  · have hqq := ho.form (by omega)
    obtain ⟨_, _, _, _, _, h⟩ := hqq
    exact h
  · right
    rcases hbl with ⟨rfl, e⟩ | e
    · exact h3.resolve_left e
    · omega
  · by_cases e : i < lc.length
    · rw [List.getElem_append_left e]
      exact VW.append (h5 i hi e) hbl hk
    · have e2 : i = j := by simp only [List.length_append, List.length_cons, List.length_nil] at hi'; omega
      subst e2
      rw [List.getElem_append_right (by omega)]
      simp only [h1, Nat.sub_self, List.getElem_cons_zero]
      exact VW.append hx hbl hk
theorem MB.append {w w' : World} {B bl bl' j : Nat} {ks : List (List UInt8)} {l : List V} {r r' : Value} {lc : List VC} {c : VC} (h : MB w B ks l j r bl lc) (hB : B ≤ w.heap.size) (hj : j < l.length) (hjk : j < ks.length) (hx : VW w (fun b => B ≤ b ∧ b ≠ bl) l[j] c.c) (ho : OwnK w' bl' 71 7 r' (j + 1) (mcells (ks.take j) lc ++ (strv ks[j] :: c.c))) (hbl : (bl' = bl ∧ r ≠ .slice none 0 0) ∨ w.heap.size ≤ bl') (hg : w.grownBy w' r.ownBlock) : MB w' B ks l (j + 1) r' bl' (lc ++ [c]) := by
  obtain ⟨h1, h2, h3, h4, h5⟩ := h
  have hk := own_row h4 hg
  have ez : mcells (ks.take (j + 1)) (lc ++ [c]) = mcells (ks.take j) lc ++ (strv ks[j] :: c.c) := by
    unfold mcells
    rw [List.take_succ_eq_append_getElem hjk, List.zip_append (by rw [List.length_take]; omega), List.flatMap_append]
    simp
  refine ⟨by simp [h1], ?_, ?_, by rw [ez]; exact ho, fun i hi hi' => ?_⟩
  · have hqq := ho.form (by omega)
    obtain ⟨_, _, _, _, _, h⟩ := hqq
    exact h
  · right
    rcases hbl with ⟨rfl, e⟩ | e
    · exact h3.resolve_left e
    · omega
  · by_cases e : i < lc.length
    · rw [List.getElem_append_left e]
      exact VW.append (h5 i hi e) hbl hk
    · have e2 : i = j := by simp only [List.length_append, List.length_cons, List.length_nil] at hi'; omega
      subst e2
      rw [List.getElem_append_right (by omega)]
      simp only [h1, Nat.sub_self, List.getElem_cons_zero]
      exact VW.append hx hbl hk
end Go.Proofs.Ytpefeefmdlfafaa
