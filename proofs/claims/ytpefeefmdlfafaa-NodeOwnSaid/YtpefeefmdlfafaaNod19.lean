/-
  law06: NodeOwn: walk.
-/
import Derived.Test.YtpefeefmdlfafaaNod18
namespace Go.Proofs.Ytpefeefmdlfafaa
open Go Go.RowKit Go.Cx
set_option linter.unusedVariables false
set_option maxHeartbeats 8000000
set_option maxRecDepth 20000
/-- strings in memory -/
def StrsAt (w : World) (l : List (List UInt8)) (r : Value) : Prop := SlK w 1 r l.length (l.map strv) ∧ ∀ s ∈ l, s.length ≤ 140737488351232
theorem flat_one : ∀ l : List (List UInt8), l.flatMap (fun s => [strv s]) = l.map strv
  | [] => rfl
  | a :: l => by rw [List.flatMap_cons, flat_one l]; rfl
section
variable {H : Type} {enc : TypeId × Value → H} {W : World} {b0 base : Nat} {spare : Nat → Bool} {held : Bool} {v : Value} {d : DataW H} {p : List MemPlace} {r : Reach}
set_option maxRecDepth 100000 in
theorem openT35 (hval : Value.okWide Try.prog W r b0 35 v) (h : DataW.Trod enc Try.prog W base spare held 35 v d p) (hsz : Sz Try.prog 35 d) : ∃ x : List (List UInt8), StrsAt W x v := by
  have hqq := Go.WideShapes.okWide_slice Try.underlying35 hval
  obtain ⟨a, len, cap, rfl⟩ := hqq
  obtain ⟨fuel, hf⟩ := h
  obtain ⟨v', l, e, hs, hg, hz⟩ := open_slice_of (α := List UInt8) (encE := fun s => [strv s]) (Good := fun s => s.length ≤ 140737488351232) Try.underlying35 (show Try.prog.cellsOf 9 = 1 by kernel_rfl) (by decide) (fun _ => rfl) (fun n hn cs x hx hs => by
    have hqq := open_string_in Try.underlying9 hx hs
    obtain ⟨s, h1, h2⟩ := hqq
    exact ⟨s, h1, h2⟩) hf hsz
  have e1 : Value.slice a len cap = v' := cons1 e
  rw [e1]
  refine ⟨l, ?_, hg⟩
  have := flat_one l
  rw [← this]
  exact hs
end
def lsV (n : Int) : V := V.mk 5 false 0 [] [numV n] [] []
abbrev lsC (lv : Value) : List Value := [.int .i64 5, .bool false, .int .i64 0, strv [], lv, .slice none 0 0]
theorem numW {w : World} {M : Nat → Prop} {i : Int} (h1 : -9223372036854775808 ≤ i) (h2 : i ≤ 9223372036854775807) : VW w M (numV i) (numC i) :=
  VW.mk (v := numV i) (lc := []) (oc := []) (bl := 0) (bo := 0) (numAt (w := w) h1 h2).ok rfl (fun j h => absurd h (by show ¬ j < 0; omega)) (.inl rfl) OwnK.nil rfl (fun j h => absurd h (by show ¬ j < 0; omega)) (.inl rfl) OwnK.nil
theorem lsW {w : World} {M : Nat → Prop} {i : Int} {bl : Nat} {lv : Value} (h1 : -9223372036854775808 ≤ i) (h2 : i ≤ 9223372036854775807) (hM : M bl) (ho : OwnK w bl 40 6 lv 1 (numC i)) : VW w M (lsV i) (lsC lv) :=
  VW.mk (v := lsV i) (lc := [⟨numC i, rfl⟩]) (oc := []) (bl := bl) (bo := 0) ⟨⟨show (-9223372036854775808 : Int) ≤ 5 by omega, show (5 : Int) ≤ 9223372036854775807 by omega⟩, ⟨show (-9223372036854775808 : Int) ≤ 0 by omega, show (0 : Int) ≤ 9223372036854775807 by omega⟩, by show _ ≤ _; exact Nat.zero_le _, by show 1 ≤ _; omega, by show _ ≤ _; exact Nat.zero_le _, rfl, fun x hx => absurd hx (by show ¬ x ∈ []; simp)⟩ rfl
    (fun j h h' => by
      have : j = 0 := by simp at h'; omega
      subst this
      exact numW h1 h2) (.inr hM) ho rfl (fun j h => absurd h (by show ¬ j < 0; omega)) (.inl rfl) OwnK.nil
/-- where a list of one number has its number -/
theorem ls_inv {w : World} {M : Nat → Prop} {n : Int} {c : List Value} (h : VW w M (lsV n) c) : ∃ (lv ov a b : Value) (bl o cap : Nat), c = vcell (lsV n) lv ov ∧ lv = .slice (some ⟨bl, o, none⟩) 1 cap ∧ M bl ∧ bl < w.heap.size ∧ OwnK w bl 40 6 (.slice (some ⟨bl, o, none⟩) 1 cap) 1 (vcell (numV n) a b) := by
  cases h with
  | @mk _ lv ov lc oc bl bo ok h1 h2 hm hs h3 h4 hn ho =>
    have hl1 : lc.length = 1 := h1
    obtain ⟨c0, rfl⟩ : ∃ c0, lc = [c0] := List.length_eq_one_iff.1 hl1
    have hv := h2 0 (by show 0 < 1; omega) (by simp)
    have hv' : VW w M (numV n) c0.c := hv
    have hs' : OwnK w bl 40 6 lv 1 (c0.c) := by
      have : OwnK w bl 40 6 lv 1 ([c0].flatMap VC.c) := hs
      simpa using this
    have hqq := hs'.form (by omega)
    obtain ⟨o, cap, e, _, _, hlt⟩ := hqq
    have hc0 : ∃ a b, c0.c = vcell (numV n) a b := by
      generalize c0.c = cc at hv'
      cases hv' with
      | mk ok h1 h2 hm hs h3 h4 hn ho => exact ⟨_, _, rfl⟩
    obtain ⟨a, b, ec⟩ := hc0
    refine ⟨lv, ov, a, b, bl, o, cap, rfl, e, ?_, hlt, ?_⟩
    · rcases hm with h | h
      · rw [h] at e; cases e
      · exact h
    · rw [← ec, ← e]
      exact hs'
/-- entries appended so far -/
def EB (w : World) (B : Nat) (l : List En) (j : Nat) (r : Value) (bl : Nat) (lc : List VC) : Prop := lc.length = j ∧ bl < w.heap.size ∧ (r = .slice none 0 0 ∨ B ≤ bl) ∧ OwnK w bl 42 7 r j ((ents (l.take j) lc).flatMap mc) ∧ ∀ i (h : i < l.length) (h' : i < lc.length), VW w (fun b => B ≤ b ∧ b ≠ bl) l[i].2 lc[i].c
theorem EB.bel {w w' : World} {B : Nat} {l : List En} {j : Nat} {r : Value} {bl : Nat} {lc : List VC} (h : EB w B l j r bl lc) (hb : Below w.heap.size w w') : EB w' B l j r bl lc :=
  ⟨h.1, Nat.lt_of_lt_of_le h.2.1 hb.size, h.2.2.1, h.2.2.2.1.bel hb, fun i h1 h2 => (h.2.2.2.2 i h1 h2).bel hb⟩
theorem EB.zero {w : World} {B : Nat} {l : List En} (h : 0 < w.heap.size) : EB w B l 0 (.slice none 0 0) 0 [] := ⟨rfl, h, .inl rfl, OwnK.nil, fun i _ h => absurd h (by simp)⟩
theorem EB.apart {w : World} {B : Nat} {l : List En} {j : Nat} {r : Value} {bl : Nat} {lc : List VC} (h : EB w B l j r bl lc) : ∀ b, r.ownBlock = some b → B ≤ b := by
  intro b hb
  rcases h.2.2.1 with e | e
  · rw [e] at hb; cases hb
  · rcases h.2.2.2.1.own with e2 | e2 <;> rw [e2] at hb <;> cases hb
    exact e
theorem ents_next {l : List En} {lc : List VC} {j : Nat} {c : VC} (h1 : lc.length = j) (hj : j < l.length) : (ents (l.take (j + 1)) (lc ++ [c])).flatMap mc = (ents (l.take j) lc).flatMap mc ++ (strv l[j].1 :: c.c) := by
  unfold ents
  rw [List.take_succ_eq_append_getElem hj, List.map_append, List.zip_append (by rw [List.length_map, List.length_take]; omega), List.flatMap_append]
  simp [mc]
theorem EB.append {w w' : World} {B bl bl' j : Nat} {l : List En} {r r' : Value} {lc : List VC} {c : VC} (h : EB w B l j r bl lc) (hB : B ≤ w.heap.size) (hj : j < l.length) (hx : VW w (fun b => B ≤ b ∧ b ≠ bl) l[j].2 c.c) (ho : OwnK w' bl' 42 7 r' (j + 1) ((ents (l.take j) lc).flatMap mc ++ (strv l[j].1 :: c.c))) (hbl : (bl' = bl ∧ r ≠ .slice none 0 0) ∨ w.heap.size ≤ bl') (hg : w.grownBy w' r.ownBlock) : EB w' B l (j + 1) r' bl' (lc ++ [c]) := by
  obtain ⟨h1, h2, h3, h4, h5⟩ := h
  have hk := own_row h4 hg
  refine ⟨by simp [h1], ?_, ?_, by rw [ents_next h1 hj]; exact ho, fun i hi hi' => ?_⟩
  · have hqq := ho.form (by omega)
    obtain ⟨_, _, _, _, _, h⟩ := hqq
    exact h
  · right
    rcases hbl with ⟨rfl, e⟩ | e
    · exact h3.resolve_left e
    · omega
  · by_cases e : i < lc.length
    · rw [List.getElem_append_left e]
      exact VW.append (h5 i hi e) hbl hk
    · have e2 : i = j := by simp only [List.length_append, List.length_cons, List.length_nil] at hi'; omega
      subst e2
      rw [List.getElem_append_right (by omega)]
      simp only [h1, Nat.sub_self, List.getElem_cons_zero]
      exact VW.append hx hbl hk
/-- the first of some entries, each with a list of one number: where it lies -/
theorem first_en {w : World} {M : Nat → Prop} {n : Int} {es : List En} {lc : List VC} {bl : Nat} {r : Value} (h1 : lc.length = es.length) (h0 : 0 < es.length) (ho : OwnK w bl 42 7 r es.length ((ents es lc).flatMap mc)) (hv : ∀ (h : 0 < es.length) (h' : 0 < lc.length), VW w M es[0].2 lc[0].c) (he : ∀ h : 0 < es.length, es[0].2 = lsV n) :
    ∃ (o cap b2 o2 cap2 : Nat) (a b : Value) (rest : List Value), r = .slice (some ⟨bl, o, none⟩) es.length cap ∧ es.length ≤ cap ∧ bl < w.heap.size ∧ M b2 ∧ b2 < w.heap.size ∧ b2 ≠ bl ∧ OwnK w b2 40 6 (.slice (some ⟨b2, o2, none⟩) 1 cap2) 1 (vcell (numV n) a b) ∧ ((ents es lc).flatMap mc) = strv es[0].1 :: .int .i64 5 :: .bool false :: .int .i64 0 :: strv [] :: .slice (some ⟨b2, o2, none⟩) 1 cap2 :: rest := by
  have hc : 0 < lc.length := by omega
  have hv0 := hv h0 hc
  rw [he h0] at hv0
  have hqq := ls_inv hv0
  obtain ⟨lv, ov, a, b, b2, o2, cap2, e1, e2, e3, e4, e5⟩ := hqq
  have hqq := ho.form h0
  obtain ⟨o, cap, e6, e7, _, e8⟩ := hqq
  match es, lc, h0, hc, h1, ho, e1, e6, e7 with
  | e :: es, c :: lc, h0, hc, h1, ho, e1, e6, e7 =>
    have e9 : (ents (e :: es) (c :: lc)).flatMap mc = mc (e.1, c) ++ (ents es lc).flatMap mc := rfl
    refine ⟨o, cap, b2, o2, cap2, a, b, ov :: (ents es lc).flatMap mc, e6, e7, e8, e3, e4, fun h => ?_, e5, ?_⟩
    · subst h
      rcases e5.2 with ⟨h, _⟩ | ⟨_, _, cur, _, hh, _⟩
      · cases h
      · rcases ho.2 with ⟨_, h⟩ | ⟨_, _, cur', _, hh', _⟩
        · simp at h
        · rw [hh] at hh'
          simp only [Option.some.injEq, Obj.cells.injEq] at hh'
          exact absurd hh'.2.1 (by decide)
    · rw [e9]
      have : c.c = vcell (lsV n) lv ov := e1
      show (strv e.1 :: c.c) ++ _ = _
      rw [this, e2]
      rfl
end Go.Proofs.Ytpefeefmdlfafaa
