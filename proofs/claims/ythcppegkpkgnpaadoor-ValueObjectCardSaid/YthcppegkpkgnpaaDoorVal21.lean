/-
  ref02: Copy: walk.
-/
import Derived.Test.YthcppegkpkgnpaaDoorVal19
namespace Go.Proofs.YthcppegkpkgnpaaDoor
open Go Go.RowKit Go.Cx
set_option linter.unusedVariables false
set_option maxHeartbeats 8000000
/-- an append: the row that one has, or a new one -/
theorem E.appendN {P : Program} {f : Fr} {w : World} {d : Option Tmp} {ty : TypeId} {pos : String} {aft : Array Edge} {g : Option (Nat × Bool)} {x y : Operand} {at' e : TypeId} {zv : Value} {k by' bl n m : Nat} {xs news : List Value} (ht : P.underlying at' = some (.slice e)) (hi : TI P e zv k by') (hzs : zv.cells.size = k) (hk : 0 < k)
    (hs : OwnK w bl e k (ev f x) n xs) (hy : SlK w k (ev f y) m news) (h1 : ∀ u ∈ news, One u = true) (hb : (n + m) * by' ≤ 140737488355328) (hm : n + m ≤ maxLen) :
    ∃ v w', E P ⟨d, .call ⟨.builtin .append, #[x, y], #[at', at']⟩, ty, pos, aft, g⟩ f w v w' ∧ ((∃ bl', OwnK w' bl' e k v (n + m) (xs ++ news) ∧ ((bl' = bl ∧ ev f x ≠ .slice none 0 0) ∨ w.heap.size ≤ bl')) ∧ w.grownBy w' (ev f x).ownBlock) := by
  by_cases hv : ev f x = .slice none 0 0
  · have hs' : w.ownsRow w.heap.size e k (ev f x) n xs := by
      rw [hv]
      rcases hs.2 with ⟨_, h0⟩ | ⟨o, cap, cur, hv2, _⟩
      · have h2 := hs.1
        subst h0
        have : xs = [] := List.eq_nil_of_length_eq_zero (by simpa using h2)
        subst this
        exact World.ownsRow_nil _ _ _ _
      · rw [hv] at hv2; cases hv2
    have hqq := E.append (P := P) (f := f) (w := w) (d := d) (ty := ty) (pos := pos) (aft := aft) (g := g) (x := x) (y := y) ht hi hzs hk hs' hy h1 hb hm (Nat.le_refl _)
    obtain ⟨v, w', hE, ho, hb', hg⟩ := hqq
    have hqq := OwnK.of_own ho
    obtain ⟨bl', hB, hO⟩ := hqq
    exact ⟨v, w', hE, ⟨bl', hO, .inr hB⟩, hg⟩
  · have hqq := E.appendK (P := P) (f := f) (w := w) (d := d) (ty := ty) (pos := pos) (aft := aft) (g := g) (x := x) (y := y) ht ht hi hzs hk hs hy h1 hb hm
    obtain ⟨v, w', hE, ⟨bl', hO, hB⟩, hg⟩ := hqq
    exact ⟨v, w', hE, ⟨bl', hO, hB.imp (fun e => ⟨e, hv⟩) id⟩, hg⟩
/-- values appended so far -/
def LB (w : World) (B : Nat) (l : List V) (j : Nat) (r : Value) (bl : Nat) (lc : List VC) : Prop := lc.length = j ∧ bl < w.heap.size ∧ (r = .slice none 0 0 ∨ B ≤ bl) ∧ OwnK w bl 26 6 r j (lc.flatMap VC.c) ∧ ∀ i (h : i < l.length) (h' : i < lc.length), VW w (fun b => B ≤ b ∧ b ≠ bl) l[i] lc[i].c
/-- members appended so far -/
def MB (w : World) (B : Nat) (ks : List (List UInt8)) (l : List V) (j : Nat) (r : Value) (bl : Nat) (lc : List VC) : Prop := lc.length = j ∧ bl < w.heap.size ∧ (r = .slice none 0 0 ∨ B ≤ bl) ∧ OwnK w bl 38 7 r j (mcells (ks.take j) lc) ∧ ∀ i (h : i < l.length) (h' : i < lc.length), VW w (fun b => B ≤ b ∧ b ≠ bl) l[i] lc[i].c
theorem LB.bel {w w' : World} {B : Nat} {l : List V} {j : Nat} {r : Value} {bl : Nat} {lc : List VC} (h : LB w B l j r bl lc) (hb : Below w.heap.size w w') : LB w' B l j r bl lc :=
  ⟨h.1, Nat.lt_of_lt_of_le h.2.1 hb.size, h.2.2.1, h.2.2.2.1.bel hb, fun i h1 h2 => (h.2.2.2.2 i h1 h2).bel hb⟩
theorem MB.bel {w w' : World} {B : Nat} {ks : List (List UInt8)} {l : List V} {j : Nat} {r : Value} {bl : Nat} {lc : List VC} (h : MB w B ks l j r bl lc) (hb : Below w.heap.size w w') : MB w' B ks l j r bl lc :=
  ⟨h.1, Nat.lt_of_lt_of_le h.2.1 hb.size, h.2.2.1, h.2.2.2.1.bel hb, fun i h1 h2 => (h.2.2.2.2 i h1 h2).bel hb⟩
theorem LB.kept {w w' : World} {M : Nat → Prop} {B : Nat} {l : List V} {j : Nat} {r : Value} {bl : Nat} {lc : List VC} (h : LB w B l j r bl lc) (hk : Kept M w w') (hM : ∀ b, B ≤ b → ¬ M b) : LB w' B l j r bl lc :=
  ⟨h.1, Nat.lt_of_lt_of_le h.2.1 hk.size, h.2.2.1, by
    rcases h.2.2.1 with e | e
    · have := h.2.2.2.1
      rw [e] at this ⊢
      exact own_nilAny this
    · exact h.2.2.2.1.kept hk (hM _ e), fun i h1 h2 => VW.kept hk (fun b hb => hM b hb.1) (h.2.2.2.2 i h1 h2)⟩
theorem MB.kept {w w' : World} {M : Nat → Prop} {B : Nat} {ks : List (List UInt8)} {l : List V} {j : Nat} {r : Value} {bl : Nat} {lc : List VC} (h : MB w B ks l j r bl lc) (hk : Kept M w w') (hM : ∀ b, B ≤ b → ¬ M b) : MB w' B ks l j r bl lc :=
  ⟨h.1, Nat.lt_of_lt_of_le h.2.1 hk.size, h.2.2.1, by
    rcases h.2.2.1 with e | e
    · have := h.2.2.2.1
      rw [e] at this ⊢
      exact own_nilAny this
    · exact h.2.2.2.1.kept hk (hM _ e), fun i h1 h2 => VW.kept hk (fun b hb => hM b hb.1) (h.2.2.2.2 i h1 h2)⟩
theorem LB.zero {w : World} {B : Nat} {l : List V} (h : 0 < w.heap.size) : LB w B l 0 (.slice none 0 0) 0 [] := ⟨rfl, h, .inl rfl, OwnK.nil, fun i _ h => absurd h (by simp)⟩
theorem MB.zero {w : World} {B : Nat} {ks : List (List UInt8)} {l : List V} (h : 0 < w.heap.size) : MB w B ks l 0 (.slice none 0 0) 0 [] := ⟨rfl, h, .inl rfl, OwnK.nil, fun i _ h => absurd h (by simp)⟩
theorem LB.done {w : World} {B : Nat} {l : List V} {r : Value} {bl : Nat} {lc : List VC} (h : LB w B l l.length r bl lc) : LW w (fun b => B ≤ b) l r :=
  ⟨bl, lc, h.1, h.2.2.1, h.2.2.2.1, fun i h1 h2 => (h.2.2.2.2 i h1 h2).mono (fun _ _ h => h.1)⟩
theorem MB.done {w : World} {B : Nat} {ks : List (List UInt8)} {l : List V} {r : Value} {bl : Nat} {lc : List VC} (hk : ks.length = l.length) (h : MB w B ks l l.length r bl lc) : MW w (fun b => B ≤ b) ks l r := by
  refine ⟨bl, lc, h.1, h.2.2.1, ?_, fun i h1 h2 => (h.2.2.2.2 i h1 h2).mono (fun _ _ h => h.1)⟩
  have := h.2.2.2.1
  rwa [List.take_of_length_le (by omega)] at this
theorem own_row {w w' : World} {bl k n : Nat} {t : TypeId} {r : Value} {xs : List Value} (hs : OwnK w bl t k r n xs) (hg : w.grownBy w' r.ownBlock) : Kept (fun b => b = bl) w w' :=
  Kept.of_grownR hg (fun b hb => by rcases hs.own with e | e <;> rw [e] at hb <;> cases hb; rfl)
theorem LB.apart {w : World} {B : Nat} {l : List V} {j : Nat} {r : Value} {bl : Nat} {lc : List VC} (h : LB w B l j r bl lc) : ∀ b, r.ownBlock = some b → B ≤ b := by
  intro b hb
  rcases h.2.2.1 with e | e
  · rw [e] at hb; cases hb
  · rcases h.2.2.2.1.own with e2 | e2 <;> rw [e2] at hb <;> cases hb
    exact e
theorem MB.apart {w : World} {B : Nat} {ks : List (List UInt8)} {l : List V} {j : Nat} {r : Value} {bl : Nat} {lc : List VC} (h : MB w B ks l j r bl lc) : ∀ b, r.ownBlock = some b → B ≤ b := by
  intro b hb
  rcases h.2.2.1 with e | e
  · rw [e] at hb; cases hb
  · rcases h.2.2.2.1.own with e2 | e2 <;> rw [e2] at hb <;> cases hb
    exact e
theorem VW.append {w w' : World} {B bl bl' : Nat} {v : V} {c : List Value} {r : Value} (he : VW w (fun b => B ≤ b ∧ b ≠ bl) v c) (hbl : (bl' = bl ∧ r ≠ .slice none 0 0) ∨ w.heap.size ≤ bl') (hk : Kept (fun b => b = bl) w w') : VW w' (fun b => B ≤ b ∧ b ≠ bl') v c := by
  have h1 : VW w (fun b => B ≤ b ∧ b ≠ bl ∧ b ≠ bl') v c := he.mono (fun b hb h => ⟨h.1, h.2, by rcases hbl with ⟨rfl, _⟩ | e; exact h.2; omega⟩)
  have h2 : VW w' (fun b => B ≤ b ∧ b ≠ bl ∧ b ≠ bl') v c := VW.kept hk (fun b h => h.2.1) h1
  exact h2.mono (fun b _ h => ⟨h.1, h.2.2⟩)
theorem LB.append {w w' : World} {B bl bl' j : Nat} {l : List V} {r r' : Value} {lc : List VC} {c : VC} (h : LB w B l j r bl lc) (hB : B ≤ w.heap.size) (hj : j < l.length) (hx : VW w (fun b => B ≤ b ∧ b ≠ bl) l[j] c.c) (ho : OwnK w' bl' 26 6 r' (j + 1) (lc.flatMap VC.c ++ c.c)) (hbl : (bl' = bl ∧ r ≠ .slice none 0 0) ∨ w.heap.size ≤ bl') (hg : w.grownBy w' r.ownBlock) : LB w' B l (j + 1) r' bl' (lc ++ [c]) := by
  obtain ⟨h1, h2, h3, h4, h5⟩ := h
  have hk := own_row h4 hg
  refine ⟨by simp [h1], ?_, ?_, by simpa using ho, fun i hi hi' => ?_⟩
  · have hqq := ho.form (by omega)
    obtain ⟨_, _, _, _, _, h⟩ := hqq
    exact h
  · right
    rcases hbl with ⟨rfl, e⟩ | e
    · exact h3.resolve_left e
    · omega
  · by_cases e : i < lc.length
    · rw [List.getElem_append_left e]
      exact VW.append (h5 i hi e) hbl hk
    · have e2 : i = j := by simp only [List.length_append, List.length_cons, List.length_nil] at hi'; omega
      subst e2
      rw [List.getElem_append_right (by omega)]
      simp only [h1, Nat.sub_self, List.getElem_cons_zero]
      exact VW.append hx hbl hk
theorem MB.append {w w' : World} {B bl bl' j : Nat} {ks : List (List UInt8)} {l : List V} {r r' : Value} {lc : List VC} {c : VC} (h : MB w B ks l j r bl lc) (hB : B ≤ w.heap.size) (hj : j < l.length) (hjk : j < ks.length) (hx : VW w (fun b => B ≤ b ∧ b ≠ bl) l[j] c.c) (ho : OwnK w' bl' 38 7 r' (j + 1) (mcells (ks.take j) lc ++ (strv ks[j] :: c.c))) (hbl : (bl' = bl ∧ r ≠ .slice none 0 0) ∨ w.heap.size ≤ bl') (hg : w.grownBy w' r.ownBlock) : MB w' B ks l (j + 1) r' bl' (lc ++ [c]) := by
  obtain ⟨h1, h2, h3, h4, h5⟩ := h
  have hk := own_row h4 hg
  have ez : mcells (ks.take (j + 1)) (lc ++ [c]) = mcells (ks.take j) lc ++ (strv ks[j] :: c.c) := by
    unfold mcells
    rw [List.take_succ_eq_append_getElem hjk, List.zip_append (by rw [List.length_take]; omega), List.flatMap_append]
    simp
  refine ⟨by simp [h1], ?_, ?_, by rw [ez]; exact ho, fun i hi hi' => ?_⟩
  · have hqq := ho.form (by omega)
    obtain ⟨_, _, _, _, _, h⟩ := hqq
    exact h
  · right
    rcases hbl with ⟨rfl, e⟩ | e
    · exact h3.resolve_left e
    · omega
  · by_cases e : i < lc.length
    · rw [List.getElem_append_left e]
      exact VW.append (h5 i hi e) hbl hk
    · have e2 : i = j := by simp only [List.length_append, List.length_cons, List.length_nil] at hi'; omega
      subst e2
      rw [List.getElem_append_right (by omega)]
      simp only [h1, Nat.sub_self, List.getElem_cons_zero]
      exact VW.append hx hbl hk
theorem rcopy_ret (v : V) : CopyOf 11 v := by
  induction v using V.ind with
  | h v ih1 ih2 =>
    intro w c hv
    cases hv with
    | @mk _ lv ov lc oc ok h1 h2 hs h3 h4 ho =>
    have hol := ok.l
    have hoo := ok.o
    have okk := ok.ks
    have hmx : maxLen = 9223372036854775807 := rfl
    refine Ret.of (n := 60) (rs := #[.cell 2 26]) Tryd.func11 rfl rfl rfl (by simp) ?_
    refine WC.seqR rfl ?_
    refine WL.eex rfl (E.boxX) ?_
    rintro _ w1 ⟨rfl, hB1, hb1⟩
    refine WL.eex rfl (E.allocX ti26) ?_
    rintro _ w2 ⟨rfl, hB2, hb2⟩
    refine WL.nil ?_
    have hx1 : Blk w2 w.heap.size 26 (vcell v lv ov) := (show Blk _ _ _ (vcell v lv ov) from hB1).bel hb2
    have hx2 : Blk w2 w1.heap.size 26 (vcell V.nil (.slice none 0 0) (.slice none 0 0)) := hB2
    have l1 := (show Blk w1 _ _ _ from hB1).lt
    have l2 := hx2.lt
    have s2 := hb2.size
    have k2 : Below w.heap.size w w2 := Below.step hb1 hb2
    clear hB1 hB2
    refine WC.seqR rfl ?_
    refine WL.y rfl (Y.fieldAddr fi26f0 ti23 (by decide) rfl (rfl) _) ?_
    refine WL.y rfl (Y.load1 Tryd.underlying23 rfl rfl (hx1.cell 0)) ?_
    refine WL.y rfl (Y.fieldAddr fi26f1 ti4 (by decide) rfl (rfl) _) ?_
    refine WL.y rfl (Y.load1 Tryd.underlying4 rfl rfl (hx1.cell 1)) ?_
    refine WL.y rfl (Y.fieldAddr fi26f2 ti2 (by decide) rfl (rfl) _) ?_
    refine WL.y rfl (Y.load1 Tryd.underlying2 rfl rfl (hx1.cell 2)) ?_
    refine WL.y rfl (Y.fieldAddr fi26f3 ti9 (by decide) rfl (rfl) _) ?_
    refine WL.y rfl (Y.load1 Tryd.underlying9 rfl rfl (hx1.cell 3)) ?_
    refine WL.y rfl (Y.build (cells := (vcell v (.slice none 0 0) (.slice none 0 0)).toArray) (by kernel_rfl) _) ?_
    refine WL.eex rfl (E.allocX ti26) ?_
    rintro _ w3 ⟨rfl, hB3, hb3⟩
    refine WL.eex rfl (E.storeAllK (us := vcell v (.slice none 0 0) (.slice none 0 0)) ti26 rfl rfl rfl (one_vcell rfl rfl) hB3 rfl) ?_
    rintro _ w4 ⟨hx3, hg4⟩
    refine WL.nil ?_
    refine WC.seq ?_
    refine WC.seqR rfl ?_
    refine WL.y rfl (Y.assign) ?_
    refine WL.nil ?_
    refine WC.block ?_
    have l3 := hx3.lt
    have l3' := (show Blk w3 _ _ _ from hB3).lt
    have s3 := hb3.size
    have s4 := hg4.size
    have k4 : Below w.heap.size w w4 := Below.stepG (Below.step k2 hb3) hg4 (by omega)
    have hx1' := (hx1.bel hb3).grown hg4 (by omega)
    have hx2' := (hx2.bel hb3).grown hg4 (by omega)
    have e1 : w1.heap.size ≠ w2.heap.size := by omega
    have e2 : w.heap.size ≠ w2.heap.size := by omega
    clear hB3 hx1 hx2
    have p4 : 0 < w4.heap.size := by omega
    have e5 : w.heap.size ≠ w1.heap.size := by omega
    refine WC.loop (fun j => v.l.length - j) (fun j f ds w' => j ≤ v.l.length ∧ ds = [] ∧ Below w.heap.size w w' ∧ w4.heap.size ≤ w'.heap.size ∧ (Blk w' w.heap.size 26 (vcell v lv ov) ∧ Blk w' w1.heap.size 26 (vcell V.nil (.slice none 0 0) (.slice none 0 0))) ∧ ∃ r bl lc' J, Blk w' w2.heap.size 26 (vcell v r (.slice none 0 0)) ∧ LB w' w4.heap.size v.l j r bl lc' ∧ f = Go.Cx.ov J [(1, .pointer (some ⟨w.heap.size, 0, none⟩)), (2, .pointer (some ⟨w1.heap.size, 0, none⟩)), (3, .pointer (some ⟨w2.heap.size, 0, none⟩)), (4, .int .i64 (j : Int))]) 0 ?_ ?_
    · exact ⟨by omega, rfl, k4, Nat.le_refl _, ⟨hx1', hx2'⟩, _, 0, [], _, hx3, LB.zero p4, ov_mk ⟨rfl, rfl, rfl, rfl, trivial⟩⟩
    · clear hx1' hx2' hx3 k4
      rintro j _ _ wL ⟨hj, rfl, kL, sL, ⟨hx1, hx2⟩, r, bl, lc', J, hx3, hLB, rfl⟩
      refine WC.seq ?_
      refine WC.seqR rfl ?_
      refine WL.y rfl (Y.move) ?_
      refine WL.y rfl (Y.fieldAddr fi26f4 ti24 (by decide) rfl (rfl) _) ?_
      refine WL.y rfl (Y.load1 Tryd.underlying24 rfl rfl (hx1.cell 4)) ?_
      refine WL.y rfl (Y.lenSl Tryd.underlying24 (hs.bel kL) _) ?_
      refine WL.y rfl (Y.lss rfl rfl) ?_
      refine WL.nil ?_
      refine WC.condD rfl (fun h0 => ?_) (fun h0 => ?_)
      · have hjl : j < v.l.length := by omega
        have hjc : j < lc.length := by omega
        have hbl := hLB.2.1
        refine WC.skip (thenQ.normal ?_)
        refine WC.seq ?_
        refine WC.block ?_
        refine WC.regionB (fun i => Nat.beq i 9 || Nat.beq i 11) [(0, .any), (1, .held), (2, .any), (3, .held), (4, .any), (5, .any), (6, .held), (7, .seq), (8, .seq), (9, .seq), (10, .any), (11, .seq)] mixed (by kernel_rfl) (fun w5 hS5 hheap => ?_)
        refine RL.any rfl rfl (fun _ => Y.fieldAddr fi26f4 ti24 (by decide) rfl (rfl) _) ?_
        refine RL.held rfl rfl hS5 (fun _ hb9 => Y.load1 Tryd.underlying24 rfl rfl (cell_bel (hx3.cell 4) hb9)) ?_
        refine RL.any rfl rfl (fun _ => Y.fieldAddr fi26f4 ti24 (by decide) rfl (rfl) _) ?_
        refine RL.held rfl rfl hS5 (fun _ hb9 => Y.load1 Tryd.underlying24 rfl rfl (cell_bel (hx1.cell 4) hb9)) ?_
        refine RL.any rfl rfl (fun _ => Y.move) ?_
        refine RL.yex rfl rfl (Y.idx Tryd.underlying24 ti26 (by decide) (hs.bel kL) rfl (by omega) (by omega)) ?_
        rintro _ ⟨b27, o27, rfl, hc27⟩
        refine RL.held rfl rfl hS5 (fun _ hb9 => Y.loadK Tryd.underlying26 rfl ti26 (lc[j].h) rfl (Cells.bel (elem_cells hjc hc27) hb9)) ?_
        refine RL.call rfl rfl (C.func go11) (ih1 _ (List.getElem_mem hjl) _ _ (((h2 j hjl hjc).bel kL).bel hS5)) ?_
        rintro _ w29 ⟨c29, rfl, hw29, hb29⟩
        refine ⟨.inr (fun h => Below.step h hb29), ?_⟩
        refine RL.eex rfl rfl (E.build1A Tryd.underlying24 ti26 hw29.len (by decide) (by decide) rfl) ?_ ?_
        · exact fun _ _ h9 => .inr (fun h => Below.step h h9.2.2.1)
        rintro _ w30 ⟨rfl, ho30, hb30, -⟩ 
        have bb : Below wL.heap.size wL w30 := Below.step (Below.step hS5 hb29) hb30
        have hLB' := hLB.bel bb
        refine RL.eex rfl rfl (E.appendN Tryd.underlying24 ti26 rfl (by decide) hLB'.2.2.2.1 (ownsRow_sl ho30) hw29.one (by omega) (by omega)) ?_ ?_
        · exact fun _ _ _ => .inl rfl
        rintro v31 w31 ⟨⟨bl', ho31, hbl'⟩, hg31⟩
        have hx31 : Blk w31 w2.heap.size 26 (vcell v r (.slice none 0 0)) := (hx3.bel bb).grownR hg31 (fun b e => by have := hLB'.apart b e; omega)
        refine RL.any rfl rfl (fun _ => Y.fieldAddr fi26f4 ti24 (by decide) rfl (rfl) _) ?_
        refine RL.eex rfl rfl (E.storeX (u := v31) ti24 rfl rfl ho31.sl.one hx31 (by simp [vcell])) ?_ ?_
        · exact fun _ _ _ => .inl rfl
        rintro _ w32 ⟨hx32, hg32, -⟩
        refine RL.nil (inBlockQ.normal (thenQ.normal ?_))
        refine WC.region rfl ?_
        refine WL.y rfl (Y.move) ?_
        refine WL.y rfl (Y.add64 rfl rfl (by omega)) ?_
        refine WL.y rfl (Y.assign) ?_
        refine WL.nil (thenQ.normal ?_)
        have s5 := hS5.size
        have s29 := hb29.size
        have s30 := hb30.size
        have s31 := hg31.size
        have s32 := hg32.size
        have k31 : Below w.heap.size w w31 := (Below.step kL bb).trans (below_of_grown hg31 (by omega) (fun b e => by have := hLB'.apart b e; omega))
        have hLn := (hLB'.append (c := ⟨c29, hw29.len⟩) (by omega) hjl ((hw29.bel hb30).mono (fun b _ h => ⟨by omega, by omega⟩)) ho31 hbl' hg31).kept (Kept.of_grown (M := fun b => b = w2.heap.size) hg32 rfl) (fun b h => by omega)
        exact ⟨j + 1, by omega, by omega, rfl, Below.stepG k31 hg32 (by omega), by omega, ⟨((hx1.bel bb).grownR hg31 (fun b e => by have := hLB'.apart b e; omega)).grown hg32 e2, ((hx2.bel bb).grownR hg31 (fun b e => by have := hLB'.apart b e; omega)).grown hg32 e1⟩, _, _, _, _, hx32, hLn, ov_mk ⟨rfl, rfl, rfl, rfl, trivial⟩⟩
      · have hje : j = v.l.length := by omega
        subst hje
        have hL := hLB.done
        have hLm : LW wL (fun b => w4.heap.size ≤ b ∧ b < wL.heap.size) v.l r := hL.mono (fun b h1 h2 => ⟨h2, h1⟩)
        clear hL hLB hj
        have pL : 0 < wL.heap.size := by omega
        refine WC.exit (thenQ.exit (thenQ.exit (inBlockQ.hit (thenQ.normal ?_))))
        refine WC.seq ?_
        refine WC.seqR rfl ?_
        refine WL.y rfl (Y.assign) ?_
        refine WL.nil ?_
        refine WC.block ?_
        refine WC.loop (fun j => v.vs.length - j) (fun j f ds w' => j ≤ v.vs.length ∧ ds = [] ∧ Below w.heap.size w w' ∧ wL.heap.size ≤ w'.heap.size ∧ (Blk w' w.heap.size 26 (vcell v lv ov) ∧ Blk w' w1.heap.size 26 (vcell V.nil (.slice none 0 0) (.slice none 0 0)) ∧ LW w' (fun b => w4.heap.size ≤ b ∧ b < wL.heap.size) v.l r) ∧ ∃ r' bl lc' J, Blk w' w2.heap.size 26 (vcell v r r') ∧ MB w' wL.heap.size v.ks v.vs j r' bl lc' ∧ f = Go.Cx.ov J [(1, .pointer (some ⟨w.heap.size, 0, none⟩)), (2, .pointer (some ⟨w1.heap.size, 0, none⟩)), (3, .pointer (some ⟨w2.heap.size, 0, none⟩)), (5, .int .i64 (j : Int))]) 0 ?_ ?_
        · exact ⟨by omega, rfl, kL, Nat.le_refl _, ⟨hx1, hx2, hLm⟩, _, 0, [], _, hx3, MB.zero pL, ov_mk ⟨rfl, rfl, rfl, rfl, trivial⟩⟩
        · clear hx1 hx2 hx3 hLm kL
          rintro j _ _ wN ⟨hj, rfl, kN, sN, ⟨hx1, hx2, hLm⟩, r', bl, oc', J, hx3, hMB, rfl⟩
          refine WC.seq ?_
          refine WC.seqR rfl ?_
          refine WL.y rfl (Y.move) ?_
          refine WL.y rfl (Y.fieldAddr fi26f5 ti22 (by decide) rfl (rfl) _) ?_
          refine WL.y rfl (Y.load1 Tryd.underlying22 rfl rfl (hx1.cell 5)) ?_
          refine WL.y rfl (Y.lenSl Tryd.underlying22 (ho.bel kN) _) ?_
          refine WL.y rfl (Y.lss rfl rfl) ?_
          refine WL.nil ?_
          refine WC.condD rfl (fun h0 => ?_) (fun h0 => ?_)
          · have hjl : j < v.vs.length := by omega
            have hjk : j < v.ks.length := by omega
            have hjc : j < oc.length := by omega
            have hbl := hMB.2.1
            refine WC.skip (thenQ.normal ?_)
            refine WC.seq ?_
            refine WC.block ?_
            refine WC.regionB (fun i => Nat.beq i 17 || Nat.beq i 19) [(0, .any), (1, .held), (2, .any), (3, .held), (4, .any), (5, .any), (6, .any), (7, .held), (8, .any), (9, .held), (10, .any), (11, .any), (12, .any), (13, .held), (14, .seq), (15, .any), (16, .seq), (17, .seq), (18, .any), (19, .seq)] mixed (by kernel_rfl) (fun w9 hS9 hheap => ?_)
            refine RL.any rfl rfl (fun _ => Y.fieldAddr fi26f5 ti22 (by decide) rfl (rfl) _) ?_
            refine RL.held rfl rfl hS9 (fun _ hb9 => Y.load1 Tryd.underlying22 rfl rfl (cell_bel (hx3.cell 5) hb9)) ?_
            refine RL.any rfl rfl (fun _ => Y.fieldAddr fi26f5 ti22 (by decide) rfl (rfl) _) ?_
            refine RL.held rfl rfl hS9 (fun _ hb9 => Y.load1 Tryd.underlying22 rfl rfl (cell_bel (hx1.cell 5) hb9)) ?_
            refine RL.any rfl rfl (fun _ => Y.move) ?_
            refine RL.yex rfl rfl (Y.idx Tryd.underlying22 ti38 (by decide) (ho.bel kN) rfl (by omega) (by omega)) ?_
            rintro _ ⟨b45, o45, rfl, hc45⟩
            refine RL.any rfl rfl (fun _ => Y.fieldAddr fi38f0 ti9 (by decide) rfl (rfl) _) ?_
            refine RL.held rfl rfl hS9 (fun _ hb9 => Y.load1 Tryd.underlying9 rfl rfl (cell_bel (Cells.hd (mem_cells hjk hjc hc45)) hb9)) ?_
            refine RL.any rfl rfl (fun _ => Y.fieldAddr fi26f5 ti22 (by decide) rfl (rfl) _) ?_
            refine RL.held rfl rfl hS9 (fun _ hb9 => Y.load1 Tryd.underlying22 rfl rfl (cell_bel (hx1.cell 5) hb9)) ?_
            refine RL.any rfl rfl (fun _ => Y.move) ?_
            refine RL.yex rfl rfl (Y.idx Tryd.underlying22 ti38 (by decide) (ho.bel kN) rfl (by omega) (by omega)) ?_
            rintro _ ⟨b51, o51, rfl, hc51⟩
            refine RL.any rfl rfl (fun _ => Y.fieldAddr fi38f1 ti26 (by decide) rfl (rfl) _) ?_
            refine RL.held rfl rfl hS9 (fun _ hb9 => Y.loadK Tryd.underlying26 rfl ti26 (oc[j].h) rfl (Cells.bel (Cells.tl (mem_cells hjk hjc hc51)) hb9)) ?_
            refine RL.call rfl rfl (C.func go11) (ih2 _ (List.getElem_mem hjl) _ _ (((h4 j hjl hjc).bel kN).bel hS9)) ?_
            rintro _ w54 ⟨c54, rfl, hw54, hb54⟩
            refine ⟨.inr (fun h => Below.step h hb54), ?_⟩
            have hqq := six hw54.len
            obtain ⟨p0, p1, p2, p3, p4, p5, rfl⟩ := hqq
            refine RL.any rfl rfl (fun _ => Y.build (cells := (strv v.ks[j] :: [p0, p1, p2, p3, p4, p5]).toArray) (by kernel_rfl) _) ?_
            refine RL.eex rfl rfl (E.build1A (c := strv v.ks[j] :: [p0, p1, p2, p3, p4, p5]) Tryd.underlying22 ti38 rfl (by decide) (by decide) rfl) ?_ ?_
            · exact fun _ _ h9 => .inr (fun h => Below.step h h9.2.2.1)
            rintro _ w56 ⟨rfl, ho56, hb56, -⟩ 
            have bb : Below wN.heap.size wN w56 := Below.step (Below.step hS9 hb54) hb56
            have hMB' := hMB.bel bb
            refine RL.eex rfl rfl (E.appendN Tryd.underlying22 ti38 rfl (by decide) hMB'.2.2.2.1 (ownsRow_sl ho56) (one_strv hw54.one) (by omega) (by omega)) ?_ ?_
            · exact fun _ _ _ => .inl rfl
            rintro v57 w57 ⟨⟨bl', ho57, hbl'⟩, hg57⟩
            have hx57 : Blk w57 w2.heap.size 26 (vcell v r r') := (hx3.bel bb).grownR hg57 (fun b e => by have := hMB'.apart b e; omega)
            refine RL.any rfl rfl (fun _ => Y.fieldAddr fi26f5 ti22 (by decide) rfl (rfl) _) ?_
            refine RL.eex rfl rfl (E.storeX (u := v57) ti22 rfl rfl ho57.sl.one hx57 (by simp [vcell])) ?_ ?_
            · exact fun _ _ _ => .inl rfl
            rintro _ w58 ⟨hx58, hg58, -⟩
            refine RL.nil (inBlockQ.normal (thenQ.normal ?_))
            refine WC.region rfl ?_
            refine WL.y rfl (Y.move) ?_
            refine WL.y rfl (Y.add64 rfl rfl (by omega)) ?_
            refine WL.y rfl (Y.assign) ?_
            refine WL.nil (thenQ.normal ?_)
            have s9 := hS9.size
            have s54 := hb54.size
            have s56 := hb56.size
            have s57 := hg57.size
            have s58 := hg58.size
            have k57 : Below w.heap.size w w57 := (Below.step kN bb).trans (below_of_grown hg57 (by omega) (fun b e => by have := hMB'.apart b e; omega))
            have kM : Kept (fun b => b = w2.heap.size) w57 w58 := Kept.of_grown hg58 rfl
            have hMn := (hMB'.append (c := ⟨[p0, p1, p2, p3, p4, p5], rfl⟩) (by omega) hjl hjk ((hw54.bel hb56).mono (fun b _ h => ⟨by omega, by omega⟩)) ho57 hbl' hg57).kept kM (fun b h => by omega)
            have hLm' : LW w57 (fun b => w4.heap.size ≤ b ∧ b < wL.heap.size) v.l r := LW.kept (Kept.of_grownR (M := fun b => wL.heap.size ≤ b) hg57 (fun b e => hMB'.apart b e)) (fun b h1 h2 => by omega) (hLm.bel bb)
            exact ⟨j + 1, by omega, by omega, rfl, Below.stepG k57 hg58 (by omega), by omega, ⟨((hx1.bel bb).grownR hg57 (fun b e => by have := hMB'.apart b e; omega)).grown hg58 e2, ((hx2.bel bb).grownR hg57 (fun b e => by have := hMB'.apart b e; omega)).grown hg58 e1, LW.kept kM (fun b h1 h2 => by omega) hLm'⟩, _, _, _, _, hx58, hMn, ov_mk ⟨rfl, rfl, rfl, rfl, trivial⟩⟩
          · have hje : j = v.vs.length := by omega
            subst hje
            have hM := hMB.done okk
            refine WC.exit (thenQ.exit (thenQ.exit (inBlockQ.hit (thenQ.normal ?_))))
            refine WC.seqR rfl ?_
            refine WL.y rfl (Y.loadK Tryd.underlying26 rfl ti26 (rfl) rfl (hx3.cells)) ?_
            refine WL.eex rfl (E.storeAllK (us := vcell v r r') ti26 rfl rfl rfl (one_vcell hLm.one hM.one) hx2 rfl) ?_
            rintro _ wH ⟨hH, hgH⟩
            refine WL.nil ?_
            refine WC.ret ?_
            have kH : Below w.heap.size w wH := Below.stepG kN hgH (by omega)
            have kM : Kept (fun b => b = w1.heap.size) wN wH := Kept.of_grown hgH rfl
            have hw : VW wH (fun b => w.heap.size ≤ b) v (vcell v r r') := VW.of ok ((LW.kept kM (fun b h1 h2 => by omega) hLm).mono (fun b _ h => by omega)) ((MW.kept kM (fun b h1 h2 => by omega) hM).mono (fun b _ h => by omega))
            exact endQ.cellN Tryd.underlying26 rfl ti26 (.inr rfl) rfl hH.cells ⟨_, rfl, hw, kH⟩
end Go.Proofs.YthcppegkpkgnpaaDoor
