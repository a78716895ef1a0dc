/-
  law02: num, list, obj, sign, known: walks.
-/
import Derived.Test.YthcppegkpkgnpaaDoorVal12
namespace Go.Proofs.YthcppegkpkgnpaaDoor
open Go Go.RowKit Go.Cx
set_option linter.unusedVariables false
set_option maxHeartbeats 4000000
def numT (n : Int) : V := .mk 3 false n [] [] [] []
def listT (l : List V) : V := .mk 5 false 0 [] l [] []
def objT (k : List UInt8) (x : V) : V := .mk 6 false 0 [] [] [k] [x]
def nilS : Value := .slice none 0 0
theorem rg (n : Int) (h : n = 0 ∨ n = 3 ∨ n = 5 ∨ n = 6) : -9223372036854775808 ≤ n ∧ n ≤ 9223372036854775807 := by omega
theorem numT_at (w : World) {v : V} (ok : VOk v) (hl : v.l = []) (ho : v.vs = []) : VAt w v (vcell v nilS nilS) := by
  obtain ⟨k, b, i, t, l, ks, vs⟩ := v
  simp only [V.l, V.vs] at hl ho
  subst hl ho
  have hk : ks = [] := List.length_eq_zero_iff.mp ok.ks
  subst hk
  exact .mk (lc := []) (oc := []) ok rfl (fun j h => absurd h (by simp [V.l])) SlK.nil rfl (fun j h => absurd h (by simp [V.vs])) SlK.nil
theorem listT_at {w : World} {l : List V} {r : Value} (h : LAt w l r) (hl : l.length ≤ 1599289640354) : VAt w (listT l) (vcell (listT l) r nilS) := by
  obtain ⟨lc, h1, h2, h3⟩ := h
  exact .mk (v := listT l) (lc := lc) (oc := []) ⟨rg _ (.inr (.inr (.inl rfl))), rg _ (.inl rfl), by simp [listT, V.t], hl, by simp [listT, V.vs], rfl, by simp [listT, V.ks]⟩ h1 h3 h2 rfl (fun j h => absurd h (by simp [listT, V.vs])) SlK.nil
theorem objT_at {w : World} {k : List UInt8} {x : V} {r : Value} {c : List Value} (hx : VAt w x c) (h : SlK w 7 r 1 (strv k :: c)) (hk : k.length ≤ 140737488351232) : VAt w (objT k x) (vcell (objT k x) nilS r) := by
  refine .mk (v := objT k x) (lc := []) (oc := [⟨c, hx.len⟩]) ⟨rg _ (.inr (.inr (.inr rfl))), rg _ (.inl rfl), by simp [objT, V.t], by simp [objT, V.l], by simp [objT, V.vs], rfl, ?_⟩ rfl (fun j h => absurd h (by simp [objT, V.l])) SlK.nil rfl ?_ ?_
  · intro y hy
    simp only [objT, V.ks, List.mem_cons, List.mem_nil_iff, or_false] at hy
    rw [hy]; exact hk
  · intro j hj hj'
    have : j = 0 := by simp [objT, V.vs] at hj; omega
    subst this
    exact hx
  · have e : mcells (objT k x).ks [⟨c, hx.len⟩] = strv k :: c := by simp [mcells, objT, V.ks]
    rw [e]; exact h
theorem vcell_one {v : V} {a b : Value} (ha : One a = true) (hb : One b = true) : ∀ u ∈ vcell v a b, One u = true := by
  intro u hu
  simp only [vcell, List.mem_cons, List.mem_nil_iff, or_false] at hu
  rcases hu with rfl | rfl | rfl | rfl | rfl | rfl
  · rfl
  · rfl
  · rfl
  · rfl
  · exact ha
  · exact hb
theorem num_ret (w : World) (n : Int) (hn : -9223372036854775808 ≤ n ∧ n ≤ 9223372036854775807) :
    Ret Tryd.prog 35 [.int .i64 n].toArray w fun r w' => (∃ c : List Value, r = .agg c.toArray ∧ VAt w' (numT n) c) ∧ Below w.heap.size w w' := by
  have hok : VOk (numT n) := ⟨rg _ (.inr (.inl rfl)), hn, by simp [numT, V.t], by simp [numT, V.l], by simp [numT, V.vs], rfl, by simp [numT, V.ks]⟩
  refine Ret.of (n := 5) (rs := #[.cell 2 26]) Tryd.func35 rfl rfl rfl (by simp) ?_
  refine WC.seqR rfl ?_
  refine WL.eex rfl (E.allocX ti26) ?_
  rintro _ w2 ⟨rfl, hB2, hb2⟩
  refine WL.nil ?_
  refine WC.seqR rfl ?_
  refine WL.y rfl (Y.move) ?_
  refine WL.y rfl (Y.build (cells := (vcell (numT n) nilS nilS).toArray) (by kernel_rfl) _) ?_
  refine WL.eex rfl (E.storeAllK (us := vcell (numT n) nilS nilS) ti26 rfl rfl rfl (vcell_one rfl rfl) hB2 rfl) ?_
  rintro _ w3 ⟨hB3, hg3⟩
  refine WL.nil ?_
  refine WC.ret ?_
  have b3 : Below w.heap.size w w3 := Below.stepG hb2 hg3 (Nat.le_refl _)
  exact endQ.cellN Tryd.underlying26 rfl ti26 (.inr rfl) rfl hB3.cells ⟨⟨_, rfl, numT_at _ hok rfl rfl⟩, b3⟩
theorem list_ret (w : World) (l : List V) (r : Value) (hr : LAt w l r) (hl : l.length ≤ 1599289640354) :
    Ret Tryd.prog 34 [r].toArray w fun r w' => (∃ c : List Value, r = .agg c.toArray ∧ VAt w' (listT l) c) ∧ Below w.heap.size w w' := by
  have hor : One r = true := by obtain ⟨_, _, h, _⟩ := hr; exact h.one
  obtain ⟨a, cap, rfl⟩ : ∃ a cap, r = .slice a l.length cap := by obtain ⟨_, _, h, _⟩ := hr; exact ⟨_, _, h.2.2.choose_spec.choose_spec.1⟩
  refine Ret.of (n := 5) (rs := #[.cell 2 26]) Tryd.func34 rfl rfl rfl (by simp) ?_
  refine WC.seqR rfl ?_
  refine WL.eex rfl (E.allocX ti26) ?_
  rintro _ w2 ⟨rfl, hB2, hb2⟩
  refine WL.nil ?_
  refine WC.seqR rfl ?_
  refine WL.y rfl (Y.move) ?_
  refine WL.y rfl (Y.build (cells := (vcell (listT l) (.slice a l.length cap) nilS).toArray) (by kernel_rfl) _) ?_
  refine WL.eex rfl (E.storeAllK (us := vcell (listT l) (.slice a l.length cap) nilS) ti26 rfl rfl rfl (vcell_one hor rfl) hB2 rfl) ?_
  rintro _ w3 ⟨hB3, hg3⟩
  refine WL.nil ?_
  refine WC.ret ?_
  have b3 : Below w.heap.size w w3 := Below.stepG hb2 hg3 (Nat.le_refl _)
  exact endQ.cellN Tryd.underlying26 rfl ti26 (.inr rfl) rfl hB3.cells ⟨⟨_, rfl, listT_at (hr.bel b3) hl⟩, b3⟩
theorem obj_ret (w : World) (k : List UInt8) (x : V) (c : List Value) (hx : VAt w x c) (hk : k.length ≤ 140737488351232) :
    Ret Tryd.prog 36 [strv k, .agg c.toArray].toArray w fun r w' => (∃ c : List Value, r = .agg c.toArray ∧ VAt w' (objT k x) c) ∧ Below w.heap.size w w' := by
  have hcl := hx.len
  have hone : ∀ u ∈ strv k :: c, One u = true := by
    intro u hu
    rcases List.mem_cons.1 hu with rfl | hu
    · rfl
    · exact hx.one u hu
  have hqq := six hcl
  obtain ⟨a0, a1, a2, a3, a4, a5, rfl⟩ := hqq
  refine Ret.of (n := 10) (rs := #[.cell 4 26]) Tryd.func36 rfl rfl rfl (by simp) ?_
  refine WC.seqR rfl ?_
  refine WL.eex rfl (E.boxX) ?_
  rintro _ w3 ⟨rfl, hB3, hb3⟩
  refine WL.eex rfl (E.allocX ti26) ?_
  rintro _ w4 ⟨rfl, hB4, hb4⟩
  refine WL.nil ?_
  refine WC.seqR rfl ?_
  refine WL.y rfl (Y.move) ?_
  refine WL.y rfl (Y.loadK Tryd.underlying26 rfl ti26 (hcl) rfl (((show Blk _ _ _ [a0, a1, a2, a3, a4, a5] from hB3).bel hb4).cells)) ?_
  refine WL.y rfl (Y.build (cells := [strv k, a0, a1, a2, a3, a4, a5].toArray) (by kernel_rfl) _) ?_
  refine WL.eex rfl (E.build1A (c := [strv k, a0, a1, a2, a3, a4, a5]) Tryd.underlying22 ti38 rfl (by decide) (by decide) rfl) ?_
  rintro _ w8 ⟨rfl, ho8, hb8, -⟩
  refine WL.y rfl (Y.build (cells := (vcell (objT k x) nilS (.slice (some ⟨w4.heap.size, 0, none⟩) 1 1)).toArray) (by kernel_rfl) _) ?_
  have hBB := hB4.bel hb8
  refine WL.eex rfl (E.storeAllK (us := vcell (objT k x) nilS (.slice (some ⟨w4.heap.size, 0, none⟩) 1 1)) ti26 rfl rfl rfl (vcell_one rfl rfl) hBB rfl) ?_
  rintro _ w9 ⟨hB9, hg9⟩
  refine WL.nil ?_
  refine WC.ret ?_
  have b8 : Below w.heap.size w w8 := Below.step (Below.step hb3 hb4) hb8
  have b9 : Below w.heap.size w w9 := Below.stepG b8 hg9 hb3.size
  have hs3 := hB4.lt
  have hs9 : SlK w9 7 (.slice (some ⟨w4.heap.size, 0, none⟩) 1 1) 1 [strv k, a0, a1, a2, a3, a4, a5] := ownsRow_sl (own_grown ho8 hg9 (by omega))
  exact endQ.cellN Tryd.underlying26 rfl ti26 (.inr rfl) rfl hB9.cells ⟨⟨_, rfl, objT_at (hx.bel b9) hs9 hk⟩, b9⟩
def sgn (n : Int) : Int := num n 0
theorem lsign_ret (w : World) (n : Int) : Ret Tryd.prog 26 [.int .i64 n].toArray w fun r w' => r = .int .i64 (num n 0) ∧ w = w' := by
  refine Ret.of (n := 9) (rs := #[.tmp 2]) Tryd.func26 rfl rfl rfl (by simp) ?_
  refine WC.seqR rfl ?_
  refine WL.y rfl (Y.assign) ?_
  refine WL.nil ?_
  refine WC.seq ?_
  refine WC.block ?_
  refine WC.seqR rfl ?_
  refine WL.y rfl (Y.move) ?_
  refine WL.y rfl (Y.lss rfl rfl) ?_
  refine WL.y rfl (Y.assign) ?_
  refine WL.nil ?_
  refine WC.condD rfl (fun h0 => ?_) (fun h0 => ?_)
  · have e := num_lt h0
    refine WC.seqR rfl ?_
    refine WL.y rfl (Y.assign) ?_
    refine WL.nil ?_
    refine WC.ret (inBlockQ.ret (thenQ.ret (endQ.one (.inr rfl) ?_)))
    exact ⟨congrArg (Value.int .i64) e.symm, rfl⟩
  · refine WC.seqR rfl ?_
    refine WL.y rfl (Y.move) ?_
    refine WL.y rfl (Y.gtr rfl rfl) ?_
    refine WL.y rfl (Y.assign) ?_
    refine WL.nil ?_
    refine WC.condD rfl (fun h1 => ?_) (fun h1 => ?_)
    · have e := num_gt h1
      refine WC.seqR rfl ?_
      refine WL.y rfl (Y.assign) ?_
      refine WL.nil ?_
      refine WC.ret (inBlockQ.ret (thenQ.ret (endQ.one (.inr rfl) ?_)))
      exact ⟨congrArg (Value.int .i64) e.symm, rfl⟩
    · have e := num_eq h0 h1
      refine WC.skip (inBlockQ.normal (thenQ.normal ?_))
      refine WC.seqR rfl ?_
      refine WL.y rfl (Y.assign) ?_
      refine WL.nil ?_
      refine WC.ret (endQ.one (.inr rfl) ?_)
      exact ⟨congrArg (Value.int .i64) e.symm, rfl⟩
end Go.Proofs.YthcppegkpkgnpaaDoor
