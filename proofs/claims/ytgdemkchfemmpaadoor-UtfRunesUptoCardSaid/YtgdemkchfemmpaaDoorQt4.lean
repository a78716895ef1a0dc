/-
  utf: Count, plain: walks.
-/
import Derived.Test.YtgdemkchfemmpaaDoorQt3
namespace Go.Proofs.YtgdemkchfemmpaaDoor
open Go Go.RowKit Go.Cx
set_option linter.unusedVariables false
set_option maxHeartbeats 4000000
theorem KpR.putObj {w0 W : World} {bx l : Nat} {s : List UInt8} {o' : Obj} (h1 : w0.heap.size ≤ l) (h2 : bx < l) : KpR w0 bx s W (W.putObj l o') :=
  ⟨below_putObj (Below.refl _ _) h1, fun h => by unfold Blk; rw [World.putObj_heap_other (by omega)]; exact h⟩
theorem KpR.b {w0 w : World} {bx : Nat} {s : List UInt8} (h1 : w0.heap.size ≤ w.heap.size) (h2 : bx < w.heap.size) : ∀ (W : World) (l : Nat) (o' : Obj), w.heap.size ≤ l → KpR w0 bx s W (W.putObj l o') :=
  fun W l o' hl => KpR.putObj (by omega) (by omega)
theorem KpR.grown {w0 W W' : World} {bx c : Nat} {s : List UInt8} (h : W.grownBy W' (some c)) (h1 : w0.heap.size ≤ c) (h2 : w0.heap.size ≤ W.heap.size) (h3 : bx ≠ c) : KpR w0 bx s W W' :=
  ⟨below_of_grown h h2 (fun k e => by cases e; exact h1), fun x => x.grown h h3⟩
theorem Blk.putObj {w : World} {b D : Nat} {t : TypeId} {vs : List Value} {o : Obj} (h : Blk w b t vs) (hne : b ≠ D) : Blk (w.putObj D o) b t vs := by
  unfold Blk
  rw [World.putObj_heap_other hne]
  exact h
theorem count_ret (w : World) (s : List UInt8) (hT : Tabs w) (hs : s.length ≤ 1152921504606846976) : Ret Tryd.prog 20 [strv s].toArray w fun v w' => v = .int .i64 ((rns s 0).length : Int) ∧ Below w.heap.size w w' := by
  have hlen := rns_len s 0
  refine Ret.ofM (n := 11) (rs := #[.tmp 2]) Tryd.func20 rfl rfl rfl (by simp) ?_
  refine WC.seqR rfl ?_
  refine WL.y rfl (Y.assign) ?_
  refine WL.nil ?_
  refine WC.seqR rfl ?_
  refine WL.eex rfl (E.allocX ti3) ?_
  rintro _ w3 ⟨rfl, hB3, hb3⟩
  refine WL.eex rfl (E.storeX (u := .int .i64 0) ti3 rfl rfl rfl hB3 Nat.one_pos) ?_
  rintro _ w4 ⟨hB4, hg4, -⟩
  refine WL.nil ?_
  refine WC.seq ?_
  refine WC.seqR rfl ?_
  refine WL.y rfl (Y.move) ?_
  refine WL.call rfl (C.func go19) (runesI_ret _ s) ?_
  rintro _ w5 ⟨rfl, hBx, hb5⟩
  refine WL.nil ?_
  refine WC.block ?_
  have l3 := hb3.size
  have l4 := hg4.size
  have l5 := hBx.lt
  have l6 := hB3.lt
  have hb4 : Below w.heap.size w w4 := Below.stepG hb3 hg4 (Nat.le_refl _)
  have hb := Below.step hb4 hb5
  have hB5 : Blk w5 w.heap.size 3 [.int .i64 0] := hB4.bel hb5
  refine WC.rangeFuncN (gf := 35) (lb := [.pointer (some ⟨w4.heap.size, 0, none⟩)]) (ps := [6, 7]) rfl go35 (runes_seq _ s w w5 hT hb hBx hs) (fun h k => h.trans k) (KpR.b (by omega) (by omega)) (Below.refl _ _) (fun _ => rfl) rfl
    (fun pre W => Blk W w.heap.size 3 [.int .i64 (pre.length : Int)] ∧ Below w.heap.size w W) (fun _ _ _ => False)
    ((OwnR.blk (fun pre : List (Nat × Nat) => [.int .i64 (pre.length : Int)])).and (OwnR.below (Nat.le_refl _) (by omega))) (fun _ _ _ _ _ h _ _ => h)
    ⟨hB5, hb⟩ (fun x f => foldSet [6, 7] (encR x) f) ?_ ?_ ?_ ?_
  · intro ll x W
    refine WC.skip ?_
    exact ⟨rfl, rfl, rfl, rfl⟩
  · rintro ll pre x W ⟨hR1, hb1⟩ hN
    refine WC.block ?_
    refine WC.region rfl ?_
    refine WL.y rfl (Y.load1 Tryd.underlying3 rfl rfl (hR1.one)) ?_
    refine WL.y rfl (Y.add64 rfl rfl (by omega)) ?_
    refine WL.eex rfl (E.storeX (u := .int .i64 ((pre.length : Int) + 1)) ti3 rfl rfl rfl hR1 Nat.one_pos) ?_
    rintro _ wA ⟨hRA, hgA, -⟩
    refine WL.nil (inBlockQ.normal ?_)
    have e : (((pre ++ [x]).length : Nat) : Int) = (pre.length : Int) + 1 := by simp
    have hs1 := hb1.size
    exact ⟨keeps_grown hR1 hgA, KpR.grown hgA (Nat.le_refl _) hs1 (by omega), by show Blk _ _ _ [.int .i64 (((pre ++ [x]).length : Nat) : Int)]; rw [e]; exact hRA, Below.stepG hb1 hgA (Nat.le_refl _)⟩
  · rintro D xs W hD rfl ⟨hR2, hb2⟩ hK
    refine (inBlockQ.normal (thenQ.normal ?_))
    refine WC.seqR rfl ?_
    refine WL.y rfl (Y.load1 Tryd.underlying3 rfl rfl (hR2.one)) ?_
    refine WL.y rfl (Y.assign) ?_
    refine WL.nil ?_
    refine WC.ret (endQM.mark1 (.inr rfl) hK ?_)
    exact ⟨rfl, below_putObj hb2 (by omega)⟩
  · rintro D c pre W _ _ h
    exact h.elim
/-- how many bytes, from the front on, are those of runes that stand for themselves -/
def plainN (l : List UInt8) : Nat := if h : (atL l).2 = 0 then 0 else if selfR (atL l).1 then (atL l).2 + plainN (l.drop (atL l).2) else 0
termination_by l.length
decreasing_by (have := atL_le l; rw [List.length_drop]; omega)
theorem plainN_stop {l : List UInt8} (h : (atL l).2 = 0) : plainN l = 0 := by rw [plainN, dif_pos h]
theorem plainN_go {l : List UInt8} (h : (atL l).2 ≠ 0) (h1 : selfR (atL l).1 = true) : plainN l = (atL l).2 + plainN (l.drop (atL l).2) := by rw [plainN, dif_neg h, if_pos h1]
theorem plainN_not {l : List UInt8} (h : (atL l).2 ≠ 0) (h1 : selfR (atL l).1 = false) : plainN l = 0 := by rw [plainN, dif_neg h, if_neg (by rw [h1]; simp)]
theorem plainN_le (l : List UInt8) : plainN l ≤ l.length := by
  induction hn : l.length using Nat.strongRecOn generalizing l with
  | _ n ih =>
    by_cases h : (atL l).2 = 0
    · rw [plainN_stop h]; omega
    · have hle := atL_le l
      cases h1 : selfR (atL l).1 with
      | false => rw [plainN_not h h1]; omega
      | true =>
        have := ih (l.drop (atL l).2).length (by rw [List.length_drop]; omega) _ rfl
        rw [plainN_go h h1]
        rw [List.length_drop] at this
        omega
/-- .. by the runes -/
def endP (i : Nat) (ps : List (Nat × Nat)) : Int := match ps.getLast? with
  | none => i
  | some x => (cA x.1 : Int) + Lib.runeLen (cR x.2 : Int)
theorem plainN_all (l : List UInt8) : ∀ i, i + l.length ≤ 2305843009213693952 → (∀ p ∈ rns l i, selfR (cR p.2) = true) → endP i (rns l i) = ((i + plainN l : Nat) : Int) := by
  induction hn : l.length using Nat.strongRecOn generalizing l with
  | _ n ih =>
    intro i hi hall
    by_cases h : (atL l).2 = 0
    · rw [rns_stop i h, plainN_stop h]; rfl
    · have hle := atL_le l
      have hsh := atL_shape l h
      rw [rns_go i h] at hall ⊢
      have h1 : selfR (atL l).1 = true := by
        have := hall _ (.head _)
        rwa [cR_id hsh.1] at this
      rw [plainN_go h h1]
      have := ih (l.drop (atL l).2).length (by rw [List.length_drop]; omega) _ rfl (i + (atL l).2) (by rw [List.length_drop]; omega) (fun p hp => hall p (.tail _ hp))
      generalize hr : rns (l.drop (atL l).2) (i + (atL l).2) = r at *
      cases r with
      | nil =>
        have e : endP i [(i, (atL l).1)] = (cA i : Int) + Lib.runeLen (cR (atL l).1 : Int) := rfl
        rw [e, cR_id hsh.1, hsh.2.2.2.1]
        have e2 : ((i + (atL l).2 : Nat) : Int) = ((i + (atL l).2 + plainN (l.drop (atL l).2) : Nat) : Int) := this
        have e3 : cA i = i := Nat.min_eq_left (by omega)
        rw [e3]
        omega
      | cons y ys =>
        have e : endP i ((i, (atL l).1) :: y :: ys) = endP (i + (atL l).2) (y :: ys) := by unfold endP; rw [List.getLast?_cons_cons, List.getLast?_cons]
        rw [e, this]
        omega
theorem plainN_cut (l : List UInt8) : ∀ i pre x r, i + l.length ≤ 2305843009213693952 → rns l i = pre ++ x :: r → (∀ p ∈ pre, selfR (cR p.2) = true) → selfR (cR x.2) = false → (cA x.1) = i + plainN l := by
  induction hn : l.length using Nat.strongRecOn generalizing l with
  | _ n ih =>
    intro i pre x r hi he hall hx
    by_cases h : (atL l).2 = 0
    · rw [rns_stop i h] at he; simp at he
    · have hle := atL_le l
      have hsh := atL_shape l h
      rw [rns_go i h] at he
      cases pre with
      | nil =>
        simp only [List.nil_append, List.cons.injEq] at he
        obtain ⟨rfl, _⟩ := he
        rw [cR_id hsh.1] at hx
        rw [plainN_not h hx]
        exact Nat.min_eq_left (by show i ≤ _; omega)
      | cons p ps =>
        simp only [List.cons_append, List.cons.injEq] at he
        obtain ⟨rfl, he⟩ := he
        have h1 := hall _ (.head _)
        rw [cR_id hsh.1] at h1
        rw [plainN_go h h1]
        have := ih (l.drop (atL l).2).length (by rw [List.length_drop]; omega) _ rfl (i + (atL l).2) ps x r (by rw [List.length_drop]; omega) he (fun p hp => hall p (.tail _ hp)) hx
        omega
theorem runeLen_le (r : Nat) : -1 ≤ Lib.runeLen (r : Int) ∧ Lib.runeLen (r : Int) ≤ 4 := by
  unfold Lib.runeLen
  repeat' split
  all_goals omega
theorem runeLen_ret (w : World) (r : Nat) : Ret Tryd.prog 42 [.int .i32 (r : Int)].toArray w fun v w' => v = .int .i64 (Lib.runeLen (r : Int)) ∧ w = w' := by
  refine Calls.mono (Any.utf8_RuneLen Tryd.laysLen (r : Int) w) ?_
  rintro x w' ⟨rfl, rfl⟩
  exact ⟨_, rfl, rfl, rfl⟩
theorem plain_ret (w : World) (s : List UInt8) (hT : Tabs w) (hs : s.length ≤ 1152921504606846976) : Ret Tryd.prog 32 [strv s].toArray w fun v w' => v = .int .i64 (plainN s : Int) ∧ Below w.heap.size w w' := by
  have hlen := rns_len s 0
  refine Ret.ofM (n := 19) (rs := #[.cell 2 3]) Tryd.func32 rfl rfl rfl (by simp) ?_
  refine WC.seqR rfl ?_
  refine WL.eex rfl (E.allocX ti3) ?_
  rintro _ w2 ⟨rfl, hB2, hb2⟩
  refine WL.nil ?_
  refine WC.seqR rfl ?_
  refine WL.eex rfl (E.allocX ti3) ?_
  rintro _ w3 ⟨rfl, hB3, hb3⟩
  refine WL.eex rfl (E.storeX (u := .int .i64 0) ti3 rfl rfl rfl hB3 Nat.one_pos) ?_
  rintro _ w4 ⟨hB4, hg4, -⟩
  refine WL.nil ?_
  refine WC.seq ?_
  refine WC.seqR rfl ?_
  refine WL.y rfl (Y.move) ?_
  refine WL.call rfl (C.func go19) (runesI_ret _ s) ?_
  rintro _ w5 ⟨rfl, hBx, hb5⟩
  refine WL.nil ?_
  refine WC.block ?_
  have l2 := hb2.size
  have l3 := hb3.size
  have l4 := hg4.size
  have l5 := hBx.lt
  have l6 := hB3.lt
  have l7 := hB2.lt
  have hb4 : Below w.heap.size w w4 := Below.stepG (Below.step hb2 hb3) hg4 (by omega)
  have hb := Below.step hb4 hb5
  have hB5 : Blk w5 w2.heap.size 3 [.int .i64 0] := hB4.bel hb5
  have hB25 : Blk w5 w.heap.size 3 [.int .i64 0] := ((hB2.bel hb3).grown hg4 (by omega)).bel hb5
  refine WC.rangeFuncN (gf := 35) (lb := [.pointer (some ⟨w4.heap.size, 0, none⟩)]) (ps := [8, 9]) rfl go35 (runes_seq _ s w w5 hT hb hBx hs) (fun h k => h.trans k) (KpR.b (by omega) (by omega)) (Below.refl _ _) (fun _ => rfl) rfl
    (fun pre W => (Blk W w2.heap.size 3 [.int .i64 (endP 0 pre)] ∧ Blk W w.heap.size 3 [.int .i64 0]) ∧ (Below w.heap.size w W ∧ ∀ p ∈ pre, selfR (cR p.2) = true))
    (fun c pre W => (Below w.heap.size w W ∧ c = .ret ∧ ∃ pre0 x, pre = pre0 ++ [x] ∧ (∀ p ∈ pre0, selfR (cR p.2) = true) ∧ selfR (cR x.2) = false ∧ Blk W w.heap.size 3 [.int .i64 (cA x.1 : Int)])) ?_ ?_
    ⟨⟨hB5, hB25⟩, hb, fun p h => by cases h⟩ (fun x f => upd (upd (foldSet [8, 9] (encR x) f) 4 (.int .i64 (cA x.1 : Int))) 5 (.int .i32 (cR x.2 : Int))) ?_ ?_ ?_ ?_
  · exact ((OwnR.blk (fun pre : List (Nat × Nat) => [.int .i64 (endP 0 pre)])).and (OwnR.blk (fun _ => [.int .i64 0]))).and ((OwnR.below (Nat.le_refl _) (by omega)).and OwnR.pure)
  · rintro c _ W W' row ⟨h1, rfl, pre0, x, rfl, h3, h4, h5⟩ hg hr
    exact ⟨OwnR.below (β := Unit) (Nat.le_refl _) (by omega) () W W' row h1 hg hr, rfl, pre0, x, rfl, h3, h4, not_rec h5 rfl hg hr⟩
  · intro ll x W
    refine WC.seqR rfl ?_
    refine WL.y rfl (Y.assign) ?_
    refine WL.nil ?_
    refine WC.region rfl ?_
    refine WL.y rfl (Y.assign) ?_
    refine WL.nil ?_
    exact ⟨rfl, rfl, rfl, rfl⟩
  · rintro ll pre x W ⟨⟨hR1, hR2⟩, hb1, hall⟩ hN
    have hs1 := hb1.size
    have hr := (cR_ok x.2).1
    have hrl := runeLen_le (cR x.2)
    have hca : cA x.1 ≤ 2305843009213693952 := Nat.min_le_right _ _
    refine WC.block ?_
    refine WC.seq ?_
    refine WC.seqR rfl ?_
    refine WL.y rfl (Y.move) ?_
    refine WL.call rfl (C.func go24) (self_ret _ (cR x.2) (by omega)) ?_
    rintro _ _ ⟨rfl, rfl⟩
    refine WL.y rfl (Y.not rfl) ?_
    refine WL.nil ?_
    refine WC.cond rfl (fun h1 => ?_) (fun h1 => ?_)
    · have h1' : selfR (cR x.2) = false := by simpa using h1
      refine WC.seqR rfl ?_
      refine WL.y rfl (Y.move) ?_
      refine WL.eex rfl (E.storeX (u := .int .i64 (cA x.1 : Int)) ti3 rfl rfl rfl hR2 Nat.one_pos) ?_
      rintro _ wA ⟨hRA, hgA, -⟩
      refine WL.nil ?_
      refine WC.ret (thenQ.ret (inBlockQ.ret ?_))
      exact ⟨keeps_grown hR2 hgA, Below.stepG hb1 hgA (Nat.le_refl _), rfl, pre, x, rfl, hall, h1', hRA⟩
    · have h1' : selfR (cR x.2) = true := by simpa using h1
      refine WC.skip (thenQ.normal ?_)
      refine WC.region rfl ?_
      refine WL.y rfl (Y.move) ?_
      refine WL.y rfl (Y.move) ?_
      refine WL.call rfl (C.func go42) (runeLen_ret _ (cR x.2)) ?_
      rintro _ _ ⟨rfl, rfl⟩
      refine WL.y rfl (Y.add64 rfl rfl (by omega)) ?_
      refine WL.eex rfl (E.storeX (u := .int .i64 ((cA x.1 : Int) + Lib.runeLen (cR x.2 : Int))) ti3 rfl rfl rfl hR1 Nat.one_pos) ?_
      rintro _ wA ⟨hRA, hgA, -⟩
      refine WL.nil (inBlockQ.normal ?_)
      have e : endP 0 (pre ++ [x]) = (cA x.1 : Int) + Lib.runeLen (cR x.2 : Int) := by unfold endP; rw [List.getLast?_concat]
      refine ⟨keeps_grown hR1 hgA, KpR.grown hgA (by omega) hs1 (by omega), ⟨by show Blk _ _ _ [.int .i64 (endP 0 (pre ++ [x]))]; rw [e]; exact hRA, hR2.grown hgA (by omega)⟩, Below.stepG hb1 hgA (by omega), fun p hp => ?_⟩
      rcases List.mem_append.1 hp with hp | hp
      · exact hall p hp
      · obtain rfl := List.mem_singleton.1 hp
        exact h1'
  · rintro D xs W hD rfl ⟨⟨hR1, hR2⟩, hb2, hall⟩ hK
    have hend := plainN_all s 0 (by omega) hall
    rw [Nat.zero_add] at hend
    rw [hend] at hR1
    have hs2 := hb2.size
    have hne : w.heap.size ≠ D := by omega
    refine (inBlockQ.normal (thenQ.normal ?_))
    refine WC.seqR rfl ?_
    refine WL.y rfl (Y.load1 Tryd.underlying3 rfl rfl (hR1.one)) ?_
    refine WL.eex rfl (E.storeX (u := .int .i64 (plainN s : Int)) ti3 rfl rfl rfl hR2 Nat.one_pos) ?_
    rintro _ wA ⟨hRA, hgA, -⟩
    refine WL.nil ?_
    refine WC.ret ?_
    have hKA : wA.heap[D]? = some (.deferred (some [])) := (hgA.block D (Array.getElem?_eq_some_iff.1 hK).1 (fun e => hne (Option.some.inj e).symm)).trans hK
    exact endQM.markC Tryd.underlying3 rfl (.inr rfl) hKA rfl (Blk.putObj hRA hne).one ⟨rfl, below_putObj (Below.stepG hb2 hgA (Nat.le_refl _)) (by omega)⟩
  · rintro D c pre W hD ⟨rest, hpre⟩ ⟨hb2, rfl, pre0, x, rfl, h3, h4, h5⟩ hK
    have hcut := plainN_cut s 0 pre0 x rest (by omega) (by rw [hpre, List.append_assoc]; rfl) h3 h4
    rw [Nat.zero_add] at hcut
    rw [hcut] at h5
    have hs2 := hb2.size
    have hne : w.heap.size ≠ D := by omega
    refine WC.ret (inBlockQ.ret (thenQ.ret ?_))
    exact endQM.markC Tryd.underlying3 rfl (.inr rfl) hK rfl (Blk.putObj h5 hne).one ⟨rfl, below_putObj hb2 (by omega)⟩
end Go.Proofs.YtgdemkchfemmpaaDoor
