/-
  law: runes.
-/
import Derived.Test.YtgdemkchfemmpaaDoorQt12
import Derived.Test.YtgdemkchfemmpaaDoorQt10
import Derived.Test.YtgdemkchfemmpaaDoorBase17
namespace Go.Proofs.YtgdemkchfemmpaaDoor
open Go Go.RowKit Go.Cx
set_option linter.unusedVariables false
set_option maxHeartbeats 8000000
theorem utfRunes_ret (w : World) (s : List UInt8) (hs : s.length ≤ 1048576) (few : Int) (hf : (Lit.int .i64 few).wf = true) (hT : Tabs w) :
    Ret Tryd.prog 8 [strv s, .int .i64 few].toArray w fun v w' => v = .bool true ∧ Below w.heap.size w w' := by
  have hlen := rns_len s 0
  have hok := rns_ok s 0
  have hfew := rng64 hf
  refine Ret.ofM2 (n := 68) (rs := #[.cell 4 4]) Tryd.func8 rfl rfl rfl (by simp) ?_
  refine WC.seqR rfl ?_
  refine WL.eex rfl (E.boxX) ?_
  rintro _ w3 ⟨rfl, hB3, hb3⟩
  refine WL.eex rfl (E.allocX ti4) ?_
  rintro _ w4 ⟨rfl, hB4, hb4⟩
  refine WL.nil ?_
  refine WC.seqR rfl ?_
  refine WL.y rfl (Y.move) ?_
  refine WL.call rfl (C.func go18) (rrunes_ret _ s (by omega)) ?_
  rintro _ wR ⟨⟨lv, av, rfl, hlv, hav⟩, hbR⟩
  refine WL.y rfl (Y.move) ?_
  refine WL.y rfl (Y.extract rfl rfl) ?_
  refine WL.y rfl (Y.extract rfl rfl) ?_
  refine WL.eex rfl (E.allocX ti38) ?_
  rintro _ w5 ⟨rfl, hB5, hb5⟩
  refine WL.eex rfl (E.allocX ti38) ?_
  rintro _ w6 ⟨rfl, hB6, hb6⟩
  refine WL.eex rfl (E.storeX (u := lv) ti38 rfl rfl hlv.one (hB5.bel hb6) Nat.one_pos) ?_
  rintro _ w5s ⟨hB5s, hg5s, -⟩
  have hB6s := hB6.grown hg5s (by have := hB5.lt; omega)
  refine WL.eex rfl (E.storeX (u := av) ti38 rfl rfl hav.one hB6s Nat.one_pos) ?_
  rintro _ w6s ⟨hB6t, hg6s, -⟩
  refine WL.nil ?_
  refine WC.seqR rfl ?_
  refine WL.y rfl (Y.move) ?_
  refine WL.call rfl (C.func go19) (runesI_ret _ s) ?_
  rintro _ w17 ⟨rfl, hBx, hb17⟩
  refine WL.y rfl (Y.assign) ?_
  refine WL.nil ?_
  refine WC.seq ?_
  refine WC.seqR rfl ?_
  refine WL.y rfl (Y.move) ?_
  refine WL.y rfl (Y.eqFnNil Tryd.underlying42 rfl rfl) ?_
  refine WL.nil ?_
  refine WC.condF (rfl) ?_
  refine WC.skip (thenQ.normal ?_)
  refine WC.seqR rfl ?_
  refine WL.eex rfl (E.allocX ti3) ?_
  rintro _ w8 ⟨rfl, hB8, hb8⟩
  refine WL.eex rfl (E.storeX (u := .int .i64 0) ti3 rfl rfl rfl hB8 Nat.one_pos) ?_
  rintro _ w8s ⟨hB8s, hg8s, -⟩
  refine WL.nil ?_
  refine WC.seq ?_
  refine WC.seqR rfl ?_
  refine WL.y rfl (Y.move) ?_
  refine WL.nil ?_
  have l3 := hb3.size
  have l4 := hb4.size
  have lR := hbR.size
  have l5 := hb5.size
  have l6 := hb6.size
  have l5s := hg5s.size
  have l6s := hg6s.size
  have l17 := hb17.size
  have l8 := hb8.size
  have l8s := hg8s.size
  have p3 := hB3.lt
  have p4 := hB4.lt
  have p5 := hB5.lt
  have p6 := hB6.lt
  have px := hBx.lt
  have p8 := hB8.lt
  have hbw : Below w.heap.size w wR := Below.step (Below.step hb3 hb4) hbR
  have q6 : Below wR.heap.size wR w6s := Below.stepG (Below.stepG (Below.step hb5 hb6) hg5s (Nat.le_refl _)) hg6s (by omega)
  have q8 : Below wR.heap.size wR w8s := Below.stepG (Below.step (Below.step q6 hb17) hb8) hg8s (by omega)
  have hc3R : Blk wR w.heap.size 3 [.int .i64 few] := (hB3.bel hb4).bel hbR
  have hc4R : Blk wR w3.heap.size 4 [.bool false] := hB4.bel hbR
  have hc3 : Blk w8s w.heap.size 3 [.int .i64 few] := (((hB3.bel hb4).bel hbR).belB q8 (by omega))
  have hc4 : Blk w8s w3.heap.size 4 [.bool false] := (hB4.bel hbR).belB q8 (by omega)
  have hc5 : Blk w8s wR.heap.size 38 [lv] := (((hB5s.grown hg6s (by omega)).bel hb17).bel hb8).grown hg8s (by omega)
  have hc6 : Blk w8s w5.heap.size 38 [av] := ((hB6t.bel hb17).bel hb8).grown hg8s (by omega)
  have hcx : Blk w8s w6s.heap.size 9 [strv s] := (hBx.bel hb8).grown hg8s (by omega)
  have hc8 : Blk w8s w17.heap.size 3 [.int .i64 0] := hB8s
  have hR3 : w.heap.size < wR.heap.size := by omega
  have hR4 : w3.heap.size < wR.heap.size := by omega
  clear hB3 hB4 hB5 hB6 hB5s hB6s hB6t hBx hB8 hB8s hb3 hb4 hbR hb5 hb6 hg5s hg6s hb17 hb8 hg8s
  generalize w6s.heap.size = bx at *
  generalize w17.heap.size = c8 at *
  generalize w5.heap.size = c6 at *
  generalize w3.heap.size = c4 at *
  have hc3w : ∀ {W : World}, Below wR.heap.size wR W → Blk W w.heap.size 3 [.int .i64 few] := fun h => hc3R.belB h hR3
  have hkeep : ∀ {W W' : World}, Below wR.heap.size wR W → W.grownBy W' (some c8) → Below wR.heap.size wR W' := fun h k => Below.stepG h k (by omega)
  refine WC.cut (fun f ds w' => ∃ D1 J n, ds = [mk D1] ∧ c8 < D1 ∧ bx < D1 ∧ c6 < D1 ∧ D1 < w'.heap.size ∧ w'.heap[D1]? = some (.deferred (some [])) ∧ Below wR.heap.size wR w' ∧ Blk w' wR.heap.size 38 [lv] ∧ Blk w' c6 38 [av] ∧ Blk w' bx 9 [strv s] ∧ Blk w' c8 3 [.int .i64 n] ∧
    f = ov J [(0, strv s), (4, .pointer (some ⟨c4, 0, none⟩)), (5, .pointer (some ⟨wR.heap.size, 0, none⟩)), (6, .pointer (some ⟨c6, 0, none⟩)), (7, .func (.func 35) #[] #[.pointer (some ⟨bx, 0, none⟩)]), (8, .pointer (some ⟨c8, 0, none⟩))]) ?_ ?_
  · refine WC.block ?_
    refine WC.rangeFuncN (gf := 35) (lb := [.pointer (some ⟨bx, 0, none⟩)]) (ps := [21, 22]) rfl go35 (runes_seq bx s w w8s hT (hbw.trans (q8.mono (by omega))) hcx (by omega)) (fun h k => h.trans k) (KpR.b (by omega) (by omega)) (Below.refl _ _) (fun _ => rfl) rfl
      (fun pre W => (Blk W c8 3 [.int .i64 (pre.length : Int)] ∧ Below wR.heap.size wR W) ∧ ((Blk W wR.heap.size 38 [lv] ∧ Blk W c6 38 [av]) ∧ Blk W bx 9 [strv s]))
      (fun c pre W => (Blk W c8 3 [.int .i64 ((pre.length : Int) - 1)] ∧ Below wR.heap.size wR W) ∧ ((Blk W wR.heap.size 38 [lv] ∧ Blk W c6 38 [av]) ∧ (Blk W bx 9 [strv s] ∧ c = .exit 0)))
      (((OwnR.blk (fun pre : List (Nat × Nat) => [.int .i64 (pre.length : Int)])).and (OwnR.below (Nat.le_refl _) (by omega))).and (((OwnR.blk (fun _ => [lv])).and (OwnR.blk (fun _ => [av]))).and (OwnR.blk (fun _ => [strv s]))))
      (fun c => ((OwnR.blk (fun pre : List (Nat × Nat) => [.int .i64 ((pre.length : Int) - 1)])).and (OwnR.below (Nat.le_refl _) (by omega))).and (((OwnR.blk (fun _ => [lv])).and (OwnR.blk (fun _ => [av]))).and ((OwnR.blk (fun _ => [strv s])).and OwnR.pure)))
      ⟨⟨hc8, q8⟩, ⟨hc5, hc6⟩, hcx⟩ (fun x f => foldSet [21, 22] (encR x) f) ?_ ?_ ?_ ?_
    · intro ll x W
      refine WC.skip ?_
      exact ⟨rfl, rfl, rfl, rfl⟩
    · rintro ll pre x W ⟨⟨h8, hbW⟩, ⟨h5, h6⟩, hx⟩ hN
      have hsW := hbW.size
      refine WC.block ?_
      refine WC.seq ?_
      refine WC.seqR rfl ?_
      refine WL.y rfl (Y.load1 Tryd.underlying3 rfl rfl (h8.one)) ?_
      refine WL.y rfl (Y.load1 Tryd.underlying3 rfl rfl ((hc3w hbW).one)) ?_
      refine WL.y rfl (Y.eqi rfl rfl) ?_
      refine WL.nil ?_
      refine WC.condD rfl (fun hbk => ?_) (fun hbk => ?_)
      · refine WC.exit (thenQ.exit (inBlockQ.miss rfl ?_))
        exact ⟨keeps_below (Below.refl _ _), ⟨by show Blk _ _ _ [.int .i64 (((pre ++ [x]).length : Nat) - 1 : Int)]; rw [List.length_append, List.length_singleton]; simpa using h8, hbW⟩, ⟨h5, h6⟩, hx, rfl⟩
      · refine WC.skip (thenQ.normal ?_)
        refine WC.region rfl ?_
        refine WL.y rfl (Y.load1 Tryd.underlying3 rfl rfl (h8.one)) ?_
        refine WL.y rfl (Y.add64 rfl rfl (by omega)) ?_
        refine WL.eex rfl (E.storeX (u := .int .i64 ((pre.length : Int) + 1)) ti3 rfl rfl rfl h8 Nat.one_pos) ?_
        rintro _ wA ⟨hA, hgA, -⟩
        refine WL.nil (inBlockQ.normal ?_)
        have e : (((pre ++ [x]).length : Nat) : Int) = (pre.length : Int) + 1 := by simp
        exact ⟨keeps_grown h8 hgA, KpR.grown hgA (by omega) (by omega) (by omega), ⟨by show Blk _ _ _ [.int .i64 (((pre ++ [x]).length : Nat) : Int)]; rw [e]; exact hA, hkeep hbW hgA⟩, ⟨h5.grown hgA (by omega), h6.grown hgA (by omega)⟩, hx.grown hgA (by omega)⟩
    · rintro D xs W hD rfl ⟨⟨h8, hbW⟩, ⟨h5, h6⟩, hx⟩ hK
      refine (inBlockQ.normal (thenQ.normal ?_))
      exact ⟨D, _, _, rfl, by omega, by omega, by omega, (Array.getElem?_eq_some_iff.1 hK).1, hK, hbW, h5, h6, hx, h8, ov_mk ⟨rfl, rfl, rfl, rfl, rfl, rfl, trivial⟩⟩
    · rintro D c pre W hD _ ⟨⟨h8, hbW⟩, ⟨h5, h6⟩, hx, rfl⟩ hK
      refine WC.exit (inBlockQ.hit (thenQ.normal ?_))
      exact ⟨D, _, _, rfl, by omega, by omega, by omega, (Array.getElem?_eq_some_iff.1 hK).1, hK, hbW, h5, h6, hx, h8, ov_mk ⟨rfl, rfl, rfl, rfl, rfl, rfl, trivial⟩⟩
  · rintro _ _ W0 ⟨D1, J, n0, rfl, d8, dx, d6, dS, hK1, hb0, h50, h60, hx0, h80, rfl⟩
    have hs0 := hb0.size
    refine WC.seqR rfl ?_
    refine WL.eex rfl (E.storeX (u := .int .i64 0) ti3 rfl rfl rfl h80 Nat.one_pos) ?_
    rintro _ W1 ⟨h81, hg1, -⟩
    refine WL.nil ?_
    refine WC.seq ?_
    refine WC.seqR rfl ?_
    refine WL.y rfl (Y.move) ?_
    refine WL.nil ?_
    refine WC.block ?_
    have hb1 : Below wR.heap.size wR W1 := hkeep hb0 hg1
    have hs1 := hg1.size
    have h51 := h50.grown hg1 (by omega)
    have h61 := h60.grown hg1 (by omega)
    have hx1 := hx0.grown hg1 (by omega)
    have hK11 : W1.heap[D1]? = some (.deferred (some [])) := (hg1.block D1 dS (fun e => by have := Option.some.inj e; omega)).trans hK1
    refine WC.rangeFuncN (gf := 35) (lb := [.pointer (some ⟨bx, 0, none⟩)]) (ps := [29, 30]) rfl go35 (runes_seq bx s w W1 hT (hbw.trans (hb1.mono (by omega))) hx1 (by omega)) (fun h k => h.trans k) (KpR.b (by omega) (by omega)) (Below.refl _ _) (fun _ => rfl) rfl
      (fun pre W => (Blk W c8 3 [.int .i64 (pre.length : Int)] ∧ Below wR.heap.size wR W) ∧ ((Blk W wR.heap.size 38 [lv] ∧ Blk W c6 38 [av]) ∧ (Blk W bx 9 [strv s] ∧ W.heap[D1]? = some (.deferred (some [])))))
      (fun c pre W => c = .ret ∧ ¬ ∃ r, rns s 0 = pre ++ r)
      (((OwnR.blk (fun pre : List (Nat × Nat) => [.int .i64 (pre.length : Int)])).and (OwnR.below (Nat.le_refl _) (by omega))).and (((OwnR.blk (fun _ => [lv])).and (OwnR.blk (fun _ => [av]))).and ((OwnR.blk (fun _ => [strv s])).and (OwnR.low (by omega)))))
      (fun c => OwnR.pure)
      ⟨⟨h81, hb1⟩, ⟨h51, h61⟩, hx1, hK11⟩ (fun x f => upd (upd (foldSet [29, 30] (encR x) f) 9 (.int .i64 (cA x.1 : Int))) 10 (.int .i32 (cR x.2 : Int))) ?_ ?_ ?_ ?_
    · intro ll x W
      refine WC.seqR rfl ?_
      refine WL.y rfl (Y.assign) ?_
      refine WL.nil ?_
      refine WC.region rfl ?_
      refine WL.y rfl (Y.assign) ?_
      refine WL.nil ?_
      exact ⟨rfl, rfl, rfl, rfl⟩
    · rintro ll pre x W ⟨⟨h8, hbW⟩, ⟨h5, h6⟩, hx, hKW⟩ hN
      have hsW := hbW.size
      have hlW := hlv.bel hbW
      have haW := hav.bel hbW
      have hcr := (cR_ok x.2).1
      have hp : ∃ p, (rns s 0)[pre.length]? = some p := ⟨_, List.getElem?_eq_getElem hN⟩
      obtain ⟨p, hp⟩ := hp
      have hok1 := hok p (List.mem_of_getElem? hp)
      have hcl : ((rns s 0).map fun p => i64v p.2)[((pre.length : Nat) : Int).toNat]? = some (i64v p.2) := by rw [Int.toNat_natCast, List.getElem?_map, hp]; rfl
      have hca : ((rns s 0).map fun p => i64v p.1)[((pre.length : Nat) : Int).toNat]? = some (i64v p.1) := by rw [Int.toNat_natCast, List.getElem?_map, hp]; rfl
      have hpx : (∃ r, rns s 0 = (pre ++ [x]) ++ r) → cA x.1 = p.1 ∧ cR x.2 = p.2 := by
        rintro ⟨r, hr⟩
        have : x = p := by
          rw [hr, List.append_assoc, List.getElem?_append_right (Nat.le_refl _), Nat.sub_self] at hp
          exact Option.some.inj hp
        subst this
        refine ⟨?_, cR_id hok1.2.2⟩
        unfold cA
        exact Nat.min_eq_left (by omega)
      have e : (((pre ++ [x]).length : Nat) : Int) = (pre.length : Int) + 1 := by simp
      have hpl : pre.length < 2305843009213693952 := by omega
      by_cases q1 : cA x.1 = p.1
      · by_cases q2 : cR x.2 = p.2
        · refine WC.block ?_
          refine WC.seq ?_
          refine WC.seqR rfl ?_
          refine WL.y rfl (Y.load1 Tryd.underlying3 rfl rfl (h8.one)) ?_
          refine WL.y rfl (Y.load1 Tryd.underlying38 rfl rfl (h5.one)) ?_
          refine WL.y rfl (Y.lenSl Tryd.underlying38 (hlW) _) ?_
          refine WL.y rfl (Y.dF (Y.geq rfl rfl) (by omega)) ?_
          refine WL.y rfl (Y.move) ?_
          refine WL.y rfl (Y.move) ?_
          refine WL.y rfl (Y.load1 Tryd.underlying38 rfl rfl (h6.one)) ?_
          refine WL.y rfl (Y.load1 Tryd.underlying3 rfl rfl (h8.one)) ?_
          refine WL.yex rfl (Y.idx1 Tryd.underlying38 ti3 haW rfl (by omega) (by omega)) ?_
          rintro _ ⟨p39, rfl, hp39⟩
          refine WL.y rfl (Y.load1 Tryd.underlying3 rfl rfl (hp39.trans hca)) ?_
          refine WL.y rfl (Y.dF (Y.nei rfl rfl) (fun h => h (congrArg (fun x : Nat => (x : Int)) q1))) ?_
          refine WL.y rfl (Y.pickF rfl) ?_
          refine WL.y rfl (Y.move) ?_
          refine WL.y rfl (Y.move) ?_
          refine WL.y rfl (Y.conviR Tryd.underlying21 Tryd.underlying3 rfl (by simp only [IntKind.min, IntKind.max, IntKind.signed, IntKind.bits]; omega)) ?_
          refine WL.y rfl (Y.load1 Tryd.underlying38 rfl rfl (h5.one)) ?_
          refine WL.y rfl (Y.load1 Tryd.underlying3 rfl rfl (h8.one)) ?_
          refine WL.yex rfl (Y.idx1 Tryd.underlying38 ti3 hlW rfl (by omega) (by omega)) ?_
          rintro _ ⟨p48, rfl, hp48⟩
          refine WL.y rfl (Y.load1 Tryd.underlying3 rfl rfl (hp48.trans hcl)) ?_
          refine WL.y rfl (Y.dF (Y.nei rfl rfl) (fun h => h (congrArg (fun x : Nat => (x : Int)) q2))) ?_
          refine WL.y rfl (Y.pickF rfl) ?_
          refine WL.nil ?_
          refine WC.condF (rfl) ?_
          refine WC.skip (thenQ.normal ?_)
          refine WC.region rfl ?_
          refine WL.y rfl (Y.load1 Tryd.underlying3 rfl rfl (h8.one)) ?_
          refine WL.y rfl (Y.add64 rfl rfl (by omega)) ?_
          refine WL.eex rfl (E.storeX (u := .int .i64 ((pre.length : Int) + 1)) ti3 rfl rfl rfl h8 Nat.one_pos) ?_
          rintro _ wA ⟨hA, hgA, -⟩
          refine WL.nil (inBlockQ.normal ?_)
          have hD : wA.heap[D1]? = some (.deferred (some [])) := (hgA.block D1 (Array.getElem?_eq_some_iff.1 hKW).1 (fun e => by have := Option.some.inj e; omega)).trans hKW
          exact ⟨keeps_grown h8 hgA, KpR.grown hgA (by omega) (by omega) (by omega), ⟨by show Blk _ _ _ [.int .i64 (((pre ++ [x]).length : Nat) : Int)]; rw [e]; exact hA, hkeep hbW hgA⟩, ⟨h5.grown hgA (by omega), h6.grown hgA (by omega)⟩, hx.grown hgA (by omega), hD⟩
        · have hc4W := hc4R.belB hbW hR4
          refine WC.block ?_
          refine WC.seq ?_
          refine WC.seqR rfl ?_
          refine WL.y rfl (Y.load1 Tryd.underlying3 rfl rfl (h8.one)) ?_
          refine WL.y rfl (Y.load1 Tryd.underlying38 rfl rfl (h5.one)) ?_
          refine WL.y rfl (Y.lenSl Tryd.underlying38 (hlW) _) ?_
          refine WL.y rfl (Y.dF (Y.geq rfl rfl) (by omega)) ?_
          refine WL.y rfl (Y.move) ?_
          refine WL.y rfl (Y.move) ?_
          refine WL.y rfl (Y.load1 Tryd.underlying38 rfl rfl (h6.one)) ?_
          refine WL.y rfl (Y.load1 Tryd.underlying3 rfl rfl (h8.one)) ?_
          refine WL.yex rfl (Y.idx1 Tryd.underlying38 ti3 haW rfl (by omega) (by omega)) ?_
          rintro _ ⟨p39, rfl, hp39⟩
          refine WL.y rfl (Y.load1 Tryd.underlying3 rfl rfl (hp39.trans hca)) ?_
          refine WL.y rfl (Y.dF (Y.nei rfl rfl) (fun h => h (congrArg (fun x : Nat => (x : Int)) q1))) ?_
          refine WL.y rfl (Y.pickF rfl) ?_
          refine WL.y rfl (Y.move) ?_
          refine WL.y rfl (Y.move) ?_
          refine WL.y rfl (Y.conviR Tryd.underlying21 Tryd.underlying3 rfl (by simp only [IntKind.min, IntKind.max, IntKind.signed, IntKind.bits]; omega)) ?_
          refine WL.y rfl (Y.load1 Tryd.underlying38 rfl rfl (h5.one)) ?_
          refine WL.y rfl (Y.load1 Tryd.underlying3 rfl rfl (h8.one)) ?_
          refine WL.yex rfl (Y.idx1 Tryd.underlying38 ti3 hlW rfl (by omega) (by omega)) ?_
          rintro _ ⟨p48, rfl, hp48⟩
          refine WL.y rfl (Y.load1 Tryd.underlying3 rfl rfl (hp48.trans hcl)) ?_
          refine WL.y rfl (Y.dT (Y.nei rfl rfl) (fun h => q2 (Int.ofNat_inj.mp h))) ?_
          refine WL.y rfl (Y.pickF rfl) ?_
          refine WL.nil ?_
          refine WC.condT (rfl) ?_
          refine WC.seqR rfl ?_
          refine WL.eex rfl (E.storeX (u := .bool false) ti4 rfl rfl rfl hc4W Nat.one_pos) ?_
          rintro _ wA ⟨hA, hgA, -⟩
          refine WL.nil ?_
          refine WC.ret (thenQ.ret (inBlockQ.ret ?_))
          exact ⟨keeps_grown hc4W hgA, rfl, fun h => q2 (hpx h).2⟩
      · have hc4W := hc4R.belB hbW hR4
        refine WC.block ?_
        refine WC.seq ?_
        refine WC.seqR rfl ?_
        refine WL.y rfl (Y.load1 Tryd.underlying3 rfl rfl (h8.one)) ?_
        refine WL.y rfl (Y.load1 Tryd.underlying38 rfl rfl (h5.one)) ?_
        refine WL.y rfl (Y.lenSl Tryd.underlying38 (hlW) _) ?_
        refine WL.y rfl (Y.dF (Y.geq rfl rfl) (by omega)) ?_
        refine WL.y rfl (Y.move) ?_
        refine WL.y rfl (Y.move) ?_
        refine WL.y rfl (Y.load1 Tryd.underlying38 rfl rfl (h6.one)) ?_
        refine WL.y rfl (Y.load1 Tryd.underlying3 rfl rfl (h8.one)) ?_
        refine WL.yex rfl (Y.idx1 Tryd.underlying38 ti3 haW rfl (by omega) (by omega)) ?_
        rintro _ ⟨p39, rfl, hp39⟩
        refine WL.y rfl (Y.load1 Tryd.underlying3 rfl rfl (hp39.trans hca)) ?_
        refine WL.y rfl (Y.dT (Y.nei rfl rfl) (fun h => q1 (Int.ofNat_inj.mp h))) ?_
        refine WL.y rfl (Y.pickF rfl) ?_
        refine WL.y rfl (Y.move) ?_
        refine WL.off rfl ?_
        refine WL.off rfl ?_
        refine WL.off rfl ?_
        refine WL.off rfl ?_
        refine WL.off rfl ?_
        refine WL.off rfl ?_
        refine WL.off rfl ?_
        refine WL.y rfl (Y.pickT rfl) ?_
        refine WL.nil ?_
        refine WC.condT (rfl) ?_
        refine WC.seqR rfl ?_
        refine WL.eex rfl (E.storeX (u := .bool false) ti4 rfl rfl rfl hc4W Nat.one_pos) ?_
        rintro _ wA ⟨hA, hgA, -⟩
        refine WL.nil ?_
        refine WC.ret (thenQ.ret (inBlockQ.ret ?_))
        exact ⟨keeps_grown hc4W hgA, rfl, fun h => q1 (hpx h).1⟩
    · rintro D xs W hD rfl ⟨⟨h8, hbW⟩, ⟨h5, h6⟩, hx, hKW⟩ hK
      have hsW := hbW.size
      have hlW := hlv.bel hbW
      have hc4W := hc4R.belB hbW hR4
      have hDl := (Array.getElem?_eq_some_iff.1 hK).1
      have hD1l := (Array.getElem?_eq_some_iff.1 hKW).1
      have kW : Below w.heap.size w W := hbw.trans (hbW.mono (by omega))
      have hl4 := hc4W.lt
      refine (inBlockQ.normal (thenQ.normal ?_))
      refine WC.seq ?_
      refine WC.regionB (fun i => Nat.beq i 12 || Nat.beq i 14) [(0, .held), (1, .held), (2, .any), (3, .any), (4, .any), (5, .any), (7, .held), (8, .any), (6, .seq), (9, .any), (10, .any), (11, .any), (12, .seq), (13, .any), (14, .seq)] mixed (by kernel_rfl) (fun w16 hS16 hheap => ?_)
      refine RL.held rfl rfl hS16 (fun _ hb9 => Y.load1 Tryd.underlying3 rfl rfl (cell_bel h8.one hb9)) ?_
      refine RL.held rfl rfl hS16 (fun _ hb9 => Y.load1 Tryd.underlying38 rfl rfl (cell_bel h5.one hb9)) ?_
      refine RL.any rfl rfl (fun _ => Y.lenSl Tryd.underlying38 (hlW) _) ?_
      refine RL.any rfl rfl (fun _ => Y.dT (Y.eqi rfl rfl) (rfl)) ?_
      refine RL.any rfl rfl (fun _ => Y.move) ?_
      refine RL.any rfl rfl (fun _ => Y.move) ?_
      refine RL.held rfl rfl hS16 (fun _ hb9 => Y.load1 Tryd.underlying38 rfl rfl (cell_bel h5.one hb9)) ?_
      refine RL.any rfl rfl (fun _ => Y.lenSl Tryd.underlying38 (hlW) _) ?_
      refine RL.call rfl rfl (C.func go20) (count_ret _ s (hT.bel (Below.step kW hS16)) (by omega)) ?_
      rintro _ w60 ⟨rfl, hb60⟩
      refine ⟨.inr (fun h => Below.step h hb60), ?_⟩
      refine RL.any rfl rfl (fun _ => Y.dT (Y.eqi rfl rfl) (rfl)) ?_
      refine RL.any rfl rfl (fun _ => Y.pickT rfl) ?_
      refine RL.any rfl rfl (fun _ => Y.move) ?_
      refine RL.call rfl rfl (C.func go11) (known_ret _ (hT.bel (Below.step (Below.step kW hS16) hb60))) ?_
      rintro _ w66 ⟨rfl, hb66⟩
      refine ⟨.inl rfl, ?_⟩
      refine RL.any rfl rfl (fun _ => Y.pickT rfl) ?_
      refine RL.eex rfl rfl (E.storeX (u := .bool true) ti4 rfl rfl rfl (((hc4W.bel hS16).bel hb60).bel hb66) Nat.one_pos) ?_ ?_
      · exact fun _ _ _ => .inl rfl
      rintro _ wA ⟨hA, hgA, -⟩
      refine RL.nil (thenQ.normal ?_)
      refine WC.ret ?_
      have s16 := hS16.size
      have s60 := hb60.size
      have s66 := hb66.size
      have hf9 : ∀ {k : Nat} {o : Obj}, W.heap[k]? = some o → k ≠ c4 → wA.heap[k]? = some o := by
        intro k o hk hne
        have hkl := (Array.getElem?_eq_some_iff.1 hk).1
        have e1 := hS16.block k hkl
        have e2 := hb60.block k (by omega)
        have e3 := hb66.block k (by omega)
        have e4 := hgA.block k (by omega) (fun e => hne (Option.some.inj e))
        rw [e4, e3, e2, e1, hk]
      have k66 : Below w.heap.size w w66 := Below.step (Below.step (Below.step kW hS16) hb60) hb66
      have kA : Below w.heap.size w wA := Below.stepG k66 hgA (by omega)
      have hA' : Blk wA c4 4 [.bool true] := hA
      exact endQM2.markC Tryd.underlying4 rfl (.inr rfl) (hf9 hK (by omega)) ((World.putObj_heap_other (by omega)).trans (hf9 hKW (by omega))) rfl (Blk.putObj (Blk.putObj hA' (by omega)) (by omega)).one ⟨rfl, below_putObj (below_putObj kA (by omega)) (by omega)⟩
    · rintro D c pre W hD hSp ⟨rfl, hn⟩ hK
      exact absurd hSp hn
end Go.Proofs.YtgdemkchfemmpaaDoor
