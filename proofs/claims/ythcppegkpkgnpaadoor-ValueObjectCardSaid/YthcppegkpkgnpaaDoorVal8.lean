/-
  value: odd: walk; unicode/utf8's tables.
-/
import Derived.Test.YthcppegkpkgnpaaDoorVal7
import Derived.Test.YthcppegkpkgnpaaDoorUtf1
import Derived.Shelf.Unicode.ValidAny
namespace Go.Proofs.YthcppegkpkgnpaaDoor
open Go Go.RowKit Go.Cx
set_option linter.unusedVariables false
set_option maxHeartbeats 4000000
/-- unicode/utf8's tables hold what they are laid to hold -/
def Tabs (w : World) : Prop := Go.Lib.Utf8Tabs (Tryd.laysValid_ren.g 3) (Tryd.laysValid_ren.g 4) w
theorem Tabs.bel {w w' : World} (h : Tabs w) (hb : Below w.heap.size w w') : Tabs w' := Utf8Tabs_below h hb
theorem validString_ret (w : World) (s : List UInt8) (hs : s.length ≤ 2305843009213693952) (hT : Tabs w) :
    Ret Tryd.prog 80 [strv s].toArray w fun v w' => v = .bool (Lib.validD s) ∧ Below w.heap.size w w' := by
  refine Calls.mono (Any.utf8_ValidString Tryd.laysValid ⟨s.toArray⟩ w (by rw [ba_size]; omega) hT) ?_
  rintro e w' ⟨rfl, hb⟩
  exact ⟨_, rfl, by simp, hb⟩
theorem uvalid_ret (w : World) (s : List UInt8) (hs : s.length ≤ 2305843009213693952) (hT : Tabs w) :
    Ret Tryd.prog 54 [strv s].toArray w fun v w' => v = .bool (Lib.validD s) ∧ Below w.heap.size w w' := by
  refine Ret.of (n := 5) (rs := #[.tmp 2]) Tryd.func54 rfl rfl rfl (by simp) ?_
  refine WC.seqR rfl ?_
  refine WL.y rfl (Y.assign) ?_
  refine WL.nil ?_
  refine WC.seqR rfl ?_
  refine WL.y rfl (Y.move) ?_
  refine WL.call rfl (C.func go80) (validString_ret _ s hs hT) ?_
  rintro _ w4 ⟨rfl, hb4⟩
  refine WL.y rfl (Y.assign) ?_
  refine WL.nil ?_
  refine WC.ret (endQ.one (.inr rfl) ?_)
  exact ⟨rfl, hb4⟩
/-- is a value's kind one, and has it nothing that this does not name? -/
def bareV (v : V) : Bool := decide ((1 ≤ v.k ∧ v.k ≤ 6) ∧ (v.k = 2 ∨ v.b = false) ∧ (v.k = 3 ∨ v.i = 0) ∧ (v.k = 4 ∨ v.t.length = 0) ∧ (v.k = 5 ∨ v.l.length = 0) ∧ (v.k = 6 ∨ v.vs.length = 0))
theorem vat_parts {w : World} {v : V} {c : List Value} (h : VAt w v c) : ∃ lv ov, LAt w v.l lv ∧ MAt w v.ks v.vs ov ∧ VOk v ∧ c = vcell v lv ov := by
  cases h with
  | mk ok h1 h2 hs h3 h4 ho => exact ⟨_, _, ⟨_, h1, hs, h2⟩, ⟨_, h3, ok.ks, ho, h4⟩, ok, rfl⟩
theorem odd_ret (v : V) (w : World) (c : List Value) (hv : VAt w v c) : Ret Tryd.prog 53 [.agg c.toArray].toArray w fun r w' => r = .bool (!bareV v) ∧ Below w.heap.size w w' := by
  have hqq := vat_parts hv
  obtain ⟨lv, ov, ⟨lc, -, hs, -⟩, ⟨oc, -, -, ho, -⟩, ok, rfl⟩ := hqq
  have ql := ok.l
  have qo := ok.o
  refine Ret.of (n := 46) (rs := #[.tmp 2]) Tryd.func53 rfl rfl rfl (by simp) ?_
  refine WC.seqR rfl ?_
  refine WL.eex rfl (E.boxX) ?_
  rintro _ w1 ⟨rfl, hB1, hb1⟩
  refine WL.y rfl (Y.assign) ?_
  refine WL.nil ?_
  refine WC.seq ?_
  refine WC.seqR rfl ?_
  refine WL.y rfl (Y.fieldAddr fi26f0 ti23 (by decide) rfl (rfl) _) ?_
  refine WL.y rfl (Y.load1 Tryd.underlying23 rfl rfl ((show Blk _ _ _ (vcell v lv ov) from hB1).cell 0)) ?_
  refine WL.nil ?_
  have hB : Blk w1 w.heap.size 26 (vcell v lv ov) := hB1
  clear hB1
  refine WC.cut (fun f ds w' => ds = [] ∧ Below w.heap.size w w' ∧ ∃ b i t lv' ov' nl no cl co J, Blk w' w.heap.size 26 [.int .i64 v.k, .bool b, .int .i64 i, strv t, lv', ov'] ∧ SlK w' 6 lv' nl cl ∧ SlK w' 7 ov' no co ∧ bareV v = decide (b = false ∧ i = 0 ∧ t.length = 0 ∧ nl = 0 ∧ no = 0) ∧ (nl ≤ 1599289640354 ∧ no ≤ 1599289640354) ∧ f = Go.Cx.ov J [(1, .pointer (some ⟨w.heap.size, 0, none⟩))]) ?_ ?_
  · refine WC.block ?_
    refine WC.seqR rfl ?_
    refine WL.y rfl (Y.eqi rfl rfl) ?_
    refine WL.y rfl (Y.assign) ?_
    refine WL.nil ?_
    refine WC.condD rfl (fun k1 => ?_) (fun k1 => ?_)
    · have hbr : bareV v = decide (v.b = false ∧ v.i = 0 ∧ v.t.length = 0 ∧ v.l.length = 0 ∧ v.vs.length = 0) := by unfold bareV; rw [k1]; simp
      refine WC.skip (inBlockQ.normal (thenQ.normal ?_))
      exact ⟨rfl, hb1, v.b, v.i, v.t, lv, ov, _, _, _, _, _, hB, hs.bel hb1, ho.bel hb1, hbr, ⟨by omega, by omega⟩, ov_mk ⟨rfl, trivial⟩⟩
    · refine WC.seqR rfl ?_
      refine WL.y rfl (Y.eqi rfl rfl) ?_
      refine WL.y rfl (Y.assign) ?_
      refine WL.nil ?_
      refine WC.condD rfl (fun k2 => ?_) (fun k2 => ?_)
      · have hbr : bareV v = decide (false = false ∧ v.i = 0 ∧ v.t.length = 0 ∧ v.l.length = 0 ∧ v.vs.length = 0) := by unfold bareV; rw [k2]; simp
        refine WC.region rfl ?_
        refine WL.y rfl (Y.fieldAddr fi26f1 ti4 (by decide) rfl (rfl) _) ?_
        refine WL.eex rfl (E.storeX (u := .bool false) ti4 rfl rfl rfl hB (by simp [vcell])) ?_
        rintro _ wA ⟨hA, hgA, -⟩
        refine WL.nil (inBlockQ.normal (thenQ.normal ?_))
        have bA : Below w.heap.size w wA := Below.stepG hb1 hgA (Nat.le_refl _)
        exact ⟨rfl, bA, false, v.i, v.t, lv, ov, _, _, _, _, _, hA, hs.bel bA, ho.bel bA, hbr, ⟨by omega, by omega⟩, ov_mk ⟨rfl, trivial⟩⟩
      · refine WC.seqR rfl ?_
        refine WL.y rfl (Y.eqi rfl rfl) ?_
        refine WL.y rfl (Y.assign) ?_
        refine WL.nil ?_
        refine WC.condD rfl (fun k3 => ?_) (fun k3 => ?_)
        · have hbr : bareV v = decide (v.b = false ∧ (0 : Int) = 0 ∧ v.t.length = 0 ∧ v.l.length = 0 ∧ v.vs.length = 0) := by unfold bareV; rw [k3]; simp
          refine WC.region rfl ?_
          refine WL.y rfl (Y.fieldAddr fi26f2 ti2 (by decide) rfl (rfl) _) ?_
          refine WL.eex rfl (E.storeX (u := .int .i64 0) ti2 rfl rfl rfl hB (by simp [vcell])) ?_
          rintro _ wA ⟨hA, hgA, -⟩
          refine WL.nil (inBlockQ.normal (thenQ.normal ?_))
          have bA : Below w.heap.size w wA := Below.stepG hb1 hgA (Nat.le_refl _)
          exact ⟨rfl, bA, v.b, 0, v.t, lv, ov, _, _, _, _, _, hA, hs.bel bA, ho.bel bA, hbr, ⟨by omega, by omega⟩, ov_mk ⟨rfl, trivial⟩⟩
        · refine WC.seqR rfl ?_
          refine WL.y rfl (Y.eqi rfl rfl) ?_
          refine WL.y rfl (Y.assign) ?_
          refine WL.nil ?_
          refine WC.condD rfl (fun k4 => ?_) (fun k4 => ?_)
          · have hbr : bareV v = decide (v.b = false ∧ v.i = 0 ∧ ([] : List UInt8).length = 0 ∧ v.l.length = 0 ∧ v.vs.length = 0) := by unfold bareV; rw [k4]; simp
            refine WC.region rfl ?_
            refine WL.y rfl (Y.fieldAddr fi26f3 ti9 (by decide) rfl (rfl) _) ?_
            refine WL.eex rfl (E.storeX (u := strv []) ti9 rfl rfl rfl hB (by simp [vcell])) ?_
            rintro _ wA ⟨hA, hgA, -⟩
            refine WL.nil (inBlockQ.normal (thenQ.normal ?_))
            have bA : Below w.heap.size w wA := Below.stepG hb1 hgA (Nat.le_refl _)
            exact ⟨rfl, bA, v.b, v.i, [], lv, ov, _, _, _, _, _, hA, hs.bel bA, ho.bel bA, hbr, ⟨by omega, by omega⟩, ov_mk ⟨rfl, trivial⟩⟩
          · refine WC.seqR rfl ?_
            refine WL.y rfl (Y.eqi rfl rfl) ?_
            refine WL.y rfl (Y.assign) ?_
            refine WL.nil ?_
            refine WC.condD rfl (fun k5 => ?_) (fun k5 => ?_)
            · have hbr : bareV v = decide (v.b = false ∧ v.i = 0 ∧ v.t.length = 0 ∧ 0 = 0 ∧ v.vs.length = 0) := by unfold bareV; rw [k5]; simp
              refine WC.region rfl ?_
              refine WL.y rfl (Y.fieldAddr fi26f4 ti24 (by decide) rfl (rfl) _) ?_
              refine WL.eex rfl (E.storeX (u := .slice none 0 0) ti24 rfl rfl rfl hB (by simp [vcell])) ?_
              rintro _ wA ⟨hA, hgA, -⟩
              refine WL.nil (inBlockQ.normal (thenQ.normal ?_))
              have bA : Below w.heap.size w wA := Below.stepG hb1 hgA (Nat.le_refl _)
              exact ⟨rfl, bA, v.b, v.i, v.t, .slice none 0 0, ov, 0, _, _, _, _, hA, SlK.nil, ho.bel bA, hbr, ⟨by omega, by omega⟩, ov_mk ⟨rfl, trivial⟩⟩
            · refine WC.seqR rfl ?_
              refine WL.y rfl (Y.eqi rfl rfl) ?_
              refine WL.y rfl (Y.assign) ?_
              refine WL.nil ?_
              refine WC.condD rfl (fun k6 => ?_) (fun k6 => ?_)
              · have hbr : bareV v = decide (v.b = false ∧ v.i = 0 ∧ v.t.length = 0 ∧ v.l.length = 0 ∧ 0 = 0) := by unfold bareV; rw [k6]; simp
                refine WC.region rfl ?_
                refine WL.y rfl (Y.fieldAddr fi26f5 ti22 (by decide) rfl (rfl) _) ?_
                refine WL.eex rfl (E.storeX (u := .slice none 0 0) ti22 rfl rfl rfl hB (by simp [vcell])) ?_
                rintro _ wA ⟨hA, hgA, -⟩
                refine WL.nil (inBlockQ.normal (thenQ.normal ?_))
                have bA : Below w.heap.size w wA := Below.stepG hb1 hgA (Nat.le_refl _)
                exact ⟨rfl, bA, v.b, v.i, v.t, lv, .slice none 0 0, _, 0, _, _, _, hA, hs.bel bA, SlK.nil, hbr, ⟨by omega, by omega⟩, ov_mk ⟨rfl, trivial⟩⟩
              · have e : bareV v = false := decide_eq_false (by omega)
                refine WC.seqR rfl ?_
                refine WL.y rfl (Y.assign) ?_
                refine WL.nil ?_
                refine WC.ret (inBlockQ.ret (thenQ.ret (endQ.one (.inr rfl) ?_)))
                exact ⟨by rw [e]; rfl, hb1⟩
  · rintro _ _ w2 ⟨rfl, hb2, b, i, t, lv', ov', nl, no, cl, co, J, hB2, hs2, ho2, hbare, ⟨n1, n2⟩, rfl⟩
    cases b with
    | true =>
      have e : bareV v = false := by rw [hbare]; simp
      refine WC.seqR rfl ?_
      refine WL.y rfl (Y.fieldAddr fi26f1 ti4 (by decide) rfl (rfl) _) ?_
      refine WL.y rfl (Y.load1 Tryd.underlying4 rfl rfl (hB2.cell 1)) ?_
      refine WL.y rfl (Y.move) ?_
      refine WL.off rfl ?_
      refine WL.off rfl ?_
      refine WL.off rfl ?_
      refine WL.y rfl (Y.pickT rfl) ?_
      refine WL.y rfl (Y.move) ?_
      refine WL.off rfl ?_
      refine WL.off rfl ?_
      refine WL.off rfl ?_
      refine WL.y rfl (Y.pickT rfl) ?_
      refine WL.y rfl (Y.move) ?_
      refine WL.off rfl ?_
      refine WL.off rfl ?_
      refine WL.off rfl ?_
      refine WL.off rfl ?_
      refine WL.y rfl (Y.pickT rfl) ?_
      refine WL.y rfl (Y.move) ?_
      refine WL.off rfl ?_
      refine WL.off rfl ?_
      refine WL.off rfl ?_
      refine WL.off rfl ?_
      refine WL.y rfl (Y.pickT rfl) ?_
      refine WL.y rfl (Y.assign) ?_
      refine WL.nil ?_
      refine WC.ret (endQ.one (.inr rfl) ?_)
      exact ⟨by rw [e]; rfl, hb2⟩
    | false =>
      by_cases c1 : i = 0
      · by_cases c2 : t.length = 0
        · have c2' : t = [] := List.length_eq_zero_iff.mp c2
          by_cases c3 : nl = 0
          · by_cases c4 : no = 0
            · have e : bareV v = true := by rw [hbare]; simp [c1, c2', c3, c4]
              refine WC.seqR rfl ?_
              refine WL.y rfl (Y.fieldAddr fi26f1 ti4 (by decide) rfl (rfl) _) ?_
              refine WL.y rfl (Y.load1 Tryd.underlying4 rfl rfl (hB2.cell 1)) ?_
              refine WL.y rfl (Y.move) ?_
              refine WL.y rfl (Y.fieldAddr fi26f2 ti2 (by decide) rfl (rfl) _) ?_
              refine WL.y rfl (Y.load1 Tryd.underlying2 rfl rfl (hB2.cell 2)) ?_
              refine WL.y rfl (Y.dF (Y.nei rfl rfl) (by omega)) ?_
              refine WL.y rfl (Y.pickF rfl) ?_
              refine WL.y rfl (Y.move) ?_
              refine WL.y rfl (Y.fieldAddr fi26f3 ti9 (by decide) rfl (rfl) _) ?_
              refine WL.y rfl (Y.load1 Tryd.underlying9 rfl rfl (hB2.cell 3)) ?_
              refine WL.y rfl (Y.bF (Y.neS (b := []) rfl rfl) (by rw [c2']; rfl)) ?_
              refine WL.y rfl (Y.pickF rfl) ?_
              refine WL.y rfl (Y.move) ?_
              refine WL.y rfl (Y.fieldAddr fi26f4 ti24 (by decide) rfl (rfl) _) ?_
              refine WL.y rfl (Y.load1 Tryd.underlying24 rfl rfl (hB2.cell 4)) ?_
              refine WL.y rfl (Y.lenSl Tryd.underlying24 (hs2) _) ?_
              refine WL.y rfl (Y.dF (Y.gtr rfl rfl) (by omega)) ?_
              refine WL.y rfl (Y.pickF rfl) ?_
              refine WL.y rfl (Y.move) ?_
              refine WL.y rfl (Y.fieldAddr fi26f5 ti22 (by decide) rfl (rfl) _) ?_
              refine WL.y rfl (Y.load1 Tryd.underlying22 rfl rfl (hB2.cell 5)) ?_
              refine WL.y rfl (Y.lenSl Tryd.underlying22 (ho2) _) ?_
              refine WL.y rfl (Y.dF (Y.gtr rfl rfl) (by omega)) ?_
              refine WL.y rfl (Y.pickF rfl) ?_
              refine WL.y rfl (Y.assign) ?_
              refine WL.nil ?_
              refine WC.ret (endQ.one (.inr rfl) ?_)
              exact ⟨by rw [e]; rfl, hb2⟩
            · have e : bareV v = false := by rw [hbare]; simp [c4]
              refine WC.seqR rfl ?_
              refine WL.y rfl (Y.fieldAddr fi26f1 ti4 (by decide) rfl (rfl) _) ?_
              refine WL.y rfl (Y.load1 Tryd.underlying4 rfl rfl (hB2.cell 1)) ?_
              refine WL.y rfl (Y.move) ?_
              refine WL.y rfl (Y.fieldAddr fi26f2 ti2 (by decide) rfl (rfl) _) ?_
              refine WL.y rfl (Y.load1 Tryd.underlying2 rfl rfl (hB2.cell 2)) ?_
              refine WL.y rfl (Y.dF (Y.nei rfl rfl) (by omega)) ?_
              refine WL.y rfl (Y.pickF rfl) ?_
              refine WL.y rfl (Y.move) ?_
              refine WL.y rfl (Y.fieldAddr fi26f3 ti9 (by decide) rfl (rfl) _) ?_
              refine WL.y rfl (Y.load1 Tryd.underlying9 rfl rfl (hB2.cell 3)) ?_
              refine WL.y rfl (Y.bF (Y.neS (b := []) rfl rfl) (by rw [c2']; rfl)) ?_
              refine WL.y rfl (Y.pickF rfl) ?_
              refine WL.y rfl (Y.move) ?_
              refine WL.y rfl (Y.fieldAddr fi26f4 ti24 (by decide) rfl (rfl) _) ?_
              refine WL.y rfl (Y.load1 Tryd.underlying24 rfl rfl (hB2.cell 4)) ?_
              refine WL.y rfl (Y.lenSl Tryd.underlying24 (hs2) _) ?_
              refine WL.y rfl (Y.dF (Y.gtr rfl rfl) (by omega)) ?_
              refine WL.y rfl (Y.pickF rfl) ?_
              refine WL.y rfl (Y.move) ?_
              refine WL.y rfl (Y.fieldAddr fi26f5 ti22 (by decide) rfl (rfl) _) ?_
              refine WL.y rfl (Y.load1 Tryd.underlying22 rfl rfl (hB2.cell 5)) ?_
              refine WL.y rfl (Y.lenSl Tryd.underlying22 (ho2) _) ?_
              refine WL.y rfl (Y.dT (Y.gtr rfl rfl) (by omega)) ?_
              refine WL.y rfl (Y.pickF rfl) ?_
              refine WL.y rfl (Y.assign) ?_
              refine WL.nil ?_
              refine WC.ret (endQ.one (.inr rfl) ?_)
              exact ⟨by rw [e]; rfl, hb2⟩
          · have e : bareV v = false := by rw [hbare]; simp [c3]
            refine WC.seqR rfl ?_
            refine WL.y rfl (Y.fieldAddr fi26f1 ti4 (by decide) rfl (rfl) _) ?_
            refine WL.y rfl (Y.load1 Tryd.underlying4 rfl rfl (hB2.cell 1)) ?_
            refine WL.y rfl (Y.move) ?_
            refine WL.y rfl (Y.fieldAddr fi26f2 ti2 (by decide) rfl (rfl) _) ?_
            refine WL.y rfl (Y.load1 Tryd.underlying2 rfl rfl (hB2.cell 2)) ?_
            refine WL.y rfl (Y.dF (Y.nei rfl rfl) (by omega)) ?_
            refine WL.y rfl (Y.pickF rfl) ?_
            refine WL.y rfl (Y.move) ?_
            refine WL.y rfl (Y.fieldAddr fi26f3 ti9 (by decide) rfl (rfl) _) ?_
            refine WL.y rfl (Y.load1 Tryd.underlying9 rfl rfl (hB2.cell 3)) ?_
            refine WL.y rfl (Y.bF (Y.neS (b := []) rfl rfl) (by rw [c2']; rfl)) ?_
            refine WL.y rfl (Y.pickF rfl) ?_
            refine WL.y rfl (Y.move) ?_
            refine WL.y rfl (Y.fieldAddr fi26f4 ti24 (by decide) rfl (rfl) _) ?_
            refine WL.y rfl (Y.load1 Tryd.underlying24 rfl rfl (hB2.cell 4)) ?_
            refine WL.y rfl (Y.lenSl Tryd.underlying24 (hs2) _) ?_
            refine WL.y rfl (Y.dT (Y.gtr rfl rfl) (by omega)) ?_
            refine WL.y rfl (Y.pickF rfl) ?_
            refine WL.y rfl (Y.move) ?_
            refine WL.off rfl ?_
            refine WL.off rfl ?_
            refine WL.off rfl ?_
            refine WL.off rfl ?_
            refine WL.y rfl (Y.pickT rfl) ?_
            refine WL.y rfl (Y.assign) ?_
            refine WL.nil ?_
            refine WC.ret (endQ.one (.inr rfl) ?_)
            exact ⟨by rw [e]; rfl, hb2⟩
        · have e : bareV v = false := by rw [hbare]; simp; intro _ h; exact absurd (congrArg List.length h) c2
          have c2' : t ≠ [] := fun h => c2 (by rw [h]; rfl)
          refine WC.seqR rfl ?_
          refine WL.y rfl (Y.fieldAddr fi26f1 ti4 (by decide) rfl (rfl) _) ?_
          refine WL.y rfl (Y.load1 Tryd.underlying4 rfl rfl (hB2.cell 1)) ?_
          refine WL.y rfl (Y.move) ?_
          refine WL.y rfl (Y.fieldAddr fi26f2 ti2 (by decide) rfl (rfl) _) ?_
          refine WL.y rfl (Y.load1 Tryd.underlying2 rfl rfl (hB2.cell 2)) ?_
          refine WL.y rfl (Y.dF (Y.nei rfl rfl) (by omega)) ?_
          refine WL.y rfl (Y.pickF rfl) ?_
          refine WL.y rfl (Y.move) ?_
          refine WL.y rfl (Y.fieldAddr fi26f3 ti9 (by decide) rfl (rfl) _) ?_
          refine WL.y rfl (Y.load1 Tryd.underlying9 rfl rfl (hB2.cell 3)) ?_
          refine WL.y rfl (Y.bT (Y.neS (b := []) rfl rfl) (by simpa using c2')) ?_
          refine WL.y rfl (Y.pickF rfl) ?_
          refine WL.y rfl (Y.move) ?_
          refine WL.off rfl ?_
          refine WL.off rfl ?_
          refine WL.off rfl ?_
          refine WL.off rfl ?_
          refine WL.y rfl (Y.pickT rfl) ?_
          refine WL.y rfl (Y.move) ?_
          refine WL.off rfl ?_
          refine WL.off rfl ?_
          refine WL.off rfl ?_
          refine WL.off rfl ?_
          refine WL.y rfl (Y.pickT rfl) ?_
          refine WL.y rfl (Y.assign) ?_
          refine WL.nil ?_
          refine WC.ret (endQ.one (.inr rfl) ?_)
          exact ⟨by rw [e]; rfl, hb2⟩
      · have e : bareV v = false := by rw [hbare]; simp [c1]
        refine WC.seqR rfl ?_
        refine WL.y rfl (Y.fieldAddr fi26f1 ti4 (by decide) rfl (rfl) _) ?_
        refine WL.y rfl (Y.load1 Tryd.underlying4 rfl rfl (hB2.cell 1)) ?_
        refine WL.y rfl (Y.move) ?_
        refine WL.y rfl (Y.fieldAddr fi26f2 ti2 (by decide) rfl (rfl) _) ?_
        refine WL.y rfl (Y.load1 Tryd.underlying2 rfl rfl (hB2.cell 2)) ?_
        refine WL.y rfl (Y.dT (Y.nei rfl rfl) (by omega)) ?_
        refine WL.y rfl (Y.pickF rfl) ?_
        refine WL.y rfl (Y.move) ?_
        refine WL.off rfl ?_
        refine WL.off rfl ?_
        refine WL.off rfl ?_
        refine WL.y rfl (Y.pickT rfl) ?_
        refine WL.y rfl (Y.move) ?_
        refine WL.off rfl ?_
        refine WL.off rfl ?_
        refine WL.off rfl ?_
        refine WL.off rfl ?_
        refine WL.y rfl (Y.pickT rfl) ?_
        refine WL.y rfl (Y.move) ?_
        refine WL.off rfl ?_
        refine WL.off rfl ?_
        refine WL.off rfl ?_
        refine WL.off rfl ?_
        refine WL.y rfl (Y.pickT rfl) ?_
        refine WL.y rfl (Y.assign) ?_
        refine WL.nil ?_
        refine WC.ret (endQ.one (.inr rfl) ?_)
        exact ⟨by rw [e]; rfl, hb2⟩
end Go.Proofs.YthcppegkpkgnpaaDoor
