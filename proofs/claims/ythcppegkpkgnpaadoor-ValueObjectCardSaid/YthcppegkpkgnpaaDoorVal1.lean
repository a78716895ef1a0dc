/-
  value: Size, Deep: walks.
-/
import Derived.Test.YthcppegkpkgnpaaDoorVal0
import Derived.Test.YthcppegkpkgnpaaDoorFacts
namespace Go.Proofs.YthcppegkpkgnpaaDoor
open Go Go.RowKit Go.Cx
set_option linter.unusedVariables false
set_option maxHeartbeats 4000000
def wr (z : Int) : Int := IntKind.i64.wrap z
mutual
/-- how many values -/
def sizeV : V → Int
  | .mk k _ _ _ l _ vs => if k = 5 then sumL 1 l else if k = 6 then sumL 1 vs else 1
def sumL : Int → List V → Int
  | a, [] => a
  | a, x :: xs => sumL (wr (a + sizeV x)) xs
end
mutual
/-- how deep -/
def deepV : V → Int
  | .mk k _ _ _ l _ vs => wr (1 + (if k = 5 then maxL 0 l else if k = 6 then maxL 0 vs else 0))
def maxL : Int → List V → Int
  | a, [] => a
  | a, x :: xs => maxL (max a (deepV x)) xs
end
theorem sizeV_eq (v : V) : sizeV v = if v.k = 5 then sumL 1 v.l else if v.k = 6 then sumL 1 v.vs else 1 := by cases v; rw [sizeV]; rfl
theorem deepV_eq (v : V) : deepV v = wr (1 + (if v.k = 5 then maxL 0 v.l else if v.k = 6 then maxL 0 v.vs else 0)) := by cases v; rw [deepV]; rfl
theorem sumL_step (a : Int) (l : List V) (j : Nat) (h : j < l.length) : sumL a (l.drop j) = sumL (wr (a + sizeV l[j])) (l.drop (j + 1)) := by rw [List.drop_eq_getElem_cons h, sumL]
theorem maxL_step (a : Int) (l : List V) (j : Nat) (h : j < l.length) : maxL a (l.drop j) = maxL (max a (deepV l[j])) (l.drop (j + 1)) := by rw [List.drop_eq_getElem_cons h, maxL]
theorem size_ret (v : V) : ∀ (w : World) (c : List Value), VAt w v c → Ret Tryd.prog 22 [.agg c.toArray].toArray w fun r w' => r = .int .i64 (sizeV v) ∧ Below w.heap.size w w' := by
  induction v using V.ind with
  | h v ih1 ih2 =>
    intro w c hv
    have hse := sizeV_eq v
    cases hv with
    | @mk _ lv ov lc oc ok h1 h2 hs h3 h4 ho =>
    have hol := ok.l
    have hoo := ok.o
    refine Ret.of (n := 40) (rs := #[.tmp 2]) Tryd.func22 rfl rfl rfl (by simp) ?_
    refine WC.seqR rfl ?_
    refine WL.eex rfl (E.boxX) ?_
    rintro _ w1 ⟨rfl, hB1, hb1⟩
    refine WL.y rfl (Y.assign) ?_
    refine WL.nil ?_
    refine WC.seqR rfl ?_
    refine WL.y rfl (Y.assign) ?_
    refine WL.nil ?_
    refine WC.seq ?_
    refine WC.seqR rfl ?_
    refine WL.y rfl (Y.fieldAddr fi26f0 ti23 (by decide) rfl (rfl) _) ?_
    refine WL.y rfl (Y.load1 Tryd.underlying23 rfl rfl ((show Blk _ _ _ (vcell v lv ov) from hB1).cell 0)) ?_
    refine WL.nil ?_
    have hB : Blk w1 w.heap.size 26 (vcell v lv ov) := hB1
    clear hB1
    by_cases k5 : v.k = 5
    · rw [if_pos k5] at hse
      refine WC.block ?_
      refine WC.seqR rfl ?_
      refine WL.y rfl (Y.dT (Y.eqi rfl rfl) (by omega)) ?_
      refine WL.y rfl (Y.assign) ?_
      refine WL.nil ?_
      refine WC.condT (rfl) ?_
      refine WC.seqR rfl ?_
      refine WL.y rfl (Y.fieldAddr fi26f4 ti24 (by decide) rfl (rfl) _) ?_
      refine WL.y rfl (Y.load1 Tryd.underlying24 rfl rfl (hB.cell 4)) ?_
      refine WL.y rfl (Y.lenSl Tryd.underlying24 (hs.bel hb1) _) ?_
      refine WL.y rfl (Y.move) ?_
      refine WL.nil ?_
      refine WC.block ?_
      refine WC.loop (fun j => v.l.length - j) (fun j f ds w' => j ≤ v.l.length ∧ ds = [] ∧ Below w.heap.size w w' ∧ ∃ a J, sumL a (v.l.drop j) = sumL 1 v.l ∧ f = Go.Cx.ov J [(3, .int .i64 a), (13, lv), (14, .int .i64 (v.l.length : Int)), (15, .int .i64 (j : Int))]) 0 ?_ ?_
      · exact ⟨by omega, rfl, hb1, 1, _, rfl, ov_mk ⟨rfl, rfl, rfl, rfl, trivial⟩⟩
      · rintro j _ _ w2 ⟨hj, rfl, hb2, a, J, ha, rfl⟩
        refine WC.seqR rfl ?_
        refine WL.y rfl (Y.lss rfl rfl) ?_
        refine WL.nil ?_
        refine WC.seq ?_
        refine WC.condD rfl (fun h0 => ?_) (fun h0 => ?_)
        · have hjl : j < v.l.length := by omega
          have hjc : j < lc.length := by omega
          have hst := sumL_step a v.l j hjl
          refine WC.skip (thenQ.normal ?_)
          refine WC.seq ?_
          refine WC.block ?_
          refine WC.seqR rfl ?_
          refine WL.yex rfl (Y.idx Tryd.underlying24 ti26 (by decide) (hs.bel hb2) rfl (by omega) (by omega)) ?_
          rintro _ ⟨b17, o17, rfl, hc17⟩
          refine WL.y rfl (Y.loadK Tryd.underlying26 rfl ti26 (lc[j].h) rfl (elem_cells hjc hc17)) ?_
          refine WL.eex rfl (E.allocX ti26) ?_
          rintro _ w5 ⟨rfl, hB5, hb5⟩
          refine WL.eex rfl (E.storeAllK (us := lc[j].c) ti26 lc[j].h rfl rfl (h2 j hjl hjc).one hB5 rfl) ?_
          rintro _ w5s ⟨hB5', hg5⟩
          have b5 : Below w2.heap.size w2 w5s := Below.stepG hb5 hg5 (Nat.le_refl _)
          have hv5 := ((h2 j hjl hjc).bel hb2).bel b5
          refine WL.nil ?_
          refine WC.region rfl ?_
          refine WL.y rfl (Y.move) ?_
          refine WL.y rfl (Y.loadK Tryd.underlying26 rfl ti26 (lc[j].h) rfl (hB5'.cells)) ?_
          refine WL.call rfl (C.func go22) (ih1 _ (List.getElem_mem hjl) _ _ hv5) ?_
          rintro _ w21 ⟨rfl, hb21⟩
          refine WL.y rfl (Y.add rfl rfl) ?_
          refine WL.y rfl (Y.assign) ?_
          refine WL.nil (inBlockQ.normal (thenQ.normal ?_))
          refine WC.region rfl ?_
          refine WL.y rfl (Y.add64 rfl rfl (by omega)) ?_
          refine WL.y rfl (Y.move) ?_
          refine WL.nil (thenQ.normal ?_)
          exact ⟨j + 1, by omega, by omega, rfl, Below.step (Below.step hb2 b5) hb21, _, _, by rw [← ha, hst]; rfl, ov_mk ⟨rfl, rfl, rfl, rfl, trivial⟩⟩
        · have hje : j = v.l.length := by omega
          subst hje
          rw [List.drop_length, sumL] at ha
          have e : Value.int .i64 a = .int .i64 (sizeV v) := by rw [hse, ha]
          refine WC.exit (thenQ.exit (thenQ.exit (inBlockQ.hit (inBlockQ.normal (thenQ.normal ?_)))))
          refine WC.seqR rfl ?_
          refine WL.y rfl (Y.move) ?_
          refine WL.y rfl (Y.assign) ?_
          refine WL.nil ?_
          refine WC.ret (endQ.one (.inr rfl) ?_)
          exact ⟨e, hb2⟩
    · rw [if_neg k5] at hse
      by_cases k6 : v.k = 6
      · rw [if_pos k6] at hse
        have hok := ok.ks
        refine WC.block ?_
        refine WC.seqR rfl ?_
        refine WL.y rfl (Y.dF (Y.eqi rfl rfl) (by omega)) ?_
        refine WL.y rfl (Y.assign) ?_
        refine WL.nil ?_
        refine WC.condF (rfl) ?_
        refine WC.seqR rfl ?_
        refine WL.y rfl (Y.dT (Y.eqi rfl rfl) (by omega)) ?_
        refine WL.y rfl (Y.assign) ?_
        refine WL.nil ?_
        refine WC.condT (rfl) ?_
        refine WC.seqR rfl ?_
        refine WL.y rfl (Y.fieldAddr fi26f5 ti22 (by decide) rfl (rfl) _) ?_
        refine WL.y rfl (Y.load1 Tryd.underlying22 rfl rfl (hB.cell 5)) ?_
        refine WL.y rfl (Y.lenSl Tryd.underlying22 (ho.bel hb1) _) ?_
        refine WL.y rfl (Y.move) ?_
        refine WL.nil ?_
        refine WC.block ?_
        refine WC.loop (fun j => v.vs.length - j) (fun j f ds w' => j ≤ v.vs.length ∧ ds = [] ∧ Below w.heap.size w w' ∧ ∃ a J, sumL a (v.vs.drop j) = sumL 1 v.vs ∧ f = Go.Cx.ov J [(3, .int .i64 a), (27, ov), (28, .int .i64 (v.vs.length : Int)), (29, .int .i64 (j : Int))]) 0 ?_ ?_
        · exact ⟨by omega, rfl, hb1, 1, _, rfl, ov_mk ⟨rfl, rfl, rfl, rfl, trivial⟩⟩
        · rintro j _ _ w2 ⟨hj, rfl, hb2, a, J, ha, rfl⟩
          refine WC.seqR rfl ?_
          refine WL.y rfl (Y.lss rfl rfl) ?_
          refine WL.nil ?_
          refine WC.seq ?_
          refine WC.condD rfl (fun h0 => ?_) (fun h0 => ?_)
          · have hjl : j < v.vs.length := by omega
            have hjc : j < oc.length := by omega
            have hjk : j < v.ks.length := by omega
            have hst := sumL_step a v.vs j hjl
            have hml : (strv v.ks[j] :: oc[j].c).length = 7 := by rw [List.length_cons, oc[j].h]
            have hmo : ∀ u ∈ strv v.ks[j] :: oc[j].c, One u = true := by
              intro u hu
              rcases List.mem_cons.1 hu with rfl | hu
              · rfl
              · exact (h4 j hjl hjc).one u hu
            refine WC.skip (thenQ.normal ?_)
            refine WC.seq ?_
            refine WC.block ?_
            refine WC.seqR rfl ?_
            refine WL.yex rfl (Y.idx Tryd.underlying22 ti38 (by decide) (ho.bel hb2) rfl (by omega) (by omega)) ?_
            rintro _ ⟨b31, o31, rfl, hc31⟩
            refine WL.y rfl (Y.loadK Tryd.underlying38 rfl ti38 (hml) rfl (mem_cells hjk hjc hc31)) ?_
            refine WL.eex rfl (E.allocX ti38) ?_
            rintro _ w7 ⟨rfl, hB7, hb7⟩
            refine WL.eex rfl (E.storeAllK (us := strv v.ks[j] :: oc[j].c) ti38 hml rfl rfl hmo hB7 rfl) ?_
            rintro _ w7s ⟨hB7', hg7⟩
            have b7 : Below w2.heap.size w2 w7s := Below.stepG hb7 hg7 (Nat.le_refl _)
            have hv7 := ((h4 j hjl hjc).bel hb2).bel b7
            refine WL.nil ?_
            refine WC.region rfl ?_
            refine WL.y rfl (Y.move) ?_
            refine WL.y rfl (Y.fieldAddr fi38f1 ti26 (by decide) rfl (rfl) _) ?_
            refine WL.y rfl (Y.loadK Tryd.underlying26 rfl ti26 (oc[j].h) rfl (Cells.tl hB7'.cells)) ?_
            refine WL.call rfl (C.func go22) (ih2 _ (List.getElem_mem hjl) _ _ hv7) ?_
            rintro _ w36 ⟨rfl, hb36⟩
            refine WL.y rfl (Y.add rfl rfl) ?_
            refine WL.y rfl (Y.assign) ?_
            refine WL.nil (inBlockQ.normal (thenQ.normal ?_))
            refine WC.region rfl ?_
            refine WL.y rfl (Y.add64 rfl rfl (by omega)) ?_
            refine WL.y rfl (Y.move) ?_
            refine WL.nil (thenQ.normal ?_)
            exact ⟨j + 1, by omega, by omega, rfl, Below.step (Below.step hb2 b7) hb36, _, _, by rw [← ha, hst]; rfl, ov_mk ⟨rfl, rfl, rfl, rfl, trivial⟩⟩
          · have hje : j = v.vs.length := by omega
            subst hje
            rw [List.drop_length, sumL] at ha
            have e : Value.int .i64 a = .int .i64 (sizeV v) := by rw [hse, ha]
            refine WC.exit (thenQ.exit (thenQ.exit (inBlockQ.hit (inBlockQ.normal (thenQ.normal ?_)))))
            refine WC.seqR rfl ?_
            refine WL.y rfl (Y.move) ?_
            refine WL.y rfl (Y.assign) ?_
            refine WL.nil ?_
            refine WC.ret (endQ.one (.inr rfl) ?_)
            exact ⟨e, hb2⟩
      · rw [if_neg k6] at hse
        skip
        refine WC.block ?_
        refine WC.seqR rfl ?_
        refine WL.y rfl (Y.dF (Y.eqi rfl rfl) (by omega)) ?_
        refine WL.y rfl (Y.assign) ?_
        refine WL.nil ?_
        refine WC.condF (rfl) ?_
        refine WC.seqR rfl ?_
        refine WL.y rfl (Y.dF (Y.eqi rfl rfl) (by omega)) ?_
        refine WL.y rfl (Y.assign) ?_
        refine WL.nil ?_
        refine WC.condF (rfl) ?_
        refine WC.skip (inBlockQ.normal (thenQ.normal ?_))
        refine WC.seqR rfl ?_
        refine WL.y rfl (Y.move) ?_
        refine WL.y rfl (Y.assign) ?_
        refine WL.nil ?_
        refine WC.ret (endQ.one (.inr rfl) ?_)
        exact ⟨congrArg (Value.int .i64) hse.symm, hb1⟩
theorem deep_ret (v : V) : ∀ (w : World) (c : List Value), VAt w v c → Ret Tryd.prog 20 [.agg c.toArray].toArray w fun r w' => r = .int .i64 (deepV v) ∧ Below w.heap.size w w' := by
  induction v using V.ind with
  | h v ih1 ih2 =>
    intro w c hv
    have hse := deepV_eq v
    cases hv with
    | @mk _ lv ov lc oc ok h1 h2 hs h3 h4 ho =>
    have hol := ok.l
    have hoo := ok.o
    refine Ret.of (n := 41) (rs := #[.tmp 2]) Tryd.func20 rfl rfl rfl (by simp) ?_
    refine WC.seqR rfl ?_
    refine WL.eex rfl (E.boxX) ?_
    rintro _ w1 ⟨rfl, hB1, hb1⟩
    refine WL.y rfl (Y.assign) ?_
    refine WL.nil ?_
    refine WC.seqR rfl ?_
    refine WL.y rfl (Y.assign) ?_
    refine WL.nil ?_
    refine WC.seq ?_
    refine WC.seqR rfl ?_
    refine WL.y rfl (Y.fieldAddr fi26f0 ti23 (by decide) rfl (rfl) _) ?_
    refine WL.y rfl (Y.load1 Tryd.underlying23 rfl rfl ((show Blk _ _ _ (vcell v lv ov) from hB1).cell 0)) ?_
    refine WL.nil ?_
    have hB : Blk w1 w.heap.size 26 (vcell v lv ov) := hB1
    clear hB1
    by_cases k5 : v.k = 5
    · rw [if_pos k5] at hse
      refine WC.block ?_
      refine WC.seqR rfl ?_
      refine WL.y rfl (Y.dT (Y.eqi rfl rfl) (by omega)) ?_
      refine WL.y rfl (Y.assign) ?_
      refine WL.nil ?_
      refine WC.condT (rfl) ?_
      refine WC.seqR rfl ?_
      refine WL.y rfl (Y.fieldAddr fi26f4 ti24 (by decide) rfl (rfl) _) ?_
      refine WL.y rfl (Y.load1 Tryd.underlying24 rfl rfl (hB.cell 4)) ?_
      refine WL.y rfl (Y.lenSl Tryd.underlying24 (hs.bel hb1) _) ?_
      refine WL.y rfl (Y.move) ?_
      refine WL.nil ?_
      refine WC.block ?_
      refine WC.loop (fun j => v.l.length - j) (fun j f ds w' => j ≤ v.l.length ∧ ds = [] ∧ Below w.heap.size w w' ∧ ∃ a J, maxL a (v.l.drop j) = maxL 0 v.l ∧ f = Go.Cx.ov J [(3, .int .i64 a), (13, lv), (14, .int .i64 (v.l.length : Int)), (15, .int .i64 (j : Int))]) 0 ?_ ?_
      · exact ⟨by omega, rfl, hb1, 0, _, rfl, ov_mk ⟨rfl, rfl, rfl, rfl, trivial⟩⟩
      · rintro j _ _ w2 ⟨hj, rfl, hb2, a, J, ha, rfl⟩
        refine WC.seqR rfl ?_
        refine WL.y rfl (Y.lss rfl rfl) ?_
        refine WL.nil ?_
        refine WC.seq ?_
        refine WC.condD rfl (fun h0 => ?_) (fun h0 => ?_)
        · have hjl : j < v.l.length := by omega
          have hjc : j < lc.length := by omega
          have hst := maxL_step a v.l j hjl
          refine WC.skip (thenQ.normal ?_)
          refine WC.seq ?_
          refine WC.block ?_
          refine WC.seqR rfl ?_
          refine WL.yex rfl (Y.idx Tryd.underlying24 ti26 (by decide) (hs.bel hb2) rfl (by omega) (by omega)) ?_
          rintro _ ⟨b17, o17, rfl, hc17⟩
          refine WL.y rfl (Y.loadK Tryd.underlying26 rfl ti26 (lc[j].h) rfl (elem_cells hjc hc17)) ?_
          refine WL.eex rfl (E.allocX ti26) ?_
          rintro _ w5 ⟨rfl, hB5, hb5⟩
          refine WL.eex rfl (E.storeAllK (us := lc[j].c) ti26 lc[j].h rfl rfl (h2 j hjl hjc).one hB5 rfl) ?_
          rintro _ w5s ⟨hB5', hg5⟩
          have b5 : Below w2.heap.size w2 w5s := Below.stepG hb5 hg5 (Nat.le_refl _)
          have hv5 := ((h2 j hjl hjc).bel hb2).bel b5
          refine WL.nil ?_
          refine WC.region rfl ?_
          refine WL.y rfl (Y.move) ?_
          refine WL.y rfl (Y.loadK Tryd.underlying26 rfl ti26 (lc[j].h) rfl (hB5'.cells)) ?_
          refine WL.call rfl (C.func go20) (ih1 _ (List.getElem_mem hjl) _ _ hv5) ?_
          rintro _ w21 ⟨rfl, hb21⟩
          refine WL.y rfl (Y.max2 rfl rfl) ?_
          refine WL.y rfl (Y.assign) ?_
          refine WL.nil (inBlockQ.normal (thenQ.normal ?_))
          refine WC.region rfl ?_
          refine WL.y rfl (Y.add64 rfl rfl (by omega)) ?_
          refine WL.y rfl (Y.move) ?_
          refine WL.nil (thenQ.normal ?_)
          exact ⟨j + 1, by omega, by omega, rfl, Below.step (Below.step hb2 b5) hb21, _, _, by rw [← ha, hst], ov_mk ⟨rfl, rfl, rfl, rfl, trivial⟩⟩
        · have hje : j = v.l.length := by omega
          subst hje
          rw [List.drop_length, maxL] at ha
          have e : Value.int .i64 (IntKind.i64.wrap (1 + a)) = .int .i64 (deepV v) := by rw [hse, ha]; rfl
          refine WC.exit (thenQ.exit (thenQ.exit (inBlockQ.hit (inBlockQ.normal (thenQ.normal ?_)))))
          refine WC.seqR rfl ?_
          refine WL.y rfl (Y.move) ?_
          refine WL.y rfl (Y.add rfl rfl) ?_
          refine WL.y rfl (Y.assign) ?_
          refine WL.nil ?_
          refine WC.ret (endQ.one (.inr rfl) ?_)
          exact ⟨e, hb2⟩
    · rw [if_neg k5] at hse
      by_cases k6 : v.k = 6
      · rw [if_pos k6] at hse
        have hok := ok.ks
        refine WC.block ?_
        refine WC.seqR rfl ?_
        refine WL.y rfl (Y.dF (Y.eqi rfl rfl) (by omega)) ?_
        refine WL.y rfl (Y.assign) ?_
        refine WL.nil ?_
        refine WC.condF (rfl) ?_
        refine WC.seqR rfl ?_
        refine WL.y rfl (Y.dT (Y.eqi rfl rfl) (by omega)) ?_
        refine WL.y rfl (Y.assign) ?_
        refine WL.nil ?_
        refine WC.condT (rfl) ?_
        refine WC.seqR rfl ?_
        refine WL.y rfl (Y.fieldAddr fi26f5 ti22 (by decide) rfl (rfl) _) ?_
        refine WL.y rfl (Y.load1 Tryd.underlying22 rfl rfl (hB.cell 5)) ?_
        refine WL.y rfl (Y.lenSl Tryd.underlying22 (ho.bel hb1) _) ?_
        refine WL.y rfl (Y.move) ?_
        refine WL.nil ?_
        refine WC.block ?_
        refine WC.loop (fun j => v.vs.length - j) (fun j f ds w' => j ≤ v.vs.length ∧ ds = [] ∧ Below w.heap.size w w' ∧ ∃ a J, maxL a (v.vs.drop j) = maxL 0 v.vs ∧ f = Go.Cx.ov J [(3, .int .i64 a), (27, ov), (28, .int .i64 (v.vs.length : Int)), (29, .int .i64 (j : Int))]) 0 ?_ ?_
        · exact ⟨by omega, rfl, hb1, 0, _, rfl, ov_mk ⟨rfl, rfl, rfl, rfl, trivial⟩⟩
        · rintro j _ _ w2 ⟨hj, rfl, hb2, a, J, ha, rfl⟩
          refine WC.seqR rfl ?_
          refine WL.y rfl (Y.lss rfl rfl) ?_
          refine WL.nil ?_
          refine WC.seq ?_
          refine WC.condD rfl (fun h0 => ?_) (fun h0 => ?_)
          · have hjl : j < v.vs.length := by omega
            have hjc : j < oc.length := by omega
            have hjk : j < v.ks.length := by omega
            have hst := maxL_step a v.vs j hjl
            have hml : (strv v.ks[j] :: oc[j].c).length = 7 := by rw [List.length_cons, oc[j].h]
            have hmo : ∀ u ∈ strv v.ks[j] :: oc[j].c, One u = true := by
              intro u hu
              rcases List.mem_cons.1 hu with rfl | hu
              · rfl
              · exact (h4 j hjl hjc).one u hu
            refine WC.skip (thenQ.normal ?_)
            refine WC.seq ?_
            refine WC.block ?_
            refine WC.seqR rfl ?_
            refine WL.yex rfl (Y.idx Tryd.underlying22 ti38 (by decide) (ho.bel hb2) rfl (by omega) (by omega)) ?_
            rintro _ ⟨b31, o31, rfl, hc31⟩
            refine WL.y rfl (Y.loadK Tryd.underlying38 rfl ti38 (hml) rfl (mem_cells hjk hjc hc31)) ?_
            refine WL.eex rfl (E.allocX ti38) ?_
            rintro _ w7 ⟨rfl, hB7, hb7⟩
            refine WL.eex rfl (E.storeAllK (us := strv v.ks[j] :: oc[j].c) ti38 hml rfl rfl hmo hB7 rfl) ?_
            rintro _ w7s ⟨hB7', hg7⟩
            have b7 : Below w2.heap.size w2 w7s := Below.stepG hb7 hg7 (Nat.le_refl _)
            have hv7 := ((h4 j hjl hjc).bel hb2).bel b7
            refine WL.nil ?_
            refine WC.region rfl ?_
            refine WL.y rfl (Y.move) ?_
            refine WL.y rfl (Y.fieldAddr fi38f1 ti26 (by decide) rfl (rfl) _) ?_
            refine WL.y rfl (Y.loadK Tryd.underlying26 rfl ti26 (oc[j].h) rfl (Cells.tl hB7'.cells)) ?_
            refine WL.call rfl (C.func go20) (ih2 _ (List.getElem_mem hjl) _ _ hv7) ?_
            rintro _ w36 ⟨rfl, hb36⟩
            refine WL.y rfl (Y.max2 rfl rfl) ?_
            refine WL.y rfl (Y.assign) ?_
            refine WL.nil (inBlockQ.normal (thenQ.normal ?_))
            refine WC.region rfl ?_
            refine WL.y rfl (Y.add64 rfl rfl (by omega)) ?_
            refine WL.y rfl (Y.move) ?_
            refine WL.nil (thenQ.normal ?_)
            exact ⟨j + 1, by omega, by omega, rfl, Below.step (Below.step hb2 b7) hb36, _, _, by rw [← ha, hst], ov_mk ⟨rfl, rfl, rfl, rfl, trivial⟩⟩
          · have hje : j = v.vs.length := by omega
            subst hje
            rw [List.drop_length, maxL] at ha
            have e : Value.int .i64 (IntKind.i64.wrap (1 + a)) = .int .i64 (deepV v) := by rw [hse, ha]; rfl
            refine WC.exit (thenQ.exit (thenQ.exit (inBlockQ.hit (inBlockQ.normal (thenQ.normal ?_)))))
            refine WC.seqR rfl ?_
            refine WL.y rfl (Y.move) ?_
            refine WL.y rfl (Y.add rfl rfl) ?_
            refine WL.y rfl (Y.assign) ?_
            refine WL.nil ?_
            refine WC.ret (endQ.one (.inr rfl) ?_)
            exact ⟨e, hb2⟩
      · rw [if_neg k6] at hse
        skip
        refine WC.block ?_
        refine WC.seqR rfl ?_
        refine WL.y rfl (Y.dF (Y.eqi rfl rfl) (by omega)) ?_
        refine WL.y rfl (Y.assign) ?_
        refine WL.nil ?_
        refine WC.condF (rfl) ?_
        refine WC.seqR rfl ?_
        refine WL.y rfl (Y.dF (Y.eqi rfl rfl) (by omega)) ?_
        refine WL.y rfl (Y.assign) ?_
        refine WL.nil ?_
        refine WC.condF (rfl) ?_
        refine WC.skip (inBlockQ.normal (thenQ.normal ?_))
        refine WC.seqR rfl ?_
        refine WL.y rfl (Y.move) ?_
        refine WL.y rfl (Y.add rfl rfl) ?_
        refine WL.y rfl (Y.assign) ?_
        refine WL.nil ?_
        refine WC.ret (endQ.one (.inr rfl) ?_)
        exact ⟨congrArg (Value.int .i64) hse.symm, hb1⟩
end Go.Proofs.YthcppegkpkgnpaaDoor
