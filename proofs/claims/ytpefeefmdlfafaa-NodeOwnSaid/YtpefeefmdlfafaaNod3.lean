/-
  ref06: May: walk.
-/
import Derived.Test.YtpefeefmdlfafaaNod2
namespace Go.Proofs.Ytpefeefmdlfafaa
open Go Go.RowKit Go.Cx
set_option linter.unusedVariables false
set_option maxHeartbeats 8000000
set_option maxRecDepth 20000
theorem may_nil {s : Sh} (h : s.kids.length = 0) : MayS s ↔ s.es.length ≤ 8 ∧ rise s.es := by
  cases s with
  | mk es kids =>
    have : kids = [] := List.eq_nil_of_length_eq_zero h
    subst this
    constructor
    · intro h
      cases h with
      | leaf h hr => exact ⟨h, hr⟩
      | inner h h2 h3 hr => exact absurd h2.1 (by simp)
    · rintro ⟨h1, h2⟩
      exact .leaf h1 h2
theorem may_cons {s : Sh} (h : 0 < s.kids.length) : MayS s ↔ s.es.length = 0 ∧ (2 ≤ s.kids.length ∧ s.kids.length ≤ 8) ∧ (∀ k ∈ s.kids, MayS k ∧ flatS k ≠ [] ∧ hS k = hS s.kids[0]) ∧ rise (flatL s.kids) := by
  cases s with
  | mk es kids =>
    have h' : 0 < kids.length := h
    have hh : kids.head? = some (kids[0]'h') := by rw [List.head?_eq_getElem?, List.getElem?_eq_getElem h']
    constructor
    · intro hm
      cases hm with
      | leaf h1 hr => exact absurd h (by simp [Sh.kids])
      | inner h1 h2 h3 hr =>
        refine ⟨rfl, h2, fun k hk => ⟨h1 k hk, (h3 k hk).1, ?_⟩, hr⟩
        have := (h3 k hk).2
        rw [hh] at this
        exact Option.some.inj this
    · rintro ⟨h0, h2, h3, hr⟩
      have : es = [] := List.eq_nil_of_length_eq_zero h0
      subst this
      exact .inner (fun k hk => (h3 k hk).1) h2 (fun k hk => ⟨(h3 k hk).2.1, by rw [hh]; exact congrArg some (h3 k hk).2.2⟩) hr
theorem noP {P : Prop} (h : ¬ P) : (false = true ↔ P) := ⟨fun e => Bool.noConfusion e, fun e => absurd e h⟩
def RMayOf (s : Sh) : Prop := ∀ (w w0 : World) (c : List Value), ShAt w0 s c → Below w0.heap.size w0 w → (flatS s).length ≤ 1000000 → nodesS s ≤ 1000000 → Ret Try.prog 10 [.agg c.toArray].toArray w fun r w' => (∃ e : Bool, r = .bool e ∧ (e = true ↔ MayS s)) ∧ Below w.heap.size w w'
theorem rmayT {s : Sh} (h : RMayOf s) (hm : MayS s) (w w0 : World) (c : List Value) (h1 : ShAt w0 s c) (h2 : Below w0.heap.size w0 w) (h3 : (flatS s).length ≤ 1000000) (h4 : nodesS s ≤ 1000000) : Ret Try.prog 10 [.agg c.toArray].toArray w fun r w' => r = .bool true ∧ Below w.heap.size w w' :=
  (h w w0 c h1 h2 h3 h4).mono fun r w' ⟨⟨e, a, b⟩, d⟩ => ⟨by rw [a, b.2 hm], d⟩
theorem rmayF {s : Sh} (h : RMayOf s) (hm : ¬ MayS s) (w w0 : World) (c : List Value) (h1 : ShAt w0 s c) (h2 : Below w0.heap.size w0 w) (h3 : (flatS s).length ≤ 1000000) (h4 : nodesS s ≤ 1000000) : Ret Try.prog 10 [.agg c.toArray].toArray w fun r w' => r = .bool false ∧ Below w.heap.size w w' :=
  (h w w0 c h1 h2 h3 h4).mono fun r w' ⟨⟨e, a, b⟩, d⟩ => ⟨by rw [a]; cases e with | false => rfl | true => exact absurd (b.1 rfl) hm, d⟩
theorem rmay_ret (s : Sh) : RMayOf s := by
  induction s using Sh.ind with
  | h s ih =>
    intro w w0 c hv0 hw hfl hnd
    have hv0' := hv0
    have hfe := flatS_eq s
    have hne := nodesS_eq s
    cases hv0 with
    | @mk _ ev kv lc he0 hn h1 h2 hs0 hk =>
    obtain ⟨oc, o1, o2, o3⟩ := he0
    have hs := hs0.bel hw
    have ho := o2.bel hw
    refine Ret.of (n := 88) (rs := #[.tmp 2]) Try.func10 rfl rfl rfl (by simp) ?_
    refine WC.seqR rfl ?_
    refine WL.eex rfl (E.boxX) ?_
    rintro _ w1 ⟨rfl, hB1, hb1⟩
    refine WL.y rfl (Y.assign) ?_
    refine WL.nil ?_
    refine WC.seq ?_
    refine WC.seqR rfl ?_
    refine WL.y rfl (Y.fieldAddr fi25f1 ti23 (by decide) rfl (rfl) _) ?_
    refine WL.y rfl (Y.load1 Try.underlying23 rfl rfl ((show Blk _ _ _ [ev, kv] from hB1).cell 1)) ?_
    refine WL.y rfl (Y.lenSl Try.underlying23 (hs.bel hb1) _) ?_
    refine WL.y rfl (Y.eqi rfl rfl) ?_
    refine WL.nil ?_
    have hB : Blk w1 w.heap.size 25 [ev, kv] := hB1
    clear hB1
    refine WC.cut (fun f ds w' => ds = [] ∧ Below w.heap.size w w' ∧ Blk w' w.heap.size 25 [ev, kv] ∧ (MayS s ↔ rise (flatS s)) ∧ ∃ J, f = Go.Cx.ov J [(1, .pointer (some ⟨w.heap.size, 0, none⟩))]) ?_ ?_
    · skip
      refine WC.condD rfl (fun c0 => ?_) (fun c0 => ?_)
      · have e0 : s.kids.length = 0 := by omega
        rw [if_pos e0] at hfe
        refine WC.seqR rfl ?_
        refine WL.y rfl (Y.fieldAddr fi25f0 ti22 (by decide) rfl (rfl) _) ?_
        refine WL.y rfl (Y.load1 Try.underlying22 rfl rfl (hB.cell 0)) ?_
        refine WL.y rfl (Y.lenSl Try.underlying22 (ho.bel hb1) _) ?_
        refine WL.y rfl (Y.gtr rfl rfl) ?_
        refine WL.nil ?_
        refine WC.condD rfl (fun c1 => ?_) (fun c1 => ?_)
        · refine WC.seqR rfl ?_
          refine WL.y rfl (Y.assign) ?_
          refine WL.nil ?_
          refine WC.ret (thenQ.ret (endQ.one (.inr rfl) ?_))
          exact ⟨⟨false, rfl, noP (fun h => by have := ((may_nil e0).1 h).1; omega)⟩, hb1⟩
        · refine WC.skip (thenQ.normal ?_)
          exact ⟨rfl, hb1, hB, ⟨fun h => by rw [hfe]; exact ((may_nil e0).1 h).2, fun h => (may_nil e0).2 ⟨by omega, by rw [hfe] at h; exact h⟩⟩, _, ov_mk ⟨rfl, trivial⟩⟩
      · have e0 : 0 < s.kids.length := by omega
        rw [if_neg (by omega)] at hfe
        rw [hfe] at hfl
        have hz0 : 0 < lc.length := by omega
        refine WC.seq ?_
        by_cases c1 : 0 < s.es.length
        · refine WC.seqR rfl ?_
          refine WL.y rfl (Y.fieldAddr fi25f0 ti22 (by decide) rfl (rfl) _) ?_
          refine WL.y rfl (Y.load1 Try.underlying22 rfl rfl (hB.cell 0)) ?_
          refine WL.y rfl (Y.lenSl Try.underlying22 (ho.bel hb1) _) ?_
          refine WL.y rfl (Y.dT (Y.gtr rfl rfl) (by omega)) ?_
          refine WL.y rfl (Y.move) ?_
          refine WL.off rfl ?_
          refine WL.off rfl ?_
          refine WL.off rfl ?_
          refine WL.off rfl ?_
          refine WL.y rfl (Y.pickT rfl) ?_
          refine WL.y rfl (Y.move) ?_
          refine WL.off rfl ?_
          refine WL.off rfl ?_
          refine WL.off rfl ?_
          refine WL.off rfl ?_
          refine WL.y rfl (Y.pickT rfl) ?_
          refine WL.nil ?_
          refine WC.condT (rfl) ?_
          refine WC.seqR rfl ?_
          refine WL.y rfl (Y.assign) ?_
          refine WL.nil ?_
          refine WC.ret (thenQ.ret (thenQ.ret (endQ.one (.inr rfl) ?_)))
          exact ⟨⟨false, rfl, noP (fun h => by have := ((may_cons e0).1 h).1; omega)⟩, hb1⟩
        · by_cases c2 : s.kids.length < 2
          · refine WC.seqR rfl ?_
            refine WL.y rfl (Y.fieldAddr fi25f0 ti22 (by decide) rfl (rfl) _) ?_
            refine WL.y rfl (Y.load1 Try.underlying22 rfl rfl (hB.cell 0)) ?_
            refine WL.y rfl (Y.lenSl Try.underlying22 (ho.bel hb1) _) ?_
            refine WL.y rfl (Y.dF (Y.gtr rfl rfl) (by omega)) ?_
            refine WL.y rfl (Y.move) ?_
            refine WL.y rfl (Y.fieldAddr fi25f1 ti23 (by decide) rfl (rfl) _) ?_
            refine WL.y rfl (Y.load1 Try.underlying23 rfl rfl (hB.cell 1)) ?_
            refine WL.y rfl (Y.lenSl Try.underlying23 (hs.bel hb1) _) ?_
            refine WL.y rfl (Y.dT (Y.lss rfl rfl) (by omega)) ?_
            refine WL.y rfl (Y.pickF rfl) ?_
            refine WL.y rfl (Y.move) ?_
            refine WL.off rfl ?_
            refine WL.off rfl ?_
            refine WL.off rfl ?_
            refine WL.off rfl ?_
            refine WL.y rfl (Y.pickT rfl) ?_
            refine WL.nil ?_
            refine WC.condT (rfl) ?_
            refine WC.seqR rfl ?_
            refine WL.y rfl (Y.assign) ?_
            refine WL.nil ?_
            refine WC.ret (thenQ.ret (thenQ.ret (endQ.one (.inr rfl) ?_)))
            exact ⟨⟨false, rfl, noP (fun h => by have := ((may_cons e0).1 h).2.1; omega)⟩, hb1⟩
          · by_cases c3 : 8 < s.kids.length
            · refine WC.seqR rfl ?_
              refine WL.y rfl (Y.fieldAddr fi25f0 ti22 (by decide) rfl (rfl) _) ?_
              refine WL.y rfl (Y.load1 Try.underlying22 rfl rfl (hB.cell 0)) ?_
              refine WL.y rfl (Y.lenSl Try.underlying22 (ho.bel hb1) _) ?_
              refine WL.y rfl (Y.dF (Y.gtr rfl rfl) (by omega)) ?_
              refine WL.y rfl (Y.move) ?_
              refine WL.y rfl (Y.fieldAddr fi25f1 ti23 (by decide) rfl (rfl) _) ?_
              refine WL.y rfl (Y.load1 Try.underlying23 rfl rfl (hB.cell 1)) ?_
              refine WL.y rfl (Y.lenSl Try.underlying23 (hs.bel hb1) _) ?_
              refine WL.y rfl (Y.dF (Y.lss rfl rfl) (by omega)) ?_
              refine WL.y rfl (Y.pickF rfl) ?_
              refine WL.y rfl (Y.move) ?_
              refine WL.y rfl (Y.fieldAddr fi25f1 ti23 (by decide) rfl (rfl) _) ?_
              refine WL.y rfl (Y.load1 Try.underlying23 rfl rfl (hB.cell 1)) ?_
              refine WL.y rfl (Y.lenSl Try.underlying23 (hs.bel hb1) _) ?_
              refine WL.y rfl (Y.dT (Y.gtr rfl rfl) (by omega)) ?_
              refine WL.y rfl (Y.pickF rfl) ?_
              refine WL.nil ?_
              refine WC.condT (rfl) ?_
              refine WC.seqR rfl ?_
              refine WL.y rfl (Y.assign) ?_
              refine WL.nil ?_
              refine WC.ret (thenQ.ret (thenQ.ret (endQ.one (.inr rfl) ?_)))
              exact ⟨⟨false, rfl, noP (fun h => by have := ((may_cons e0).1 h).2.1; omega)⟩, hb1⟩
            · skip
              skip
              refine WC.seqR rfl ?_
              refine WL.y rfl (Y.fieldAddr fi25f0 ti22 (by decide) rfl (rfl) _) ?_
              refine WL.y rfl (Y.load1 Try.underlying22 rfl rfl (hB.cell 0)) ?_
              refine WL.y rfl (Y.lenSl Try.underlying22 (ho.bel hb1) _) ?_
              refine WL.y rfl (Y.dF (Y.gtr rfl rfl) (by omega)) ?_
              refine WL.y rfl (Y.move) ?_
              refine WL.y rfl (Y.fieldAddr fi25f1 ti23 (by decide) rfl (rfl) _) ?_
              refine WL.y rfl (Y.load1 Try.underlying23 rfl rfl (hB.cell 1)) ?_
              refine WL.y rfl (Y.lenSl Try.underlying23 (hs.bel hb1) _) ?_
              refine WL.y rfl (Y.dF (Y.lss rfl rfl) (by omega)) ?_
              refine WL.y rfl (Y.pickF rfl) ?_
              refine WL.y rfl (Y.move) ?_
              refine WL.y rfl (Y.fieldAddr fi25f1 ti23 (by decide) rfl (rfl) _) ?_
              refine WL.y rfl (Y.load1 Try.underlying23 rfl rfl (hB.cell 1)) ?_
              refine WL.y rfl (Y.lenSl Try.underlying23 (hs.bel hb1) _) ?_
              refine WL.y rfl (Y.dF (Y.gtr rfl rfl) (by omega)) ?_
              refine WL.y rfl (Y.pickF rfl) ?_
              refine WL.nil ?_
              refine WC.condF (rfl) ?_
              refine WC.skip (thenQ.normal ?_)
              refine WC.seqR rfl ?_
              refine WL.y rfl (Y.assign) ?_
              refine WL.nil ?_
              refine WC.block ?_
              refine WC.loop (fun j => s.kids.length - j) (fun j f ds w' => j ≤ s.kids.length ∧ ds = [] ∧ Below w.heap.size w w' ∧ Blk w' w.heap.size 25 [ev, kv] ∧ (∀ k ∈ s.kids.take j, MayS k ∧ flatS k ≠ [] ∧ hS k = hS s.kids[0]) ∧ ∃ J, f = Go.Cx.ov J [(1, .pointer (some ⟨w.heap.size, 0, none⟩)), (3, .int .i64 (j : Int))]) 0 ?_ ?_
              · exact ⟨by omega, rfl, hb1, hB, fun k hk => absurd hk (by simp), _, ov_mk ⟨rfl, rfl, trivial⟩⟩
              · rintro j _ _ wL ⟨hj, rfl, kL, hA, hgood, J, rfl⟩
                have hwL := hw.trans (kL.mono hw.size)
                refine WC.seq ?_
                refine WC.seqR rfl ?_
                refine WL.y rfl (Y.move) ?_
                refine WL.y rfl (Y.fieldAddr fi25f1 ti23 (by decide) rfl (rfl) _) ?_
                refine WL.y rfl (Y.load1 Try.underlying23 rfl rfl (hA.cell 1)) ?_
                refine WL.y rfl (Y.lenSl Try.underlying23 (hs.bel kL) _) ?_
                refine WL.y rfl (Y.lss rfl rfl) ?_
                refine WL.nil ?_
                refine WC.condD rfl (fun h0 => ?_) (fun h0 => ?_)
                · have hjl : j < s.kids.length := by omega
                  have hjc : j < lc.length := by omega
                  have hjm := List.getElem_mem hjl
                  have f1 := flatL_mem hjm
                  have f2 := nodesL_mem hjm
                  have f3 := hS_lt s.kids[j]
                  have f4 := hS_lt s.kids[0]
                  have f5 := nodesL_mem (List.getElem_mem e0)
                  have hsh := h2 j hjl hjc
                  have bad : ∀ (hx : ¬ (MayS s.kids[j] ∧ flatS s.kids[j] ≠ [] ∧ hS s.kids[j] = hS s.kids[0])), ¬ MayS s := fun hx h => hx (((may_cons e0).1 h).2.2.1 _ hjm)
                  refine WC.skip (thenQ.normal ?_)
                  refine WC.seq ?_
                  refine WC.block ?_
                  refine WC.seq ?_
                  by_cases d1 : MayS s.kids[j]
                  · by_cases d2 : flatS s.kids[j] = []
                    · have d2' : (flatS s.kids[j]).length = 0 := by rw [d2]; rfl
                      refine WC.regionB (fun _ => false) [(0, .any), (1, .held), (2, .any), (3, .any), (4, .held), (5, .seq), (6, .any), (7, .any), (8, .any), (9, .held), (10, .any), (11, .any), (12, .held), (13, .seq), (14, .any), (15, .any), (16, .any), (17, .any), (18, .any), (19, .held), (20, .any), (21, .any), (22, .held), (23, .any), (24, .any), (25, .held), (26, .any), (27, .held), (28, .any), (29, .any), (30, .any)] mixed (by kernel_rfl) (fun w9 hS9 hheap => ?_)
                      refine RL.any rfl rfl (fun _ => Y.fieldAddr fi25f1 ti23 (by decide) rfl (rfl) _) ?_
                      refine RL.held rfl rfl hS9 (fun _ hb9 => Y.load1 Try.underlying23 rfl rfl (cell_bel (hA.cell 1) hb9)) ?_
                      refine RL.any rfl rfl (fun _ => Y.move) ?_
                      refine RL.yex rfl rfl (Y.idx Try.underlying23 ti25 (by decide) (hs.bel kL) rfl (by omega) (by omega)) ?_
                      rintro _ ⟨b40, o40, rfl, hc40⟩
                      refine RL.held rfl rfl hS9 (fun _ hb9 => Y.loadK Try.underlying25 rfl ti25 (lc[j].h) rfl (Cells.bel (elem_sh hjc hc40) hb9)) ?_
                      refine RL.call rfl rfl (C.func go10) (rmayT (ih _ hjm) d1 _ w0 _ hsh (Below.step hwL hS9) (by omega) (by omega)) ?_
                      rintro _ w42 ⟨rfl, hb42⟩
                      refine ⟨.inr (fun h => Below.step h hb42), ?_⟩
                      refine RL.any rfl rfl (fun _ => Y.bF (Y.not rfl) (rfl)) ?_
                      refine RL.any rfl rfl (fun _ => Y.move) ?_
                      refine RL.any rfl rfl (fun _ => Y.fieldAddr fi25f1 ti23 (by decide) rfl (rfl) _) ?_
                      refine RL.held rfl rfl (Below.step hS9 hb42) (fun _ hb9 => Y.load1 Try.underlying23 rfl rfl (cell_bel (hA.cell 1) hb9)) ?_
                      refine RL.any rfl rfl (fun _ => Y.move) ?_
                      refine RL.yex rfl rfl (Y.idx Try.underlying23 ti25 (by decide) (hs.bel kL) rfl (by omega) (by omega)) ?_
                      rintro _ ⟨b48, o48, rfl, hc48⟩
                      refine RL.held rfl rfl (Below.step hS9 hb42) (fun _ hb9 => Y.loadK Try.underlying25 rfl ti25 (lc[j].h) rfl (Cells.bel (elem_sh hjc hc48) hb9)) ?_
                      refine RL.call rfl rfl (C.func go27) (rflat_ret _ _ w0 _ hsh (Below.step (Below.step hwL hS9) hb42) (by omega)) ?_
                      rintro r50 w50 ⟨⟨lk, e1, e2, e3⟩, hb50⟩
                      refine ⟨.inr (fun h => Below.step h hb50), ?_⟩
                      refine RL.any rfl rfl (fun _ => Y.lenSl Try.underlying22 (e2) _) ?_
                      refine RL.any rfl rfl (fun _ => Y.dT (Y.eqi rfl rfl) (by omega)) ?_
                      refine RL.any rfl rfl (fun _ => Y.pickF rfl) ?_
                      refine RL.any rfl rfl (fun _ => Y.move) ?_
                      refine RL.off rfl rfl ?_
                      refine RL.offH rfl rfl (Below.step (Below.step hS9 hb42) hb50) ?_
                      refine RL.off rfl rfl ?_
                      refine RL.off rfl rfl ?_
                      refine RL.offH rfl rfl (Below.step (Below.step hS9 hb42) hb50) ?_
                      refine RL.off rfl rfl ?_
                      refine RL.off rfl rfl ?_
                      refine RL.offH rfl rfl (Below.step (Below.step hS9 hb42) hb50) ?_
                      refine RL.off rfl rfl ?_
                      refine RL.offH rfl rfl (Below.step (Below.step hS9 hb42) hb50) ?_
                      refine RL.off rfl rfl ?_
                      refine RL.off rfl rfl ?_
                      refine RL.any rfl rfl (fun _ => Y.pickT rfl) ?_
                      refine RL.nil (thenQ.normal ?_)
                      refine WC.condT (rfl) ?_
                      refine WC.seqR rfl ?_
                      refine WL.y rfl (Y.assign) ?_
                      refine WL.nil ?_
                      refine WC.ret (inBlockQ.ret (thenQ.ret (thenQ.ret (inBlockQ.ret (thenQ.ret (endQ.one (.inr rfl) ?_))))))
                      exact ⟨⟨false, rfl, noP (bad (fun h => h.2.1 d2))⟩, Below.step (Below.step (Below.step kL hS9) hb42) hb50⟩
                    · have d2' : (flatS s.kids[j]).length ≠ 0 := fun h => d2 (List.eq_nil_of_length_eq_zero h)
                      by_cases d3 : hS s.kids[j] = hS s.kids[0]
                      · refine WC.regionB (fun i => Nat.beq i 28) [(0, .any), (1, .held), (2, .any), (3, .any), (4, .held), (5, .seq), (6, .any), (7, .any), (8, .any), (9, .held), (10, .any), (11, .any), (12, .held), (13, .seq), (14, .any), (15, .any), (16, .any), (17, .any), (18, .any), (19, .held), (20, .any), (21, .any), (22, .held), (24, .any), (25, .held), (26, .any), (27, .held), (23, .seq), (28, .seq), (29, .any), (30, .any)] mixed (by kernel_rfl) (fun w9 hS9 hheap => ?_)
                        refine RL.any rfl rfl (fun _ => Y.fieldAddr fi25f1 ti23 (by decide) rfl (rfl) _) ?_
                        refine RL.held rfl rfl hS9 (fun _ hb9 => Y.load1 Try.underlying23 rfl rfl (cell_bel (hA.cell 1) hb9)) ?_
                        refine RL.any rfl rfl (fun _ => Y.move) ?_
                        refine RL.yex rfl rfl (Y.idx Try.underlying23 ti25 (by decide) (hs.bel kL) rfl (by omega) (by omega)) ?_
                        rintro _ ⟨b40, o40, rfl, hc40⟩
                        refine RL.held rfl rfl hS9 (fun _ hb9 => Y.loadK Try.underlying25 rfl ti25 (lc[j].h) rfl (Cells.bel (elem_sh hjc hc40) hb9)) ?_
                        refine RL.call rfl rfl (C.func go10) (rmayT (ih _ hjm) d1 _ w0 _ hsh (Below.step hwL hS9) (by omega) (by omega)) ?_
                        rintro _ w42 ⟨rfl, hb42⟩
                        refine ⟨.inr (fun h => Below.step h hb42), ?_⟩
                        refine RL.any rfl rfl (fun _ => Y.bF (Y.not rfl) (rfl)) ?_
                        refine RL.any rfl rfl (fun _ => Y.move) ?_
                        refine RL.any rfl rfl (fun _ => Y.fieldAddr fi25f1 ti23 (by decide) rfl (rfl) _) ?_
                        refine RL.held rfl rfl (Below.step hS9 hb42) (fun _ hb9 => Y.load1 Try.underlying23 rfl rfl (cell_bel (hA.cell 1) hb9)) ?_
                        refine RL.any rfl rfl (fun _ => Y.move) ?_
                        refine RL.yex rfl rfl (Y.idx Try.underlying23 ti25 (by decide) (hs.bel kL) rfl (by omega) (by omega)) ?_
                        rintro _ ⟨b48, o48, rfl, hc48⟩
                        refine RL.held rfl rfl (Below.step hS9 hb42) (fun _ hb9 => Y.loadK Try.underlying25 rfl ti25 (lc[j].h) rfl (Cells.bel (elem_sh hjc hc48) hb9)) ?_
                        refine RL.call rfl rfl (C.func go27) (rflat_ret _ _ w0 _ hsh (Below.step (Below.step hwL hS9) hb42) (by omega)) ?_
                        rintro r50 w50 ⟨⟨lk, e1, e2, e3⟩, hb50⟩
                        refine ⟨.inr (fun h => Below.step h hb50), ?_⟩
                        have k50 := Below.step (Below.step (Below.step hwL hS9) hb42) hb50
                        refine RL.any rfl rfl (fun _ => Y.lenSl Try.underlying22 (e2) _) ?_
                        refine RL.any rfl rfl (fun _ => Y.dF (Y.eqi rfl rfl) (by omega)) ?_
                        refine RL.any rfl rfl (fun _ => Y.pickF rfl) ?_
                        refine RL.any rfl rfl (fun _ => Y.move) ?_
                        refine RL.any rfl rfl (fun _ => Y.fieldAddr fi25f1 ti23 (by decide) rfl (rfl) _) ?_
                        refine RL.held rfl rfl (Below.step (Below.step hS9 hb42) hb50) (fun _ hb9 => Y.load1 Try.underlying23 rfl rfl (cell_bel (hA.cell 1) hb9)) ?_
                        refine RL.any rfl rfl (fun _ => Y.move) ?_
                        refine RL.yex rfl rfl (Y.idx Try.underlying23 ti25 (by decide) (hs.bel kL) rfl (by omega) (by omega)) ?_
                        rintro _ ⟨b58, o58, rfl, hc58⟩
                        refine RL.held rfl rfl (Below.step (Below.step hS9 hb42) hb50) (fun _ hb9 => Y.loadK Try.underlying25 rfl ti25 (lc[j].h) rfl (Cells.bel (elem_sh hjc hc58) hb9)) ?_
                        refine RL.any rfl rfl (fun _ => Y.fieldAddr fi25f1 ti23 (by decide) rfl (rfl) _) ?_
                        refine RL.held rfl rfl (Below.step (Below.step hS9 hb42) hb50) (fun _ hb9 => Y.load1 Try.underlying23 rfl rfl (cell_bel (hA.cell 1) hb9)) ?_
                        refine RL.yex rfl rfl (Y.idx Try.underlying23 ti25 (by decide) (hs.bel kL) rfl (by omega) (by omega)) ?_
                        rintro _ ⟨b63, o63, rfl, hc63⟩
                        refine RL.held rfl rfl (Below.step (Below.step hS9 hb42) hb50) (fun _ hb9 => Y.loadK Try.underlying25 rfl ti25 (lc[0].h) rfl (Cells.bel (elem_sh (j := 0) hz0 hc63) hb9)) ?_
                        refine RL.call rfl rfl (C.func go29) (rheight_ret _ _ _ (hsh.bel k50) (by omega)) ?_
                        rintro _ w60 ⟨rfl, hb60⟩
                        refine ⟨.inr (fun h => Below.step h hb60), ?_⟩
                        refine RL.call rfl rfl (C.func go29) (rheight_ret _ _ _ ((h2 0 e0 hz0).bel (Below.step k50 hb60)) (by omega)) ?_
                        rintro _ w65 ⟨rfl, hb65⟩
                        refine ⟨.inl rfl, ?_⟩
                        refine RL.any rfl rfl (fun _ => Y.dF (Y.nei rfl rfl) (fun h => h (by rw [d3]))) ?_
                        refine RL.any rfl rfl (fun _ => Y.pickF rfl) ?_
                        refine RL.nil (thenQ.normal ?_)
                        refine WC.condF (rfl) ?_
                        refine WC.skip (inBlockQ.normal (thenQ.normal ?_))
                        refine WC.region rfl ?_
                        refine WL.y rfl (Y.move) ?_
                        refine WL.y rfl (Y.add64 rfl rfl (by omega)) ?_
                        refine WL.y rfl (Y.assign) ?_
                        refine WL.nil (thenQ.normal ?_)
                        have hbb : Below wL.heap.size wL w65 := Below.step (Below.step (Below.step (Below.step hS9 hb42) hb50) hb60) hb65
                        exact ⟨j + 1, by omega, by omega, rfl, Below.step kL hbb, hA.bel hbb, fun k hk => by
                          rw [List.take_succ_eq_append_getElem hjl, List.mem_append, List.mem_singleton] at hk
                          rcases hk with hk | rfl
                          · exact hgood k hk
                          · exact ⟨d1, d2, d3⟩, _, ov_mk ⟨rfl, rfl, trivial⟩⟩
                      · refine WC.regionB (fun i => Nat.beq i 28) [(0, .any), (1, .held), (2, .any), (3, .any), (4, .held), (5, .seq), (6, .any), (7, .any), (8, .any), (9, .held), (10, .any), (11, .any), (12, .held), (13, .seq), (14, .any), (15, .any), (16, .any), (17, .any), (18, .any), (19, .held), (20, .any), (21, .any), (22, .held), (24, .any), (25, .held), (26, .any), (27, .held), (23, .seq), (28, .seq), (29, .any), (30, .any)] mixed (by kernel_rfl) (fun w9 hS9 hheap => ?_)
                        refine RL.any rfl rfl (fun _ => Y.fieldAddr fi25f1 ti23 (by decide) rfl (rfl) _) ?_
                        refine RL.held rfl rfl hS9 (fun _ hb9 => Y.load1 Try.underlying23 rfl rfl (cell_bel (hA.cell 1) hb9)) ?_
                        refine RL.any rfl rfl (fun _ => Y.move) ?_
                        refine RL.yex rfl rfl (Y.idx Try.underlying23 ti25 (by decide) (hs.bel kL) rfl (by omega) (by omega)) ?_
                        rintro _ ⟨b40, o40, rfl, hc40⟩
                        refine RL.held rfl rfl hS9 (fun _ hb9 => Y.loadK Try.underlying25 rfl ti25 (lc[j].h) rfl (Cells.bel (elem_sh hjc hc40) hb9)) ?_
                        refine RL.call rfl rfl (C.func go10) (rmayT (ih _ hjm) d1 _ w0 _ hsh (Below.step hwL hS9) (by omega) (by omega)) ?_
                        rintro _ w42 ⟨rfl, hb42⟩
                        refine ⟨.inr (fun h => Below.step h hb42), ?_⟩
                        refine RL.any rfl rfl (fun _ => Y.bF (Y.not rfl) (rfl)) ?_
                        refine RL.any rfl rfl (fun _ => Y.move) ?_
                        refine RL.any rfl rfl (fun _ => Y.fieldAddr fi25f1 ti23 (by decide) rfl (rfl) _) ?_
                        refine RL.held rfl rfl (Below.step hS9 hb42) (fun _ hb9 => Y.load1 Try.underlying23 rfl rfl (cell_bel (hA.cell 1) hb9)) ?_
                        refine RL.any rfl rfl (fun _ => Y.move) ?_
                        refine RL.yex rfl rfl (Y.idx Try.underlying23 ti25 (by decide) (hs.bel kL) rfl (by omega) (by omega)) ?_
                        rintro _ ⟨b48, o48, rfl, hc48⟩
                        refine RL.held rfl rfl (Below.step hS9 hb42) (fun _ hb9 => Y.loadK Try.underlying25 rfl ti25 (lc[j].h) rfl (Cells.bel (elem_sh hjc hc48) hb9)) ?_
                        refine RL.call rfl rfl (C.func go27) (rflat_ret _ _ w0 _ hsh (Below.step (Below.step hwL hS9) hb42) (by omega)) ?_
                        rintro r50 w50 ⟨⟨lk, e1, e2, e3⟩, hb50⟩
                        refine ⟨.inr (fun h => Below.step h hb50), ?_⟩
                        have k50 := Below.step (Below.step (Below.step hwL hS9) hb42) hb50
                        refine RL.any rfl rfl (fun _ => Y.lenSl Try.underlying22 (e2) _) ?_
                        refine RL.any rfl rfl (fun _ => Y.dF (Y.eqi rfl rfl) (by omega)) ?_
                        refine RL.any rfl rfl (fun _ => Y.pickF rfl) ?_
                        refine RL.any rfl rfl (fun _ => Y.move) ?_
                        refine RL.any rfl rfl (fun _ => Y.fieldAddr fi25f1 ti23 (by decide) rfl (rfl) _) ?_
                        refine RL.held rfl rfl (Below.step (Below.step hS9 hb42) hb50) (fun _ hb9 => Y.load1 Try.underlying23 rfl rfl (cell_bel (hA.cell 1) hb9)) ?_
                        refine RL.any rfl rfl (fun _ => Y.move) ?_
                        refine RL.yex rfl rfl (Y.idx Try.underlying23 ti25 (by decide) (hs.bel kL) rfl (by omega) (by omega)) ?_
                        rintro _ ⟨b58, o58, rfl, hc58⟩
                        refine RL.held rfl rfl (Below.step (Below.step hS9 hb42) hb50) (fun _ hb9 => Y.loadK Try.underlying25 rfl ti25 (lc[j].h) rfl (Cells.bel (elem_sh hjc hc58) hb9)) ?_
                        refine RL.any rfl rfl (fun _ => Y.fieldAddr fi25f1 ti23 (by decide) rfl (rfl) _) ?_
                        refine RL.held rfl rfl (Below.step (Below.step hS9 hb42) hb50) (fun _ hb9 => Y.load1 Try.underlying23 rfl rfl (cell_bel (hA.cell 1) hb9)) ?_
                        refine RL.yex rfl rfl (Y.idx Try.underlying23 ti25 (by decide) (hs.bel kL) rfl (by omega) (by omega)) ?_
                        rintro _ ⟨b63, o63, rfl, hc63⟩
                        refine RL.held rfl rfl (Below.step (Below.step hS9 hb42) hb50) (fun _ hb9 => Y.loadK Try.underlying25 rfl ti25 (lc[0].h) rfl (Cells.bel (elem_sh (j := 0) hz0 hc63) hb9)) ?_
                        refine RL.call rfl rfl (C.func go29) (rheight_ret _ _ _ (hsh.bel k50) (by omega)) ?_
                        rintro _ w60 ⟨rfl, hb60⟩
                        refine ⟨.inr (fun h => Below.step h hb60), ?_⟩
                        refine RL.call rfl rfl (C.func go29) (rheight_ret _ _ _ ((h2 0 e0 hz0).bel (Below.step k50 hb60)) (by omega)) ?_
                        rintro _ w65 ⟨rfl, hb65⟩
                        refine ⟨.inl rfl, ?_⟩
                        refine RL.any rfl rfl (fun _ => Y.dT (Y.nei rfl rfl) (by omega)) ?_
                        refine RL.any rfl rfl (fun _ => Y.pickF rfl) ?_
                        refine RL.nil (thenQ.normal ?_)
                        refine WC.condT (rfl) ?_
                        refine WC.seqR rfl ?_
                        refine WL.y rfl (Y.assign) ?_
                        refine WL.nil ?_
                        refine WC.ret (inBlockQ.ret (thenQ.ret (thenQ.ret (inBlockQ.ret (thenQ.ret (endQ.one (.inr rfl) ?_))))))
                        exact ⟨⟨false, rfl, noP (bad (fun h => d3 h.2.2))⟩, Below.step kL (Below.step (Below.step (Below.step (Below.step hS9 hb42) hb50) hb60) hb65)⟩
                  · skip
                    skip
                    refine WC.regionB (fun _ => false) [(0, .any), (1, .held), (2, .any), (3, .any), (4, .held), (5, .seq), (6, .any), (7, .any), (8, .any), (9, .held), (10, .any), (11, .any), (12, .held), (13, .any), (14, .any), (15, .any), (16, .any), (17, .any), (18, .any), (19, .held), (20, .any), (21, .any), (22, .held), (23, .any), (24, .any), (25, .held), (26, .any), (27, .held), (28, .any), (29, .any), (30, .any)] mixed (by kernel_rfl) (fun w9 hS9 hheap => ?_)
                    refine RL.any rfl rfl (fun _ => Y.fieldAddr fi25f1 ti23 (by decide) rfl (rfl) _) ?_
                    refine RL.held rfl rfl hS9 (fun _ hb9 => Y.load1 Try.underlying23 rfl rfl (cell_bel (hA.cell 1) hb9)) ?_
                    refine RL.any rfl rfl (fun _ => Y.move) ?_
                    refine RL.yex rfl rfl (Y.idx Try.underlying23 ti25 (by decide) (hs.bel kL) rfl (by omega) (by omega)) ?_
                    rintro _ ⟨b40, o40, rfl, hc40⟩
                    refine RL.held rfl rfl hS9 (fun _ hb9 => Y.loadK Try.underlying25 rfl ti25 (lc[j].h) rfl (Cells.bel (elem_sh hjc hc40) hb9)) ?_
                    refine RL.call rfl rfl (C.func go10) (rmayF (ih _ hjm) d1 _ w0 _ hsh (Below.step hwL hS9) (by omega) (by omega)) ?_
                    rintro _ w42 ⟨rfl, hb42⟩
                    refine ⟨.inr (fun h => Below.step h hb42), ?_⟩
                    refine RL.any rfl rfl (fun _ => Y.bT (Y.not rfl) (rfl)) ?_
                    refine RL.any rfl rfl (fun _ => Y.move) ?_
                    refine RL.off rfl rfl ?_
                    refine RL.offH rfl rfl (Below.step hS9 hb42) ?_
                    refine RL.off rfl rfl ?_
                    refine RL.off rfl rfl ?_
                    refine RL.offH rfl rfl (Below.step hS9 hb42) ?_
                    refine RL.off rfl rfl ?_
                    refine RL.off rfl rfl ?_
                    refine RL.off rfl rfl ?_
                    refine RL.any rfl rfl (fun _ => Y.pickT rfl) ?_
                    refine RL.any rfl rfl (fun _ => Y.move) ?_
                    refine RL.off rfl rfl ?_
                    refine RL.offH rfl rfl (Below.step hS9 hb42) ?_
                    refine RL.off rfl rfl ?_
                    refine RL.off rfl rfl ?_
                    refine RL.offH rfl rfl (Below.step hS9 hb42) ?_
                    refine RL.off rfl rfl ?_
                    refine RL.off rfl rfl ?_
                    refine RL.offH rfl rfl (Below.step hS9 hb42) ?_
                    refine RL.off rfl rfl ?_
                    refine RL.offH rfl rfl (Below.step hS9 hb42) ?_
                    refine RL.off rfl rfl ?_
                    refine RL.off rfl rfl ?_
                    refine RL.any rfl rfl (fun _ => Y.pickT rfl) ?_
                    refine RL.nil (thenQ.normal ?_)
                    refine WC.condT (rfl) ?_
                    refine WC.seqR rfl ?_
                    refine WL.y rfl (Y.assign) ?_
                    refine WL.nil ?_
                    refine WC.ret (inBlockQ.ret (thenQ.ret (thenQ.ret (inBlockQ.ret (thenQ.ret (endQ.one (.inr rfl) ?_))))))
                    exact ⟨⟨false, rfl, noP (bad (fun h => d1 h.1))⟩, Below.step (Below.step kL hS9) hb42⟩
                · have hje : j = s.kids.length := by omega
                  rw [hje, List.take_length] at hgood
                  refine WC.exit (thenQ.exit (thenQ.exit (inBlockQ.hit (thenQ.normal ?_))))
                  exact ⟨rfl, kL, hA, ⟨fun h => by rw [hfe]; exact ((may_cons e0).1 h).2.2.2, fun h => (may_cons e0).2 ⟨by omega, ⟨by omega, by omega⟩, hgood, by rw [hfe] at h; exact h⟩⟩, _, ov_mk ⟨rfl, trivial⟩⟩
    · clear hB
      rintro _ _ wC ⟨rfl, kC, hA, hiff, J, rfl⟩
      refine WC.seqR rfl ?_
      refine WL.y rfl (Y.loadK Try.underlying25 rfl ti25 (rfl) rfl (hA.cells)) ?_
      refine WL.call rfl (C.func go27) (rflat_ret s _ w0 _ hv0' (hw.trans (kC.mono hw.size)) (by omega)) ?_
      rintro r69 w69 ⟨⟨lk, e1, e2, e3⟩, hb69⟩
      refine WL.y rfl (Y.assign) ?_
      refine WL.nil ?_
      refine WC.seq ?_
      refine WC.seqR rfl ?_
      refine WL.y rfl (Y.assign) ?_
      refine WL.nil ?_
      refine WC.block ?_
      have k69 := Below.step kC hb69
      generalize flatS s = l at *
      refine WC.loop (fun j => l.length - j) (fun j f ds w' => (1 ≤ j ∧ (j ≤ l.length ∨ j = 1)) ∧ ds = [] ∧ Below w.heap.size w w' ∧ Below w69.heap.size w69 w' ∧ (∀ i (h : i + 1 < l.length), i + 1 < j → slt (l[i]'(by omega)).1 l[i + 1].1 = true) ∧ ∃ J, f = Go.Cx.ov J [(4, r69), (5, .int .i64 (j : Int))]) 1 ?_ ?_
      · exact ⟨by omega, rfl, k69, Below.refl _ _, fun i h h2 => absurd h2 (by omega), _, ov_mk ⟨rfl, rfl, trivial⟩⟩
      · rintro j _ _ wL ⟨⟨hj1, hj⟩, rfl, kL, kR, hup, J, rfl⟩
        refine WC.seq ?_
        refine WC.seqR rfl ?_
        refine WL.y rfl (Y.move) ?_
        refine WL.y rfl (Y.move) ?_
        refine WL.y rfl (Y.lenSl Try.underlying22 (e2.bel kR) _) ?_
        refine WL.y rfl (Y.lss rfl rfl) ?_
        refine WL.nil ?_
        refine WC.condD rfl (fun h0 => ?_) (fun h0 => ?_)
        · have hjl : j < l.length := by omega
          have hjp : j - 1 < l.length := by omega
          have hjc : j < lk.length := by omega
          have hjq : j - 1 < lk.length := by omega
          refine WC.skip (thenQ.normal ?_)
          refine WC.seq ?_
          refine WC.block ?_
          refine WC.seq ?_
          refine WC.regionB (fun _ => false) [(0, .any), (1, .any), (2, .any), (3, .any), (4, .any), (5, .held), (6, .any), (7, .any), (8, .any), (9, .any), (10, .held), (11, .any)] mixed (by kernel_rfl) (fun w15 hS15 hheap => ?_)
          refine RL.any rfl rfl (fun _ => Y.move) ?_
          refine RL.any rfl rfl (fun _ => Y.move) ?_
          refine RL.any rfl rfl (fun _ => Y.sub64 rfl rfl (by omega)) ?_
          refine RL.yex rfl rfl (Y.idx Try.underlying22 ti42 (by decide) (e2.bel kR) rfl (by omega) (by omega)) ?_
          rintro _ ⟨b79, o79, rfl, hc79⟩
          refine RL.any rfl rfl (fun _ => Y.fieldAddr fi42f0 ti9 (by decide) rfl (rfl) _) ?_
          refine RL.held rfl rfl hS15 (fun _ hb9 => Y.load1 Try.underlying9 rfl rfl (cell_bel (Cells.hd (elem_ent hjp hjq (by omega) hc79)) hb9)) ?_
          refine RL.any rfl rfl (fun _ => Y.move) ?_
          refine RL.any rfl rfl (fun _ => Y.move) ?_
          refine RL.yex rfl rfl (Y.idx Try.underlying22 ti42 (by decide) (e2.bel kR) rfl (by omega) (by omega)) ?_
          rintro _ ⟨b84, o84, rfl, hc84⟩
          refine RL.any rfl rfl (fun _ => Y.fieldAddr fi42f0 ti9 (by decide) rfl (rfl) _) ?_
          refine RL.held rfl rfl hS15 (fun _ hb9 => Y.load1 Try.underlying9 rfl rfl (cell_bel (Cells.hd (elem_ent hjl hjc (by omega) hc84)) hb9)) ?_
          refine RL.any rfl rfl (fun _ => Y.geS rfl rfl) ?_
          refine RL.nil (thenQ.normal ?_)
          cases hlt : slt l[j - 1].1 l[j].1 with
          | false =>
            have hno : ¬ rise l := fun h => by
              have := h (j - 1) (by omega)
              simp only [show j - 1 + 1 = j by omega] at this
              rw [hlt] at this
              cases this
            refine WC.condT (rfl) ?_
            refine WC.seqR rfl ?_
            refine WL.y rfl (Y.assign) ?_
            refine WL.nil ?_
            refine WC.ret (inBlockQ.ret (thenQ.ret (thenQ.ret (inBlockQ.ret (thenQ.ret (endQ.one (.inr rfl) ?_))))))
            exact ⟨⟨false, rfl, noP (fun h => hno (hiff.1 h))⟩, Below.step kL hS15⟩
          | true =>
            skip
            refine WC.condF (rfl) ?_
            refine WC.skip (inBlockQ.normal (thenQ.normal ?_))
            refine WC.region rfl ?_
            refine WL.y rfl (Y.move) ?_
            refine WL.y rfl (Y.add64 rfl rfl (by omega)) ?_
            refine WL.y rfl (Y.assign) ?_
            refine WL.nil (thenQ.normal ?_)
            exact ⟨j + 1, by omega, ⟨by omega, by omega⟩, rfl, Below.step kL hS15, Below.step kR hS15, fun i h h2 => by
              by_cases e : i + 1 = j
              · have e' : i = j - 1 := by omega
                subst e'
                simp only [show j - 1 + 1 = j by omega]
                exact hlt
              · exact hup i h (by omega), _, ov_mk ⟨rfl, rfl, trivial⟩⟩
        · refine WC.exit (thenQ.exit (thenQ.exit (inBlockQ.hit (thenQ.normal ?_))))
          refine WC.seqR rfl ?_
          refine WL.y rfl (Y.assign) ?_
          refine WL.nil ?_
          refine WC.ret (endQ.one (.inr rfl) ?_)
          exact ⟨⟨true, rfl, fun _ => hiff.2 (fun i h => hup i h (by omega)), fun _ => rfl⟩, kL⟩
end Go.Proofs.Ytpefeefmdlfafaa
