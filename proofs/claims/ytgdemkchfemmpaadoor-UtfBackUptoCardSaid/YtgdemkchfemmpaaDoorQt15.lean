/-
  law: quotes; the stage's theorem.
-/
import Derived.Test.YtgdemkchfemmpaaDoorQt14
namespace Go.Proofs.YtgdemkchfemmpaaDoor
open Go Go.RowKit Go.Cx
set_option linter.unusedVariables false
set_option maxHeartbeats 8000000
theorem rquote_eq (w : World) (s : List UInt8) (hs : s.length ≤ 1099511627776) {v0 : Value} (h : quoteV s = v0) : Ret Tryd.prog 13 [strv s].toArray w fun v w' => v = v0 ∧ Below w.heap.size w w' := by
  subst h
  exact rquote_ret w s hs
theorem utfQuotes_ret (w : World) (s : List UInt8) (hs : s.length ≤ 1048576) (hT : Tabs w) :
    Ret Tryd.prog 4 [strv s].toArray w fun v w' => v = .bool true ∧ Below w.heap.size w w' := by
  have hq : ∃ q e, quoteV s = .tuple #[strv q, .int .i64 e] := by
    unfold quoteV
    by_cases h : Lib.validD s = true
    · rw [if_pos h]; exact ⟨_, _, rfl⟩
    · rw [if_neg h]; exact ⟨_, _, rfl⟩
  obtain ⟨q, e, hq⟩ := hq
  refine Ret.of (n := 28) (rs := #[.tmp 2]) Tryd.func4 rfl rfl rfl (by simp) ?_
  refine WC.seqR rfl ?_
  refine WL.y rfl (Y.assign) ?_
  refine WL.nil ?_
  refine WC.seqR rfl ?_
  refine WL.y rfl (Y.move) ?_
  refine WL.call rfl (C.func go12) (quote_eq _ s hT (by omega) hq) ?_
  rintro _ w9 ⟨rfl, hb9⟩
  have k9 := hb9
  refine WL.y rfl (Y.move) ?_
  refine WL.y rfl (Y.extract rfl rfl) ?_
  refine WL.y rfl (Y.extract rfl rfl) ?_
  refine WL.y rfl (Y.assign) ?_
  refine WL.y rfl (Y.assign) ?_
  refine WL.nil ?_
  refine WC.seqR rfl ?_
  refine WL.y rfl (Y.move) ?_
  refine WL.call rfl (C.func go13) (rquote_eq _ s (by omega) hq) ?_
  rintro _ w14 ⟨rfl, hb14⟩
  have k14 := Below.step k9 hb14
  refine WL.y rfl (Y.move) ?_
  refine WL.y rfl (Y.extract rfl rfl) ?_
  refine WL.y rfl (Y.extract rfl rfl) ?_
  refine WL.y rfl (Y.assign) ?_
  refine WL.y rfl (Y.assign) ?_
  refine WL.nil ?_
  refine WC.seqR rfl ?_
  refine WL.y rfl (Y.move) ?_
  refine WL.y rfl (Y.move) ?_
  refine WL.y rfl (Y.bT (Y.eqS rfl rfl) (decide_eq_true rfl)) ?_
  refine WL.y rfl (Y.move) ?_
  refine WL.y rfl (Y.move) ?_
  refine WL.y rfl (Y.move) ?_
  refine WL.y rfl (Y.dT (Y.eqi rfl rfl) (rfl)) ?_
  refine WL.y rfl (Y.pickT rfl) ?_
  refine WL.y rfl (Y.move) ?_
  refine WL.call rfl (C.func go11) (known_ret _ (hT.bel k14)) ?_
  rintro _ w26 ⟨rfl, hb26⟩
  have k26 := Below.step k14 hb26
  refine WL.y rfl (Y.pickT rfl) ?_
  refine WL.y rfl (Y.assign) ?_
  refine WL.nil ?_
  refine WC.ret (endQ.one (.inr rfl) ?_)
  exact ⟨rfl, k26⟩
theorem utfBack_ret (w : World) (s : List UInt8) (hs : s.length ≤ 1048576) (a : List UInt8) (ha : a.length ≤ 1048576) (b : List UInt8) (hb : b.length ≤ 1048576) (hT : Tabs w) :
    Ret Tryd.prog 6 [strv s, strv a, strv b].toArray w fun v w' => v = .bool true ∧ Below w.heap.size w w' := by
  have hql := quoteL_len s
  have hge := quote_ge s
  by_cases hv : Lib.validD s = true
  · have hq : quoteV s = .tuple #[strv (quoteL s), .int .i64 0] := if_pos hv
    have hback := quote_back a b s hv
    obtain ⟨u, m, c, hu⟩ : ∃ u m c, unquoteS b 0 = (u, m, c) := ⟨_, _, _, rfl⟩
    have hul := unquote_len hu
    have huq : c = 0 → quoteV u = .tuple #[strv (quoteL u), .int .i64 0] ∧ unquoteS (quoteL u) 0 = (u, (quoteL u).length, 0) := by
      rintro rfl
      have hv2 := unquote_valid hu
      have := quote_back [] [] u hv2
      rw [List.nil_append, List.append_nil] at this
      refine ⟨if_pos hv2, this.trans ?_⟩
      simp
    have hqlu := quoteL_len u
    generalize hQ : quoteL s = q at *
    refine Ret.of (n := 112) (rs := #[.tmp 6]) Tryd.func6 rfl rfl rfl (by simp) ?_
    refine WC.seqR rfl ?_
    refine WL.y rfl (Y.assign) ?_
    refine WL.nil ?_
    refine WC.seq ?_
    refine WC.seqR rfl ?_
    refine WL.y rfl (Y.move) ?_
    refine WL.call rfl (C.func go10) (valid_ret _ s (by omega)) ?_
    rintro _ _ ⟨rfl, rfl⟩
    refine WL.y rfl (Y.not rfl) ?_
    refine WL.nil ?_
    refine WC.condF (by rw [hv]; rfl) ?_
    refine WC.skip (thenQ.normal ?_)
    refine WC.seqR rfl ?_
    refine WL.y rfl (Y.move) ?_
    refine WL.call rfl (C.func go12) (quote_eq _ s hT (by omega) hq) ?_
    rintro _ w27 ⟨rfl, hb27⟩
    have k27 := hb27
    refine WL.y rfl (Y.move) ?_
    refine WL.y rfl (Y.extract rfl rfl) ?_
    refine WL.y rfl (Y.extract rfl rfl) ?_
    refine WL.y rfl (Y.assign) ?_
    refine WL.y rfl (Y.assign) ?_
    refine WL.nil ?_
    refine WC.seqR rfl ?_
    refine WL.y rfl (Y.move) ?_
    refine WL.y rfl (Y.move) ?_
    refine WL.y rfl (Y.catS rfl rfl (by omega)) ?_
    refine WL.y rfl (Y.move) ?_
    refine WL.y rfl (Y.catS rfl rfl (by rw [List.length_append]; omega)) ?_
    refine WL.y rfl (Y.move) ?_
    refine WL.y rfl (Y.lenS Tryd.underlying9 rfl _) ?_
    refine WL.call rfl (C.func go14) (unquote_eq _ (a ++ q ++ b) (a.length : Int) (by omega) (hT.bel k27) (by rw [List.length_append, List.length_append]; omega) hback) ?_
    rintro _ w38 ⟨rfl, hb38⟩
    have k38 := Below.step k27 hb38
    refine WL.y rfl (Y.move) ?_
    refine WL.y rfl (Y.extract rfl rfl) ?_
    refine WL.y rfl (Y.extract rfl rfl) ?_
    refine WL.y rfl (Y.extract rfl rfl) ?_
    refine WL.y rfl (Y.assign) ?_
    refine WL.y rfl (Y.assign) ?_
    refine WL.y rfl (Y.assign) ?_
    refine WL.nil ?_
    refine WC.seq ?_
    refine WC.seqR rfl ?_
    refine WL.y rfl (Y.move) ?_
    refine WL.y rfl (Y.dF (Y.nei rfl rfl) (by decide)) ?_
    refine WL.y rfl (Y.move) ?_
    refine WL.y rfl (Y.move) ?_
    refine WL.y rfl (Y.dF (Y.nei rfl rfl) (by decide)) ?_
    refine WL.y rfl (Y.pickF rfl) ?_
    refine WL.y rfl (Y.move) ?_
    refine WL.y rfl (Y.move) ?_
    refine WL.y rfl (Y.move) ?_
    refine WL.y rfl (Y.bF (Y.neS rfl rfl) (by simp)) ?_
    refine WL.y rfl (Y.pickF rfl) ?_
    refine WL.y rfl (Y.move) ?_
    refine WL.y rfl (Y.move) ?_
    refine WL.y rfl (Y.move) ?_
    refine WL.y rfl (Y.lenS Tryd.underlying9 rfl _) ?_
    refine WL.y rfl (Y.move) ?_
    refine WL.y rfl (Y.lenS Tryd.underlying9 rfl _) ?_
    refine WL.y rfl (Y.add64 rfl rfl (by omega)) ?_
    refine WL.y rfl (Y.dF (Y.nei rfl rfl) (by omega)) ?_
    refine WL.y rfl (Y.pickF rfl) ?_
    refine WL.nil ?_
    refine WC.condF (rfl) ?_
    refine WC.skip (thenQ.normal ?_)
    refine WC.seq ?_
    refine WC.seqR rfl ?_
    refine WL.y rfl (Y.assign) ?_
    refine WL.nil ?_
    refine WC.block ?_
    have k38 : Below w.heap.size w w38 := k38
    refine WC.loop (fun i => q.length - i) (fun i f ds w' => i ≤ q.length ∧ ds = [] ∧ w' = w38 ∧ ∃ J, f = ov J [(0, strv s), (1, strv a), (2, strv b), (7, strv q), (12, .int .i64 (i : Int))]) 0 ?_ ?_
    · exact ⟨by omega, rfl, rfl, _, ov_mk ⟨rfl, rfl, rfl, rfl, rfl, trivial⟩⟩
    · rintro i _ _ _ ⟨hi, rfl, rfl, J, rfl⟩
      refine WC.seq ?_
      refine WC.seqR rfl ?_
      refine WL.y rfl (Y.move) ?_
      refine WL.y rfl (Y.move) ?_
      refine WL.y rfl (Y.lenS Tryd.underlying9 rfl _) ?_
      refine WL.y rfl (Y.lss rfl rfl) ?_
      refine WL.nil ?_
      refine WC.condD rfl (fun h0 => ?_) (fun h0 => ?_)
      · have hil : i < q.length := by omega
        have hx := hge (q.getD i 0) (by rw [List.getD_eq_getElem?_getD, List.getElem?_eq_getElem hil]; exact List.getElem_mem hil)
        refine WC.skip (thenQ.normal ?_)
        refine WC.seq ?_
        refine WC.block ?_
        refine WC.seqR rfl ?_
        refine WL.y rfl (Y.move) ?_
        refine WL.y rfl (Y.move) ?_
        refine WL.y rfl (Y.idxN (i) Tryd.underlying9 rfl rfl (by omega) (by omega) _) ?_
        refine WL.y rfl (Y.dF (Y.lss rfl rfl) (by omega)) ?_
        refine WL.nil ?_
        refine WC.condF (rfl) ?_
        refine WC.skip (inBlockQ.normal (thenQ.normal ?_))
        refine WC.region rfl ?_
        refine WL.y rfl (Y.move) ?_
        refine WL.y rfl (Y.add64 rfl rfl (by omega)) ?_
        refine WL.y rfl (Y.assign) ?_
        refine WL.nil (thenQ.normal ?_)
        exact ⟨i + 1, by omega, by omega, rfl, rfl, _, ov_mk ⟨rfl, rfl, rfl, rfl, rfl, trivial⟩⟩
      · refine WC.exit (thenQ.exit (thenQ.exit (inBlockQ.hit (thenQ.normal ?_))))
        refine WC.seqR rfl ?_
        refine WL.y rfl (Y.move) ?_
        refine WL.call rfl (C.func go14) (unquote_eq _ b 0 (by decide) (hT.bel k38) (by omega) hu) ?_
        rintro _ w74 ⟨rfl, hb74⟩
        have k74 := Below.step k38 hb74
        refine WL.y rfl (Y.move) ?_
        refine WL.y rfl (Y.extract rfl rfl) ?_
        refine WL.y rfl (Y.extract rfl rfl) ?_
        refine WL.y rfl (Y.extract rfl rfl) ?_
        refine WL.y rfl (Y.assign) ?_
        refine WL.y rfl (Y.assign) ?_
        refine WL.y rfl (Y.assign) ?_
        refine WL.nil ?_
        refine WC.seq ?_
        refine WC.seqR rfl ?_
        refine WL.y rfl (Y.move) ?_
        refine WL.y rfl (Y.nei rfl rfl) ?_
        refine WL.nil ?_
        refine WC.condD rfl (fun h1 => ?_) (fun h1 => ?_)
        · refine WC.seqR rfl ?_
          refine WL.call rfl (C.func go11) (known_ret _ (hT.bel k74)) ?_
          rintro _ w80 ⟨rfl, hb80⟩
          have k80 := Below.step k74 hb80
          refine WL.y rfl (Y.assign) ?_
          refine WL.nil ?_
          refine WC.ret (thenQ.ret (endQ.one (.inr rfl) ?_))
          exact ⟨rfl, k80⟩
        · have hc0 : c = 0 := by omega
          have hqq := huq hc0
          obtain ⟨huq1, huq2⟩ := hqq
          refine WC.skip (thenQ.normal ?_)
          refine WC.seqR rfl ?_
          refine WL.y rfl (Y.move) ?_
          refine WL.call rfl (C.func go12) (quote_eq _ u (hT.bel k74) (by omega) huq1) ?_
          rintro _ w83 ⟨rfl, hb83⟩
          have k83 := Below.step k74 hb83
          refine WL.y rfl (Y.move) ?_
          refine WL.y rfl (Y.extract rfl rfl) ?_
          refine WL.y rfl (Y.extract rfl rfl) ?_
          refine WL.y rfl (Y.assign) ?_
          refine WL.y rfl (Y.assign) ?_
          refine WL.nil ?_
          refine WC.seqR rfl ?_
          refine WL.y rfl (Y.move) ?_
          refine WL.call rfl (C.func go14) (unquote_eq _ (quoteL u) 0 (by decide) (hT.bel k83) (by omega) huq2) ?_
          rintro _ w88 ⟨rfl, hb88⟩
          have k88 := Below.step k83 hb88
          refine WL.y rfl (Y.move) ?_
          refine WL.y rfl (Y.extract rfl rfl) ?_
          refine WL.y rfl (Y.extract rfl rfl) ?_
          refine WL.y rfl (Y.extract rfl rfl) ?_
          refine WL.y rfl (Y.assign) ?_
          refine WL.y rfl (Y.assign) ?_
          refine WL.y rfl (Y.assign) ?_
          refine WL.nil ?_
          refine WC.seqR rfl ?_
          refine WL.y rfl (Y.move) ?_
          refine WL.y rfl (Y.dT (Y.eqi rfl rfl) (rfl)) ?_
          refine WL.y rfl (Y.move) ?_
          refine WL.y rfl (Y.move) ?_
          refine WL.y rfl (Y.dT (Y.eqi rfl rfl) (rfl)) ?_
          refine WL.y rfl (Y.pickT rfl) ?_
          refine WL.y rfl (Y.move) ?_
          refine WL.y rfl (Y.move) ?_
          refine WL.y rfl (Y.move) ?_
          refine WL.y rfl (Y.bT (Y.eqS rfl rfl) (decide_eq_true rfl)) ?_
          refine WL.y rfl (Y.pickT rfl) ?_
          refine WL.y rfl (Y.move) ?_
          refine WL.y rfl (Y.move) ?_
          refine WL.y rfl (Y.move) ?_
          refine WL.y rfl (Y.lenS Tryd.underlying9 rfl _) ?_
          refine WL.y rfl (Y.dT (Y.eqi rfl rfl) (rfl)) ?_
          refine WL.y rfl (Y.pickT rfl) ?_
          refine WL.y rfl (Y.move) ?_
          refine WL.call rfl (C.func go11) (known_ret _ (hT.bel k88)) ?_
          rintro _ w110 ⟨rfl, hb110⟩
          have k110 := Below.step k88 hb110
          refine WL.y rfl (Y.pickT rfl) ?_
          refine WL.y rfl (Y.assign) ?_
          refine WL.nil ?_
          refine WC.ret (endQ.one (.inr rfl) ?_)
          exact ⟨rfl, k110⟩
  · have hv : Lib.validD s = false := by simpa using hv
    refine Ret.of (n := 112) (rs := #[.tmp 6]) Tryd.func6 rfl rfl rfl (by simp) ?_
    refine WC.seqR rfl ?_
    refine WL.y rfl (Y.assign) ?_
    refine WL.nil ?_
    refine WC.seq ?_
    refine WC.seqR rfl ?_
    refine WL.y rfl (Y.move) ?_
    refine WL.call rfl (C.func go10) (valid_ret _ s (by omega)) ?_
    rintro _ _ ⟨rfl, rfl⟩
    refine WL.y rfl (Y.not rfl) ?_
    refine WL.nil ?_
    refine WC.condT (by rw [hv]; rfl) ?_
    refine WC.seqR rfl ?_
    refine WL.call rfl (C.func go11) (known_ret _ hT) ?_
    rintro _ w24 ⟨rfl, hb24⟩
    have k24 := hb24
    refine WL.y rfl (Y.assign) ?_
    refine WL.nil ?_
    refine WC.ret (thenQ.ret (endQ.one (.inr rfl) ?_))
    exact ⟨rfl, k24⟩
end Go.Proofs.YtgdemkchfemmpaaDoor
