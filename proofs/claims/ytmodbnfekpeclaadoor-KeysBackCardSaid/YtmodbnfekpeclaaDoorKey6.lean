/-
  keys: KeysPrefix, KeysLeast, KeysBack.
-/
import Derived.Test.YtmodbnfekpeclaaDoorKey5
namespace Go.Proofs.YtmodbnfekpeclaaDoor
open Go Go.RowKit Go.Cx
set_option linter.unusedVariables false
theorem keysPrefix_ret (w : World) (p : List UInt8) (hp : p.length ≤ 140737488351232) (k : List UInt8) (hk : k.length ≤ 140737488351232) (hT : Tabs w) :
    Ret Tryd.prog 9 [strv p, strv k].toArray w fun v w' => v = .bool true ∧ Below w.heap.size w w' := by
  by_cases h : p.length ≤ k.length
  · have e1 : decide (beg k p) = decide (k.take p.length = p) := decide_eq_decide.mpr (beg_iff k p h)
    refine Ret.of (n := 44) (rs := #[.tmp 4]) Tryd.func9 rfl rfl rfl (by simp) ?_
    refine WC.seqR rfl ?_
    refine WL.y rfl (Y.assign) ?_
    refine WL.nil ?_
    refine WC.seqR rfl ?_
    refine WL.y rfl (Y.move) ?_
    refine WL.call rfl (C.func go13) (end_ret _ p (by omega)) ?_
    rintro _ w10 ⟨rfl, hb10⟩
    have k10 := hb10
    refine WL.y rfl (Y.move) ?_
    refine WL.y rfl (Y.extract rfl rfl) ?_
    refine WL.y rfl (Y.extract rfl rfl) ?_
    refine WL.y rfl (Y.assign) ?_
    refine WL.y rfl (Y.assign) ?_
    refine WL.nil ?_
    refine WC.seqR rfl ?_
    refine WL.y rfl (Y.move) ?_
    refine WL.y rfl (Y.lenS Tryd.underlying9 rfl _) ?_
    refine WL.y rfl (Y.move) ?_
    refine WL.y rfl (Y.lenS Tryd.underlying9 rfl _) ?_
    refine WL.y rfl (Y.dT (Y.geq rfl rfl) (by omega)) ?_
    refine WL.y rfl (Y.move) ?_
    refine WL.y rfl (Y.move) ?_
    refine WL.y rfl (Y.move) ?_
    refine WL.y rfl (Y.lenS Tryd.underlying9 rfl _) ?_
    refine WL.y rfl (Y.sliceToN _ Tryd.underlying9 rfl rfl rfl (by omega) _) ?_
    refine WL.y rfl (Y.move) ?_
    refine WL.y rfl (Y.eqS rfl rfl) ?_
    refine WL.y rfl (Y.pickT rfl) ?_
    refine WL.y rfl (Y.assign) ?_
    refine WL.nil ?_
    refine WC.seqR rfl ?_
    refine WL.y rfl (Y.move) ?_
    refine WL.y rfl (Y.move) ?_
    refine WL.call rfl (C.func go19) (begins_ret _ k p) ?_
    rintro _ _ ⟨rfl, rfl⟩
    refine WL.y rfl (Y.move) ?_
    refine WL.y rfl (Y.bT (Y.eqb Tryd.underlying4 rfl rfl) (by rw [e1]; simp)) ?_
    refine WL.y rfl (Y.move) ?_
    refine WL.y rfl (Y.move) ?_
    refine WL.y rfl (Y.move) ?_
    refine WL.y rfl (Y.move) ?_
    refine WL.y rfl (Y.move) ?_
    refine WL.y rfl (Y.not rfl) ?_
    refine WL.call rfl (C.func go17) (within_ret _ k p (endL p) (!endB p)) ?_
    rintro _ _ ⟨rfl, rfl⟩
    refine WL.y rfl (Y.move) ?_
    refine WL.y rfl (Y.bT (Y.eqb Tryd.underlying4 rfl rfl) (by rw [within_beg, e1]; simp)) ?_
    refine WL.y rfl (Y.pickT rfl) ?_
    refine WL.y rfl (Y.move) ?_
    refine WL.call rfl (C.func go12) (known_ret _ (hT.bel k10)) ?_
    rintro _ w42 ⟨rfl, hb42⟩
    have k42 := Below.step k10 hb42
    refine WL.y rfl (Y.pickT rfl) ?_
    refine WL.y rfl (Y.assign) ?_
    refine WL.nil ?_
    refine WC.ret (endQ.one (.inr rfl) ?_)
    exact ⟨rfl, k42⟩
  · have e1 : decide (beg k p) = false := decide_eq_false (fun hb => h hb.1)
    refine Ret.of (n := 44) (rs := #[.tmp 4]) Tryd.func9 rfl rfl rfl (by simp) ?_
    refine WC.seqR rfl ?_
    refine WL.y rfl (Y.assign) ?_
    refine WL.nil ?_
    refine WC.seqR rfl ?_
    refine WL.y rfl (Y.move) ?_
    refine WL.call rfl (C.func go13) (end_ret _ p (by omega)) ?_
    rintro _ w10 ⟨rfl, hb10⟩
    have k10 := hb10
    refine WL.y rfl (Y.move) ?_
    refine WL.y rfl (Y.extract rfl rfl) ?_
    refine WL.y rfl (Y.extract rfl rfl) ?_
    refine WL.y rfl (Y.assign) ?_
    refine WL.y rfl (Y.assign) ?_
    refine WL.nil ?_
    refine WC.seqR rfl ?_
    refine WL.y rfl (Y.move) ?_
    refine WL.y rfl (Y.lenS Tryd.underlying9 rfl _) ?_
    refine WL.y rfl (Y.move) ?_
    refine WL.y rfl (Y.lenS Tryd.underlying9 rfl _) ?_
    refine WL.y rfl (Y.dF (Y.geq rfl rfl) (by omega)) ?_
    refine WL.y rfl (Y.move) ?_
    refine WL.off rfl ?_
    refine WL.off rfl ?_
    refine WL.off rfl ?_
    refine WL.off rfl ?_
    refine WL.off rfl ?_
    refine WL.off rfl ?_
    refine WL.y rfl (Y.pickF rfl) ?_
    refine WL.y rfl (Y.assign) ?_
    refine WL.nil ?_
    refine WC.seqR rfl ?_
    refine WL.y rfl (Y.move) ?_
    refine WL.y rfl (Y.move) ?_
    refine WL.call rfl (C.func go19) (begins_ret _ k p) ?_
    rintro _ _ ⟨rfl, rfl⟩
    refine WL.y rfl (Y.move) ?_
    refine WL.y rfl (Y.bT (Y.eqb Tryd.underlying4 rfl rfl) (by rw [e1]; rfl)) ?_
    refine WL.y rfl (Y.move) ?_
    refine WL.y rfl (Y.move) ?_
    refine WL.y rfl (Y.move) ?_
    refine WL.y rfl (Y.move) ?_
    refine WL.y rfl (Y.move) ?_
    refine WL.y rfl (Y.not rfl) ?_
    refine WL.call rfl (C.func go17) (within_ret _ k p (endL p) (!endB p)) ?_
    rintro _ _ ⟨rfl, rfl⟩
    refine WL.y rfl (Y.move) ?_
    refine WL.y rfl (Y.bT (Y.eqb Tryd.underlying4 rfl rfl) (by rw [within_beg, e1]; rfl)) ?_
    refine WL.y rfl (Y.pickT rfl) ?_
    refine WL.y rfl (Y.move) ?_
    refine WL.call rfl (C.func go12) (known_ret _ (hT.bel k10)) ?_
    rintro _ w42 ⟨rfl, hb42⟩
    have k42 := Below.step k10 hb42
    refine WL.y rfl (Y.pickT rfl) ?_
    refine WL.y rfl (Y.assign) ?_
    refine WL.nil ?_
    refine WC.ret (endQ.one (.inr rfl) ?_)
    exact ⟨rfl, k42⟩
theorem keysLeast_ret (w : World) (p : List UInt8) (hp : p.length ≤ 140737488351232) (r : List UInt8) (hr : r.length ≤ 140737488351232) (o : List UInt8) (ho : o.length ≤ 140737488351232) (hT : Tabs w) :
    Ret Tryd.prog 5 [strv p, strv r, strv o].toArray w fun v w' => v = .bool true ∧ Below w.heap.size w w' := by
  cases hb : endB p
  · have hqq := end_all p hb
    obtain ⟨he, hall⟩ := hqq
    refine Ret.of (n := 64) (rs := #[.tmp 6]) Tryd.func5 rfl rfl rfl (by simp) ?_
    refine WC.seqR rfl ?_
    refine WL.y rfl (Y.assign) ?_
    refine WL.nil ?_
    refine WC.seqR rfl ?_
    refine WL.y rfl (Y.move) ?_
    refine WL.call rfl (C.func go13) (end_ret _ p (by omega)) ?_
    rintro _ w12 ⟨rfl, hb12⟩
    have k12 := hb12
    refine WL.y rfl (Y.move) ?_
    refine WL.y rfl (Y.extract rfl rfl) ?_
    refine WL.y rfl (Y.extract rfl rfl) ?_
    refine WL.y rfl (Y.assign) ?_
    refine WL.y rfl (Y.assign) ?_
    refine WL.nil ?_
    refine WC.seq ?_
    refine WC.seqR rfl ?_
    refine WL.y rfl (Y.move) ?_
    refine WL.y rfl (Y.bT (Y.not rfl) (by rw [hb]; rfl)) ?_
    refine WL.nil ?_
    refine WC.condT (rfl) ?_
    refine WC.seq ?_
    refine WC.seqR rfl ?_
    refine WL.y rfl (Y.assign) ?_
    refine WL.nil ?_
    refine WC.block ?_
    refine WC.loop (fun i => p.length - i) (fun i f ds w' => i ≤ p.length ∧ ds = [] ∧ Below w.heap.size w w' ∧ ∃ J, f = ov J [(0, strv p), (7, strv (endL p)), (9, .int .i64 (i : Int))]) 0 ?_ ?_
    · exact ⟨by omega, rfl, hb12, _, ov_mk ⟨rfl, rfl, rfl, trivial⟩⟩
    · rintro i _ _ w1 ⟨hi, rfl, hb1, J, rfl⟩
      refine WC.seq ?_
      refine WC.seqR rfl ?_
      refine WL.y rfl (Y.move) ?_
      refine WL.y rfl (Y.move) ?_
      refine WL.y rfl (Y.lenS Tryd.underlying9 rfl _) ?_
      refine WL.y rfl (Y.lss rfl rfl) ?_
      refine WL.nil ?_
      refine WC.condD rfl (fun h1 => ?_) (fun h1 => ?_)
      · have hpi := hall i (by omega)
        refine WC.skip (thenQ.normal ?_)
        refine WC.seq ?_
        refine WC.block ?_
        refine WC.seqR rfl ?_
        refine WL.y rfl (Y.move) ?_
        refine WL.y rfl (Y.move) ?_
        refine WL.y rfl (Y.idxN _ Tryd.underlying9 rfl rfl rfl (by omega) _) ?_
        refine WL.y rfl (Y.dF (Y.nei rfl rfl) (by rw [hpi]; simp)) ?_
        refine WL.nil ?_
        refine WC.condF (rfl) ?_
        refine WC.skip (inBlockQ.normal (thenQ.normal ?_))
        refine WC.region rfl ?_
        refine WL.y rfl (Y.move) ?_
        refine WL.y rfl (Y.add64 rfl rfl (by omega)) ?_
        refine WL.y rfl (Y.assign) ?_
        refine WL.nil (thenQ.normal ?_)
        exact ⟨i + 1, by omega, by omega, rfl, hb1, _, ov_mk ⟨rfl, rfl, rfl, trivial⟩⟩
      · refine WC.exit (thenQ.exit (thenQ.exit (inBlockQ.hit (thenQ.normal ?_))))
        refine WC.seqR rfl ?_
        refine WL.y rfl (Y.move) ?_
        refine WL.y rfl (Y.bT (Y.eqS (b := []) rfl rfl) (by rw [he]; rfl)) ?_
        refine WL.y rfl (Y.move) ?_
        refine WL.call rfl (C.func go12) (known_ret _ (hT.bel hb1)) ?_
        rintro _ w30 ⟨rfl, hb30⟩
        have k30 := Below.step hb1 hb30
        refine WL.y rfl (Y.pickT rfl) ?_
        refine WL.y rfl (Y.assign) ?_
        refine WL.nil ?_
        refine WC.ret (thenQ.ret (endQ.one (.inr rfl) ?_))
        exact ⟨rfl, k30⟩
  · have hw : ∀ k, (!slt k p && slt k (endL p)) = decide (beg k p) := by
      intro k
      have := within_beg k p
      unfold withinS at this
      rw [hb] at this
      simpa using this
    have h1 : slt (p ++ r) (endL p) = true := by
      have := hw (p ++ r)
      rw [decide_eq_true (beg_append p r)] at this
      simp only [Bool.and_eq_true] at this
      exact this.2
    have h2 := hw o
    cases h3 : slt o p
    · cases h4 : slt o (endL p)
      · skip
        refine Ret.of (n := 64) (rs := #[.tmp 6]) Tryd.func5 rfl rfl rfl (by simp) ?_
        refine WC.seqR rfl ?_
        refine WL.y rfl (Y.assign) ?_
        refine WL.nil ?_
        refine WC.seqR rfl ?_
        refine WL.y rfl (Y.move) ?_
        refine WL.call rfl (C.func go13) (end_ret _ p (by omega)) ?_
        rintro _ w12 ⟨rfl, hb12⟩
        have k12 := hb12
        refine WL.y rfl (Y.move) ?_
        refine WL.y rfl (Y.extract rfl rfl) ?_
        refine WL.y rfl (Y.extract rfl rfl) ?_
        refine WL.y rfl (Y.assign) ?_
        refine WL.y rfl (Y.assign) ?_
        refine WL.nil ?_
        refine WC.seq ?_
        refine WC.seqR rfl ?_
        refine WL.y rfl (Y.move) ?_
        refine WL.y rfl (Y.bF (Y.not rfl) (by rw [hb]; rfl)) ?_
        refine WL.nil ?_
        refine WC.condF (rfl) ?_
        refine WC.skip (thenQ.normal ?_)
        refine WC.seq ?_
        refine WC.seqR rfl ?_
        refine WL.y rfl (Y.move) ?_
        refine WL.y rfl (Y.move) ?_
        refine WL.y rfl (Y.catS rfl rfl (by omega)) ?_
        refine WL.y rfl (Y.move) ?_
        refine WL.y rfl (Y.bF (Y.geS rfl rfl) (by rw [h1]; rfl)) ?_
        refine WL.y rfl (Y.move) ?_
        refine WL.y rfl (Y.move) ?_
        refine WL.y rfl (Y.move) ?_
        refine WL.y rfl (Y.bT (Y.geS rfl rfl) (by rw [h3]; rfl)) ?_
        refine WL.y rfl (Y.move) ?_
        refine WL.y rfl (Y.move) ?_
        refine WL.y rfl (Y.move) ?_
        refine WL.y rfl (Y.bF (Y.ltS rfl rfl) (h4)) ?_
        refine WL.y rfl (Y.pickT rfl) ?_
        refine WL.y rfl (Y.move) ?_
        refine WL.off rfl ?_
        refine WL.off rfl ?_
        refine WL.off rfl ?_
        refine WL.off rfl ?_
        refine WL.off rfl ?_
        refine WL.off rfl ?_
        refine WL.off rfl ?_
        refine WL.off rfl ?_
        refine WL.off rfl ?_
        refine WL.off rfl ?_
        refine WL.off rfl ?_
        refine WL.off rfl ?_
        refine WL.off rfl ?_
        refine WL.off rfl ?_
        refine WL.y rfl (Y.pickF rfl) ?_
        refine WL.y rfl (Y.pickF rfl) ?_
        refine WL.nil ?_
        refine WC.condF (rfl) ?_
        refine WC.skip (thenQ.normal ?_)
        refine WC.seqR rfl ?_
        refine WL.call rfl (C.func go12) (known_ret _ (hT.bel k12)) ?_
        rintro _ w63 ⟨rfl, hb63⟩
        have k63 := Below.step k12 hb63
        refine WL.y rfl (Y.assign) ?_
        refine WL.nil ?_
        refine WC.ret (endQ.one (.inr rfl) ?_)
        exact ⟨rfl, k63⟩
      · rw [h3, h4] at h2
        have hbg : beg o p := of_decide_eq_true h2.symm
        have hl := hbg.1
        refine Ret.of (n := 64) (rs := #[.tmp 6]) Tryd.func5 rfl rfl rfl (by simp) ?_
        refine WC.seqR rfl ?_
        refine WL.y rfl (Y.assign) ?_
        refine WL.nil ?_
        refine WC.seqR rfl ?_
        refine WL.y rfl (Y.move) ?_
        refine WL.call rfl (C.func go13) (end_ret _ p (by omega)) ?_
        rintro _ w12 ⟨rfl, hb12⟩
        have k12 := hb12
        refine WL.y rfl (Y.move) ?_
        refine WL.y rfl (Y.extract rfl rfl) ?_
        refine WL.y rfl (Y.extract rfl rfl) ?_
        refine WL.y rfl (Y.assign) ?_
        refine WL.y rfl (Y.assign) ?_
        refine WL.nil ?_
        refine WC.seq ?_
        refine WC.seqR rfl ?_
        refine WL.y rfl (Y.move) ?_
        refine WL.y rfl (Y.bF (Y.not rfl) (by rw [hb]; rfl)) ?_
        refine WL.nil ?_
        refine WC.condF (rfl) ?_
        refine WC.skip (thenQ.normal ?_)
        refine WC.seq ?_
        refine WC.seqR rfl ?_
        refine WL.y rfl (Y.move) ?_
        refine WL.y rfl (Y.move) ?_
        refine WL.y rfl (Y.catS rfl rfl (by omega)) ?_
        refine WL.y rfl (Y.move) ?_
        refine WL.y rfl (Y.bF (Y.geS rfl rfl) (by rw [h1]; rfl)) ?_
        refine WL.y rfl (Y.move) ?_
        refine WL.y rfl (Y.move) ?_
        refine WL.y rfl (Y.move) ?_
        refine WL.y rfl (Y.bT (Y.geS rfl rfl) (by rw [h3]; rfl)) ?_
        refine WL.y rfl (Y.move) ?_
        refine WL.y rfl (Y.move) ?_
        refine WL.y rfl (Y.move) ?_
        refine WL.y rfl (Y.bT (Y.ltS rfl rfl) (h4)) ?_
        refine WL.y rfl (Y.pickT rfl) ?_
        refine WL.y rfl (Y.move) ?_
        refine WL.y rfl (Y.move) ?_
        refine WL.y rfl (Y.lenS Tryd.underlying9 rfl _) ?_
        refine WL.y rfl (Y.move) ?_
        refine WL.y rfl (Y.lenS Tryd.underlying9 rfl _) ?_
        refine WL.y rfl (Y.dT (Y.geq rfl rfl) (by omega)) ?_
        refine WL.y rfl (Y.move) ?_
        refine WL.y rfl (Y.move) ?_
        refine WL.y rfl (Y.move) ?_
        refine WL.y rfl (Y.lenS Tryd.underlying9 rfl _) ?_
        refine WL.y rfl (Y.sliceToN _ Tryd.underlying9 rfl rfl rfl (by omega) _) ?_
        refine WL.y rfl (Y.move) ?_
        refine WL.y rfl (Y.bT (Y.eqS rfl rfl) (decide_eq_true hbg.2)) ?_
        refine WL.y rfl (Y.pickT rfl) ?_
        refine WL.y rfl (Y.not rfl) ?_
        refine WL.y rfl (Y.pickT rfl) ?_
        refine WL.y rfl (Y.pickF rfl) ?_
        refine WL.nil ?_
        refine WC.condF (rfl) ?_
        refine WC.skip (thenQ.normal ?_)
        refine WC.seqR rfl ?_
        refine WL.call rfl (C.func go12) (known_ret _ (hT.bel k12)) ?_
        rintro _ w63 ⟨rfl, hb63⟩
        have k63 := Below.step k12 hb63
        refine WL.y rfl (Y.assign) ?_
        refine WL.nil ?_
        refine WC.ret (endQ.one (.inr rfl) ?_)
        exact ⟨rfl, k63⟩
    · skip
      refine Ret.of (n := 64) (rs := #[.tmp 6]) Tryd.func5 rfl rfl rfl (by simp) ?_
      refine WC.seqR rfl ?_
      refine WL.y rfl (Y.assign) ?_
      refine WL.nil ?_
      refine WC.seqR rfl ?_
      refine WL.y rfl (Y.move) ?_
      refine WL.call rfl (C.func go13) (end_ret _ p (by omega)) ?_
      rintro _ w12 ⟨rfl, hb12⟩
      have k12 := hb12
      refine WL.y rfl (Y.move) ?_
      refine WL.y rfl (Y.extract rfl rfl) ?_
      refine WL.y rfl (Y.extract rfl rfl) ?_
      refine WL.y rfl (Y.assign) ?_
      refine WL.y rfl (Y.assign) ?_
      refine WL.nil ?_
      refine WC.seq ?_
      refine WC.seqR rfl ?_
      refine WL.y rfl (Y.move) ?_
      refine WL.y rfl (Y.bF (Y.not rfl) (by rw [hb]; rfl)) ?_
      refine WL.nil ?_
      refine WC.condF (rfl) ?_
      refine WC.skip (thenQ.normal ?_)
      refine WC.seq ?_
      refine WC.seqR rfl ?_
      refine WL.y rfl (Y.move) ?_
      refine WL.y rfl (Y.move) ?_
      refine WL.y rfl (Y.catS rfl rfl (by omega)) ?_
      refine WL.y rfl (Y.move) ?_
      refine WL.y rfl (Y.bF (Y.geS rfl rfl) (by rw [h1]; rfl)) ?_
      refine WL.y rfl (Y.move) ?_
      refine WL.y rfl (Y.move) ?_
      refine WL.y rfl (Y.move) ?_
      refine WL.y rfl (Y.bF (Y.geS rfl rfl) (by rw [h3]; rfl)) ?_
      refine WL.y rfl (Y.move) ?_
      refine WL.off rfl ?_
      refine WL.off rfl ?_
      refine WL.off rfl ?_
      refine WL.y rfl (Y.pickF rfl) ?_
      refine WL.y rfl (Y.move) ?_
      refine WL.off rfl ?_
      refine WL.off rfl ?_
      refine WL.off rfl ?_
      refine WL.off rfl ?_
      refine WL.off rfl ?_
      refine WL.off rfl ?_
      refine WL.off rfl ?_
      refine WL.off rfl ?_
      refine WL.off rfl ?_
      refine WL.off rfl ?_
      refine WL.off rfl ?_
      refine WL.off rfl ?_
      refine WL.off rfl ?_
      refine WL.off rfl ?_
      refine WL.y rfl (Y.pickF rfl) ?_
      refine WL.y rfl (Y.pickF rfl) ?_
      refine WL.nil ?_
      refine WC.condF (rfl) ?_
      refine WC.skip (thenQ.normal ?_)
      refine WC.seqR rfl ?_
      refine WL.call rfl (C.func go12) (known_ret _ (hT.bel k12)) ?_
      rintro _ w63 ⟨rfl, hb63⟩
      have k63 := Below.step k12 hb63
      refine WL.y rfl (Y.assign) ?_
      refine WL.nil ?_
      refine WC.ret (endQ.one (.inr rfl) ?_)
      exact ⟨rfl, k63⟩
theorem turn_own (f a b : List UInt8) : turnS (f ++ a) f b = if mayS (b ++ a) = 0 then (b ++ a, 0) else ([], mayS (b ++ a)) := by
  unfold turnS
  rw [if_pos (beg_append f a), List.drop_left]
end Go.Proofs.YtmodbnfekpeclaaDoor
