/-
  keys: KeysBack.
-/
import Derived.Test.YtmodbnfekpeclaaDoorKey6
namespace Go.Proofs.YtmodbnfekpeclaaDoor
open Go Go.RowKit Go.Cx
set_option linter.unusedVariables false
theorem turn_own1 (f a b : List UInt8) (h : mayS (b ++ a) = 0) : turnS (f ++ a) f b = (b ++ a, 0) := by rw [turn_own, if_pos h]
theorem turn_own0 (f a b : List UInt8) (h : ¬ mayS (b ++ a) = 0) : turnS (f ++ a) f b = ([], mayS (b ++ a)) := by rw [turn_own, if_neg h]
theorem turn1_ret (w : World) (f a b : List UInt8) (hf : f.length ≤ 140737488351232) (ha : a.length ≤ 140737488351232) (hb : b.length ≤ 140737488351232) (hT : Tabs w) (h : mayS (b ++ a) = 0) :
    Ret Tryd.prog 15 [strv (f ++ a), strv f, strv b].toArray w fun v w' => v = .tuple #[strv (b ++ a), .int .i64 0] ∧ Below w.heap.size w w' := by
  have := turn_ret w (f ++ a) f b (by rw [List.length_append]; omega) (by omega) hT
  rwa [turn_own1 f a b h] at this
theorem turn0_ret (w : World) (f a b : List UInt8) (hf : f.length ≤ 140737488351232) (ha : a.length ≤ 140737488351232) (hb : b.length ≤ 140737488351232) (hT : Tabs w) (h : ¬ mayS (b ++ a) = 0) :
    Ret Tryd.prog 15 [strv (f ++ a), strv f, strv b].toArray w fun v w' => v = .tuple #[strv [], .int .i64 (mayS (b ++ a))] ∧ Below w.heap.size w w' := by
  have := turn_ret w (f ++ a) f b (by rw [List.length_append]; omega) (by omega) hT
  rwa [turn_own0 f a b h] at this
theorem keysBack_ret (w : World) (f : List UInt8) (hf : f.length ≤ 140737488351232) (t : List UInt8) (ht : t.length ≤ 140737488351232) (a : List UInt8) (ha : a.length ≤ 140737488351232) (b : List UInt8) (hb : b.length ≤ 140737488351232) (hT : Tabs w) :
    Ret Tryd.prog 7 [strv f, strv t, strv a, strv b].toArray w fun v w' => v = .bool true ∧ Below w.heap.size w w' := by
  have hlen : (f ++ a).length ≤ 281474976710656 := by rw [List.length_append]; omega
  have hord : slt (t ++ a) (t ++ b) = slt a b := slt_append t a b
  by_cases h1 : mayS (t ++ a) = 0
  · by_cases h2 : mayS (t ++ b) = 0
    · by_cases h3 : mayS (f ++ a) = 0
      · skip
        refine Ret.of (n := 74) (rs := #[.tmp 8]) Tryd.func7 rfl rfl rfl (by simp) ?_
        refine WC.seqR rfl ?_
        refine WL.y rfl (Y.assign) ?_
        refine WL.nil ?_
        refine WC.seqR rfl ?_
        refine WL.y rfl (Y.move) ?_
        refine WL.y rfl (Y.move) ?_
        refine WL.y rfl (Y.catS rfl rfl (by omega)) ?_
        refine WL.y rfl (Y.move) ?_
        refine WL.y rfl (Y.move) ?_
        refine WL.call rfl (C.func go15) (turn1_ret _ f a t hf ha ht hT h1) ?_
        rintro _ w21 ⟨rfl, hb21⟩
        have k21 := hb21
        refine WL.y rfl (Y.move) ?_
        refine WL.y rfl (Y.extract rfl rfl) ?_
        refine WL.y rfl (Y.extract rfl rfl) ?_
        refine WL.y rfl (Y.assign) ?_
        refine WL.y rfl (Y.assign) ?_
        refine WL.nil ?_
        refine WC.seqR rfl ?_
        refine WL.y rfl (Y.move) ?_
        refine WL.y rfl (Y.move) ?_
        refine WL.y rfl (Y.catS rfl rfl (by omega)) ?_
        refine WL.y rfl (Y.move) ?_
        refine WL.y rfl (Y.move) ?_
        refine WL.call rfl (C.func go15) (turn1_ret _ f b t hf hb ht (hT.bel k21) h2) ?_
        rintro _ w30 ⟨rfl, hb30⟩
        have k30 := Below.step k21 hb30
        refine WL.y rfl (Y.move) ?_
        refine WL.y rfl (Y.extract rfl rfl) ?_
        refine WL.y rfl (Y.extract rfl rfl) ?_
        refine WL.y rfl (Y.assign) ?_
        refine WL.y rfl (Y.assign) ?_
        refine WL.nil ?_
        refine WC.seq ?_
        refine WC.seqR rfl ?_
        refine WL.y rfl (Y.move) ?_
        refine WL.y rfl (Y.dT (Y.eqi rfl rfl) (by omega)) ?_
        refine WL.y rfl (Y.move) ?_
        refine WL.y rfl (Y.move) ?_
        refine WL.y rfl (Y.move) ?_
        refine WL.y rfl (Y.catS rfl rfl (by omega)) ?_
        refine WL.call rfl (C.func go10) (may_ret _ (f ++ a) (by omega) (hT.bel k30)) ?_
        rintro _ w39 ⟨rfl, hb39⟩
        have k39 := Below.step k30 hb39
        refine WL.y rfl (Y.dT (Y.eqi rfl rfl) (h3)) ?_
        refine WL.y rfl (Y.pickT rfl) ?_
        refine WL.nil ?_
        refine WC.condT (rfl) ?_
        refine WC.seqR rfl ?_
        refine WL.y rfl (Y.move) ?_
        refine WL.y rfl (Y.move) ?_
        refine WL.y rfl (Y.move) ?_
        refine WL.call rfl (C.func go15) (turn1_ret _ t a f ht ha hf (hT.bel k39) h3) ?_
        rintro _ w46 ⟨rfl, hb46⟩
        have k46 := Below.step k39 hb46
        refine WL.y rfl (Y.move) ?_
        refine WL.y rfl (Y.extract rfl rfl) ?_
        refine WL.y rfl (Y.extract rfl rfl) ?_
        refine WL.y rfl (Y.assign) ?_
        refine WL.y rfl (Y.assign) ?_
        refine WL.nil ?_
        refine WC.seqR rfl ?_
        refine WL.y rfl (Y.move) ?_
        refine WL.y rfl (Y.dF (Y.nei rfl rfl) (by omega)) ?_
        refine WL.y rfl (Y.move) ?_
        refine WL.y rfl (Y.move) ?_
        refine WL.y rfl (Y.move) ?_
        refine WL.y rfl (Y.move) ?_
        refine WL.y rfl (Y.catS rfl rfl (by omega)) ?_
        refine WL.y rfl (Y.bF (Y.neS rfl rfl) (by simp)) ?_
        refine WL.y rfl (Y.pickF rfl) ?_
        refine WL.nil ?_
        refine WC.condF (rfl) ?_
        refine WC.skip (thenQ.normal ?_)
        refine WC.seq ?_
        refine WC.seqR rfl ?_
        refine WL.y rfl (Y.move) ?_
        refine WL.y rfl (Y.dT (Y.eqi rfl rfl) (by omega)) ?_
        refine WL.y rfl (Y.move) ?_
        refine WL.y rfl (Y.move) ?_
        refine WL.y rfl (Y.dT (Y.eqi rfl rfl) (by omega)) ?_
        refine WL.y rfl (Y.pickT rfl) ?_
        refine WL.y rfl (Y.move) ?_
        refine WL.y rfl (Y.move) ?_
        refine WL.y rfl (Y.move) ?_
        refine WL.y rfl (Y.ltS rfl rfl) ?_
        refine WL.y rfl (Y.move) ?_
        refine WL.y rfl (Y.move) ?_
        refine WL.y rfl (Y.ltS rfl rfl) ?_
        refine WL.y rfl (Y.bF (Y.neb Tryd.underlying4 rfl rfl) (by rw [hord]; simp)) ?_
        refine WL.y rfl (Y.pickT rfl) ?_
        refine WL.nil ?_
        refine WC.condF (rfl) ?_
        refine WC.skip (thenQ.normal ?_)
        refine WC.seqR rfl ?_
        refine WL.call rfl (C.func go12) (known_ret _ (hT.bel k46)) ?_
        rintro _ w73 ⟨rfl, hb73⟩
        have k73 := Below.step k46 hb73
        refine WL.y rfl (Y.assign) ?_
        refine WL.nil ?_
        refine WC.ret (endQ.one (.inr rfl) ?_)
        exact ⟨rfl, k73⟩
      · skip
        refine Ret.of (n := 74) (rs := #[.tmp 8]) Tryd.func7 rfl rfl rfl (by simp) ?_
        refine WC.seqR rfl ?_
        refine WL.y rfl (Y.assign) ?_
        refine WL.nil ?_
        refine WC.seqR rfl ?_
        refine WL.y rfl (Y.move) ?_
        refine WL.y rfl (Y.move) ?_
        refine WL.y rfl (Y.catS rfl rfl (by omega)) ?_
        refine WL.y rfl (Y.move) ?_
        refine WL.y rfl (Y.move) ?_
        refine WL.call rfl (C.func go15) (turn1_ret _ f a t hf ha ht hT h1) ?_
        rintro _ w21 ⟨rfl, hb21⟩
        have k21 := hb21
        refine WL.y rfl (Y.move) ?_
        refine WL.y rfl (Y.extract rfl rfl) ?_
        refine WL.y rfl (Y.extract rfl rfl) ?_
        refine WL.y rfl (Y.assign) ?_
        refine WL.y rfl (Y.assign) ?_
        refine WL.nil ?_
        refine WC.seqR rfl ?_
        refine WL.y rfl (Y.move) ?_
        refine WL.y rfl (Y.move) ?_
        refine WL.y rfl (Y.catS rfl rfl (by omega)) ?_
        refine WL.y rfl (Y.move) ?_
        refine WL.y rfl (Y.move) ?_
        refine WL.call rfl (C.func go15) (turn1_ret _ f b t hf hb ht (hT.bel k21) h2) ?_
        rintro _ w30 ⟨rfl, hb30⟩
        have k30 := Below.step k21 hb30
        refine WL.y rfl (Y.move) ?_
        refine WL.y rfl (Y.extract rfl rfl) ?_
        refine WL.y rfl (Y.extract rfl rfl) ?_
        refine WL.y rfl (Y.assign) ?_
        refine WL.y rfl (Y.assign) ?_
        refine WL.nil ?_
        refine WC.seq ?_
        refine WC.seqR rfl ?_
        refine WL.y rfl (Y.move) ?_
        refine WL.y rfl (Y.dT (Y.eqi rfl rfl) (by omega)) ?_
        refine WL.y rfl (Y.move) ?_
        refine WL.y rfl (Y.move) ?_
        refine WL.y rfl (Y.move) ?_
        refine WL.y rfl (Y.catS rfl rfl (by omega)) ?_
        refine WL.call rfl (C.func go10) (may_ret _ (f ++ a) (by omega) (hT.bel k30)) ?_
        rintro _ w39 ⟨rfl, hb39⟩
        have k39 := Below.step k30 hb39
        refine WL.y rfl (Y.dF (Y.eqi rfl rfl) (h3)) ?_
        refine WL.y rfl (Y.pickT rfl) ?_
        refine WL.nil ?_
        refine WC.condF (rfl) ?_
        refine WC.skip (thenQ.normal ?_)
        refine WC.seq ?_
        refine WC.seqR rfl ?_
        refine WL.y rfl (Y.move) ?_
        refine WL.y rfl (Y.dT (Y.eqi rfl rfl) (by omega)) ?_
        refine WL.y rfl (Y.move) ?_
        refine WL.y rfl (Y.move) ?_
        refine WL.y rfl (Y.dT (Y.eqi rfl rfl) (by omega)) ?_
        refine WL.y rfl (Y.pickT rfl) ?_
        refine WL.y rfl (Y.move) ?_
        refine WL.y rfl (Y.move) ?_
        refine WL.y rfl (Y.move) ?_
        refine WL.y rfl (Y.ltS rfl rfl) ?_
        refine WL.y rfl (Y.move) ?_
        refine WL.y rfl (Y.move) ?_
        refine WL.y rfl (Y.ltS rfl rfl) ?_
        refine WL.y rfl (Y.bF (Y.neb Tryd.underlying4 rfl rfl) (by rw [hord]; simp)) ?_
        refine WL.y rfl (Y.pickT rfl) ?_
        refine WL.nil ?_
        refine WC.condF (rfl) ?_
        refine WC.skip (thenQ.normal ?_)
        refine WC.seqR rfl ?_
        refine WL.call rfl (C.func go12) (known_ret _ (hT.bel k39)) ?_
        rintro _ w73 ⟨rfl, hb73⟩
        have k73 := Below.step k39 hb73
        refine WL.y rfl (Y.assign) ?_
        refine WL.nil ?_
        refine WC.ret (endQ.one (.inr rfl) ?_)
        exact ⟨rfl, k73⟩
    · by_cases h3 : mayS (f ++ a) = 0
      · skip
        refine Ret.of (n := 74) (rs := #[.tmp 8]) Tryd.func7 rfl rfl rfl (by simp) ?_
        refine WC.seqR rfl ?_
        refine WL.y rfl (Y.assign) ?_
        refine WL.nil ?_
        refine WC.seqR rfl ?_
        refine WL.y rfl (Y.move) ?_
        refine WL.y rfl (Y.move) ?_
        refine WL.y rfl (Y.catS rfl rfl (by omega)) ?_
        refine WL.y rfl (Y.move) ?_
        refine WL.y rfl (Y.move) ?_
        refine WL.call rfl (C.func go15) (turn1_ret _ f a t hf ha ht hT h1) ?_
        rintro _ w21 ⟨rfl, hb21⟩
        have k21 := hb21
        refine WL.y rfl (Y.move) ?_
        refine WL.y rfl (Y.extract rfl rfl) ?_
        refine WL.y rfl (Y.extract rfl rfl) ?_
        refine WL.y rfl (Y.assign) ?_
        refine WL.y rfl (Y.assign) ?_
        refine WL.nil ?_
        refine WC.seqR rfl ?_
        refine WL.y rfl (Y.move) ?_
        refine WL.y rfl (Y.move) ?_
        refine WL.y rfl (Y.catS rfl rfl (by omega)) ?_
        refine WL.y rfl (Y.move) ?_
        refine WL.y rfl (Y.move) ?_
        refine WL.call rfl (C.func go15) (turn0_ret _ f b t hf hb ht (hT.bel k21) h2) ?_
        rintro _ w30 ⟨rfl, hb30⟩
        have k30 := Below.step k21 hb30
        refine WL.y rfl (Y.move) ?_
        refine WL.y rfl (Y.extract rfl rfl) ?_
        refine WL.y rfl (Y.extract rfl rfl) ?_
        refine WL.y rfl (Y.assign) ?_
        refine WL.y rfl (Y.assign) ?_
        refine WL.nil ?_
        refine WC.seq ?_
        refine WC.seqR rfl ?_
        refine WL.y rfl (Y.move) ?_
        refine WL.y rfl (Y.dT (Y.eqi rfl rfl) (by omega)) ?_
        refine WL.y rfl (Y.move) ?_
        refine WL.y rfl (Y.move) ?_
        refine WL.y rfl (Y.move) ?_
        refine WL.y rfl (Y.catS rfl rfl (by omega)) ?_
        refine WL.call rfl (C.func go10) (may_ret _ (f ++ a) (by omega) (hT.bel k30)) ?_
        rintro _ w39 ⟨rfl, hb39⟩
        have k39 := Below.step k30 hb39
        refine WL.y rfl (Y.dT (Y.eqi rfl rfl) (h3)) ?_
        refine WL.y rfl (Y.pickT rfl) ?_
        refine WL.nil ?_
        refine WC.condT (rfl) ?_
        refine WC.seqR rfl ?_
        refine WL.y rfl (Y.move) ?_
        refine WL.y rfl (Y.move) ?_
        refine WL.y rfl (Y.move) ?_
        refine WL.call rfl (C.func go15) (turn1_ret _ t a f ht ha hf (hT.bel k39) h3) ?_
        rintro _ w46 ⟨rfl, hb46⟩
        have k46 := Below.step k39 hb46
        refine WL.y rfl (Y.move) ?_
        refine WL.y rfl (Y.extract rfl rfl) ?_
        refine WL.y rfl (Y.extract rfl rfl) ?_
        refine WL.y rfl (Y.assign) ?_
        refine WL.y rfl (Y.assign) ?_
        refine WL.nil ?_
        refine WC.seqR rfl ?_
        refine WL.y rfl (Y.move) ?_
        refine WL.y rfl (Y.dF (Y.nei rfl rfl) (by omega)) ?_
        refine WL.y rfl (Y.move) ?_
        refine WL.y rfl (Y.move) ?_
        refine WL.y rfl (Y.move) ?_
        refine WL.y rfl (Y.move) ?_
        refine WL.y rfl (Y.catS rfl rfl (by omega)) ?_
        refine WL.y rfl (Y.bF (Y.neS rfl rfl) (by simp)) ?_
        refine WL.y rfl (Y.pickF rfl) ?_
        refine WL.nil ?_
        refine WC.condF (rfl) ?_
        refine WC.skip (thenQ.normal ?_)
        refine WC.seq ?_
        refine WC.seqR rfl ?_
        refine WL.y rfl (Y.move) ?_
        refine WL.y rfl (Y.dT (Y.eqi rfl rfl) (by omega)) ?_
        refine WL.y rfl (Y.move) ?_
        refine WL.y rfl (Y.move) ?_
        refine WL.y rfl (Y.dF (Y.eqi rfl rfl) (h2)) ?_
        refine WL.y rfl (Y.pickT rfl) ?_
        refine WL.y rfl (Y.move) ?_
        refine WL.off rfl ?_
        refine WL.off rfl ?_
        refine WL.off rfl ?_
        refine WL.off rfl ?_
        refine WL.off rfl ?_
        refine WL.off rfl ?_
        refine WL.off rfl ?_
        refine WL.y rfl (Y.pickF rfl) ?_
        refine WL.nil ?_
        refine WC.condF (rfl) ?_
        refine WC.skip (thenQ.normal ?_)
        refine WC.seqR rfl ?_
        refine WL.call rfl (C.func go12) (known_ret _ (hT.bel k46)) ?_
        rintro _ w73 ⟨rfl, hb73⟩
        have k73 := Below.step k46 hb73
        refine WL.y rfl (Y.assign) ?_
        refine WL.nil ?_
        refine WC.ret (endQ.one (.inr rfl) ?_)
        exact ⟨rfl, k73⟩
      · skip
        refine Ret.of (n := 74) (rs := #[.tmp 8]) Tryd.func7 rfl rfl rfl (by simp) ?_
        refine WC.seqR rfl ?_
        refine WL.y rfl (Y.assign) ?_
        refine WL.nil ?_
        refine WC.seqR rfl ?_
        refine WL.y rfl (Y.move) ?_
        refine WL.y rfl (Y.move) ?_
        refine WL.y rfl (Y.catS rfl rfl (by omega)) ?_
        refine WL.y rfl (Y.move) ?_
        refine WL.y rfl (Y.move) ?_
        refine WL.call rfl (C.func go15) (turn1_ret _ f a t hf ha ht hT h1) ?_
        rintro _ w21 ⟨rfl, hb21⟩
        have k21 := hb21
        refine WL.y rfl (Y.move) ?_
        refine WL.y rfl (Y.extract rfl rfl) ?_
        refine WL.y rfl (Y.extract rfl rfl) ?_
        refine WL.y rfl (Y.assign) ?_
        refine WL.y rfl (Y.assign) ?_
        refine WL.nil ?_
        refine WC.seqR rfl ?_
        refine WL.y rfl (Y.move) ?_
        refine WL.y rfl (Y.move) ?_
        refine WL.y rfl (Y.catS rfl rfl (by omega)) ?_
        refine WL.y rfl (Y.move) ?_
        refine WL.y rfl (Y.move) ?_
        refine WL.call rfl (C.func go15) (turn0_ret _ f b t hf hb ht (hT.bel k21) h2) ?_
        rintro _ w30 ⟨rfl, hb30⟩
        have k30 := Below.step k21 hb30
        refine WL.y rfl (Y.move) ?_
        refine WL.y rfl (Y.extract rfl rfl) ?_
        refine WL.y rfl (Y.extract rfl rfl) ?_
        refine WL.y rfl (Y.assign) ?_
        refine WL.y rfl (Y.assign) ?_
        refine WL.nil ?_
        refine WC.seq ?_
        refine WC.seqR rfl ?_
        refine WL.y rfl (Y.move) ?_
        refine WL.y rfl (Y.dT (Y.eqi rfl rfl) (by omega)) ?_
        refine WL.y rfl (Y.move) ?_
        refine WL.y rfl (Y.move) ?_
        refine WL.y rfl (Y.move) ?_
        refine WL.y rfl (Y.catS rfl rfl (by omega)) ?_
        refine WL.call rfl (C.func go10) (may_ret _ (f ++ a) (by omega) (hT.bel k30)) ?_
        rintro _ w39 ⟨rfl, hb39⟩
        have k39 := Below.step k30 hb39
        refine WL.y rfl (Y.dF (Y.eqi rfl rfl) (h3)) ?_
        refine WL.y rfl (Y.pickT rfl) ?_
        refine WL.nil ?_
        refine WC.condF (rfl) ?_
        refine WC.skip (thenQ.normal ?_)
        refine WC.seq ?_
        refine WC.seqR rfl ?_
        refine WL.y rfl (Y.move) ?_
        refine WL.y rfl (Y.dT (Y.eqi rfl rfl) (by omega)) ?_
        refine WL.y rfl (Y.move) ?_
        refine WL.y rfl (Y.move) ?_
        refine WL.y rfl (Y.dF (Y.eqi rfl rfl) (h2)) ?_
        refine WL.y rfl (Y.pickT rfl) ?_
        refine WL.y rfl (Y.move) ?_
        refine WL.off rfl ?_
        refine WL.off rfl ?_
        refine WL.off rfl ?_
        refine WL.off rfl ?_
        refine WL.off rfl ?_
        refine WL.off rfl ?_
        refine WL.off rfl ?_
        refine WL.y rfl (Y.pickF rfl) ?_
        refine WL.nil ?_
        refine WC.condF (rfl) ?_
        refine WC.skip (thenQ.normal ?_)
        refine WC.seqR rfl ?_
        refine WL.call rfl (C.func go12) (known_ret _ (hT.bel k39)) ?_
        rintro _ w73 ⟨rfl, hb73⟩
        have k73 := Below.step k39 hb73
        refine WL.y rfl (Y.assign) ?_
        refine WL.nil ?_
        refine WC.ret (endQ.one (.inr rfl) ?_)
        exact ⟨rfl, k73⟩
  · by_cases h2 : mayS (t ++ b) = 0
    · skip
      refine Ret.of (n := 74) (rs := #[.tmp 8]) Tryd.func7 rfl rfl rfl (by simp) ?_
      refine WC.seqR rfl ?_
      refine WL.y rfl (Y.assign) ?_
      refine WL.nil ?_
      refine WC.seqR rfl ?_
      refine WL.y rfl (Y.move) ?_
      refine WL.y rfl (Y.move) ?_
      refine WL.y rfl (Y.catS rfl rfl (by omega)) ?_
      refine WL.y rfl (Y.move) ?_
      refine WL.y rfl (Y.move) ?_
      refine WL.call rfl (C.func go15) (turn0_ret _ f a t hf ha ht hT h1) ?_
      rintro _ w21 ⟨rfl, hb21⟩
      have k21 := hb21
      refine WL.y rfl (Y.move) ?_
      refine WL.y rfl (Y.extract rfl rfl) ?_
      refine WL.y rfl (Y.extract rfl rfl) ?_
      refine WL.y rfl (Y.assign) ?_
      refine WL.y rfl (Y.assign) ?_
      refine WL.nil ?_
      refine WC.seqR rfl ?_
      refine WL.y rfl (Y.move) ?_
      refine WL.y rfl (Y.move) ?_
      refine WL.y rfl (Y.catS rfl rfl (by omega)) ?_
      refine WL.y rfl (Y.move) ?_
      refine WL.y rfl (Y.move) ?_
      refine WL.call rfl (C.func go15) (turn1_ret _ f b t hf hb ht (hT.bel k21) h2) ?_
      rintro _ w30 ⟨rfl, hb30⟩
      have k30 := Below.step k21 hb30
      refine WL.y rfl (Y.move) ?_
      refine WL.y rfl (Y.extract rfl rfl) ?_
      refine WL.y rfl (Y.extract rfl rfl) ?_
      refine WL.y rfl (Y.assign) ?_
      refine WL.y rfl (Y.assign) ?_
      refine WL.nil ?_
      refine WC.seq ?_
      refine WC.seqR rfl ?_
      refine WL.y rfl (Y.move) ?_
      refine WL.y rfl (Y.dF (Y.eqi rfl rfl) (h1)) ?_
      refine WL.y rfl (Y.move) ?_
      refine WL.off rfl ?_
      refine WL.off rfl ?_
      refine WL.off rfl ?_
      refine WL.off rfl ?_
      refine WL.off rfl ?_
      refine WL.y rfl (Y.pickF rfl) ?_
      refine WL.nil ?_
      refine WC.condF (rfl) ?_
      refine WC.skip (thenQ.normal ?_)
      refine WC.seq ?_
      refine WC.seqR rfl ?_
      refine WL.y rfl (Y.move) ?_
      refine WL.y rfl (Y.dF (Y.eqi rfl rfl) (h1)) ?_
      refine WL.y rfl (Y.move) ?_
      refine WL.off rfl ?_
      refine WL.off rfl ?_
      refine WL.y rfl (Y.pickF rfl) ?_
      refine WL.y rfl (Y.move) ?_
      refine WL.off rfl ?_
      refine WL.off rfl ?_
      refine WL.off rfl ?_
      refine WL.off rfl ?_
      refine WL.off rfl ?_
      refine WL.off rfl ?_
      refine WL.off rfl ?_
      refine WL.y rfl (Y.pickF rfl) ?_
      refine WL.nil ?_
      refine WC.condF (rfl) ?_
      refine WC.skip (thenQ.normal ?_)
      refine WC.seqR rfl ?_
      refine WL.call rfl (C.func go12) (known_ret _ (hT.bel k30)) ?_
      rintro _ w73 ⟨rfl, hb73⟩
      have k73 := Below.step k30 hb73
      refine WL.y rfl (Y.assign) ?_
      refine WL.nil ?_
      refine WC.ret (endQ.one (.inr rfl) ?_)
      exact ⟨rfl, k73⟩
    · skip
      refine Ret.of (n := 74) (rs := #[.tmp 8]) Tryd.func7 rfl rfl rfl (by simp) ?_
      refine WC.seqR rfl ?_
      refine WL.y rfl (Y.assign) ?_
      refine WL.nil ?_
      refine WC.seqR rfl ?_
      refine WL.y rfl (Y.move) ?_
      refine WL.y rfl (Y.move) ?_
      refine WL.y rfl (Y.catS rfl rfl (by omega)) ?_
      refine WL.y rfl (Y.move) ?_
      refine WL.y rfl (Y.move) ?_
      refine WL.call rfl (C.func go15) (turn0_ret _ f a t hf ha ht hT h1) ?_
      rintro _ w21 ⟨rfl, hb21⟩
      have k21 := hb21
      refine WL.y rfl (Y.move) ?_
      refine WL.y rfl (Y.extract rfl rfl) ?_
      refine WL.y rfl (Y.extract rfl rfl) ?_
      refine WL.y rfl (Y.assign) ?_
      refine WL.y rfl (Y.assign) ?_
      refine WL.nil ?_
      refine WC.seqR rfl ?_
      refine WL.y rfl (Y.move) ?_
      refine WL.y rfl (Y.move) ?_
      refine WL.y rfl (Y.catS rfl rfl (by omega)) ?_
      refine WL.y rfl (Y.move) ?_
      refine WL.y rfl (Y.move) ?_
      refine WL.call rfl (C.func go15) (turn0_ret _ f b t hf hb ht (hT.bel k21) h2) ?_
      rintro _ w30 ⟨rfl, hb30⟩
      have k30 := Below.step k21 hb30
      refine WL.y rfl (Y.move) ?_
      refine WL.y rfl (Y.extract rfl rfl) ?_
      refine WL.y rfl (Y.extract rfl rfl) ?_
      refine WL.y rfl (Y.assign) ?_
      refine WL.y rfl (Y.assign) ?_
      refine WL.nil ?_
      refine WC.seq ?_
      refine WC.seqR rfl ?_
      refine WL.y rfl (Y.move) ?_
      refine WL.y rfl (Y.dF (Y.eqi rfl rfl) (h1)) ?_
      refine WL.y rfl (Y.move) ?_
      refine WL.off rfl ?_
      refine WL.off rfl ?_
      refine WL.off rfl ?_
      refine WL.off rfl ?_
      refine WL.off rfl ?_
      refine WL.y rfl (Y.pickF rfl) ?_
      refine WL.nil ?_
      refine WC.condF (rfl) ?_
      refine WC.skip (thenQ.normal ?_)
      refine WC.seq ?_
      refine WC.seqR rfl ?_
      refine WL.y rfl (Y.move) ?_
      refine WL.y rfl (Y.dF (Y.eqi rfl rfl) (h1)) ?_
      refine WL.y rfl (Y.move) ?_
      refine WL.off rfl ?_
      refine WL.off rfl ?_
      refine WL.y rfl (Y.pickF rfl) ?_
      refine WL.y rfl (Y.move) ?_
      refine WL.off rfl ?_
      refine WL.off rfl ?_
      refine WL.off rfl ?_
      refine WL.off rfl ?_
      refine WL.off rfl ?_
      refine WL.off rfl ?_
      refine WL.off rfl ?_
      refine WL.y rfl (Y.pickF rfl) ?_
      refine WL.nil ?_
      refine WC.condF (rfl) ?_
      refine WC.skip (thenQ.normal ?_)
      refine WC.seqR rfl ?_
      refine WL.call rfl (C.func go12) (known_ret _ (hT.bel k30)) ?_
      rintro _ w73 ⟨rfl, hb73⟩
      have k73 := Below.step k30 hb73
      refine WL.y rfl (Y.assign) ?_
      refine WL.nil ?_
      refine WC.ret (endQ.one (.inr rfl) ?_)
      exact ⟨rfl, k73⟩
end Go.Proofs.YtmodbnfekpeclaaDoor
