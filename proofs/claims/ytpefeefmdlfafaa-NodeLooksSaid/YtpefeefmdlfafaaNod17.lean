/-
  law06: NodeLooks: the row.
-/
import Derived.Test.YtpefeefmdlfafaaNod15
import Derived.Test.YtpefeefmdlfafaaNod16
namespace Go.Proofs.Ytpefeefmdlfafaa
open Go Go.RowKit Go.Cx
set_option linter.unusedVariables false
set_option maxHeartbeats 8000000
set_option maxRecDepth 20000
theorem nodeLooks_no (w : World) (s : Sh) (c : List Value) (hs : ShAt w s c) (i : Int) (hno : ¬ (smallS 10 s ∧ OkS s)) : Ret Try.prog 8 [.agg c.toArray, .int .i64 i].toArray w fun v w' => v = .bool true ∧ Below w.heap.size w w' := by
  have hcl := hs.len
  have hmay := ok_may (s := s)
  have hqq := sh_parts hs
  obtain ⟨ev, kv, lc, rfl, hks, hE, hn⟩ := hqq
  have hqq := id hE
  obtain ⟨oc, o1, hes, o3⟩ := hqq
  refine Ret.of (n := 171) (rs := #[.tmp 4]) Try.func8 rfl rfl rfl (by simp) ?_
  refine WC.seqR rfl ?_
  refine WL.eex rfl (E.boxX) ?_
  rintro _ w2 ⟨rfl, hB2, hb2⟩
  refine WL.y rfl (Y.assign) ?_
  refine WL.nil ?_
  refine WC.seq ?_
  have hB : Blk w2 w.heap.size 25 [ev, kv] := hB2
  clear hB2
  have s2 := hb2.size
  have lB := hB.lt
  by_cases hsm : smallS 10 s
  · have hnn := small_nodes hsm
    have hff := small_flat 10 s hsm
    have hok : ¬ OkS s := fun h => hno ⟨hsm, h⟩
    refine WC.seqR rfl ?_
    refine WL.y rfl (Y.loadK Try.underlying25 rfl ti25 (rfl) rfl (hB.cells)) ?_
    refine WL.call rfl (C.func go9) (smallT (d := 10) (by omega) (hs.bel hb2) hsm) ?_
    rintro _ w14 ⟨rfl, hb14⟩
    have k14 := Below.step hb2 hb14
    refine WL.y rfl (Y.not rfl) ?_
    refine WL.y rfl (Y.move) ?_
    refine WL.y rfl (Y.loadK Try.underlying25 rfl ti25 (rfl) rfl ((hB.bel hb14).cells)) ?_
    refine WL.call rfl (C.func go10) (rmayF (rmay_ret s) (fun h => hok (hmay.2 h)) _ _ _ (hs.bel k14) (Below.refl _ _) (by omega) (by omega)) ?_
    rintro _ w18 ⟨rfl, hb18⟩
    have k18 := Below.step k14 hb18
    refine WL.y rfl (Y.not rfl) ?_
    refine WL.y rfl (Y.pickF rfl) ?_
    refine WL.nil ?_
    refine WC.condT (rfl) ?_
    refine WC.seqR rfl ?_
    refine WL.call rfl (C.func go11) (known_ret _) ?_
    rintro _ w21 ⟨rfl, hb21⟩
    refine WL.y rfl (Y.assign) ?_
    refine WL.nil ?_
    refine WC.ret (thenQ.ret (endQ.one (.inr rfl) ?_))
    exact ⟨rfl, Below.step k18 hb21⟩
  · skip
    skip
    refine WC.seqR rfl ?_
    refine WL.y rfl (Y.loadK Try.underlying25 rfl ti25 (rfl) rfl (hB.cells)) ?_
    refine WL.call rfl (C.func go9) (smallF (d := 10) (by omega) (hs.bel hb2) hsm) ?_
    rintro _ w14 ⟨rfl, hb14⟩
    have k14 := Below.step hb2 hb14
    refine WL.y rfl (Y.not rfl) ?_
    refine WL.y rfl (Y.move) ?_
    refine WL.off rfl ?_
    refine WL.off rfl ?_
    refine WL.off rfl ?_
    refine WL.y rfl (Y.pickT rfl) ?_
    refine WL.nil ?_
    refine WC.condT (rfl) ?_
    refine WC.seqR rfl ?_
    refine WL.call rfl (C.func go11) (known_ret _) ?_
    rintro _ w21 ⟨rfl, hb21⟩
    refine WL.y rfl (Y.assign) ?_
    refine WL.nil ?_
    refine WC.ret (thenQ.ret (endQ.one (.inr rfl) ?_))
    exact ⟨rfl, Below.step k14 hb21⟩
theorem nodeLooks_ret (w : World) (a : Value) (s : Sh) (ha : SArg w s a) (i : Int) (hi : (Lit.int .i64 i).wf = true) : Ret Try.prog 8 [a, .int .i64 i].toArray w fun v w' => v = .bool true ∧ Below w.heap.size w w' := by
  obtain ⟨c, rfl, hs⟩ := ha
  by_cases h : smallS 10 s ∧ OkS s
  · by_cases hin : 0 ≤ i ∧ i < s.es.length
    · exact nodeLooks_in w s c hs i hi h.1 h.2 hin
    · by_cases hneg : i < 0
      · exact nodeLooks_neg w s c hs i hi h.1 h.2 hneg
      · exact nodeLooks_out w s c hs i hi h.1 h.2 hneg hin
  · exact nodeLooks_no w s c hs i h
end Go.Proofs.Ytpefeefmdlfafaa
