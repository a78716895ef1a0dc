/-
  value: inOrder, Compare: walks.
-/
import Derived.Test.YthcppegkpkgnpaaDoorVal3
namespace Go.Proofs.YthcppegkpkgnpaaDoor
open Go Go.RowKit Go.Cx
set_option linter.unusedVariables false
set_option maxHeartbeats 4000000
/-- members in memory -/
def MAt (w : World) (ks : List (List UInt8)) (vs : List V) (r : Value) : Prop := ∃ oc : List VC, oc.length = vs.length ∧ ks.length = vs.length ∧ SlK w 7 r vs.length (mcells ks oc) ∧ ∀ j (h : j < vs.length) (h' : j < oc.length), VAt w vs[j] oc[j].c
theorem MAt.bel {w w' : World} {ks : List (List UInt8)} {l : List V} {r : Value} (h : MAt w ks l r) (hb : Below w.heap.size w w') : MAt w' ks l r := by
  obtain ⟨lc, h1, h0, h2, h3⟩ := h
  exact ⟨lc, h1, h0, h2.bel hb, fun j h h' => (h3 j h h').bel hb⟩
def CmpOf (x : V) : Prop := ∀ (y : V) (w : World) (c d : List Value), VAt w x c → VAt w y d → Ret Tryd.prog 27 [.agg c.toArray, .agg d.toArray].toArray w fun r w' => r = .int .i64 (cmpV x y) ∧ Below w.heap.size w w'
theorem inOrderV_ret (la lb : List V) (ra rb : Value) (w : World) (ha : LAt w la ra) (hb : LAt w lb rb) (hal : la.length ≤ 1599289640354) (hbl : lb.length ≤ 1599289640354) (hih : ∀ x ∈ la, CmpOf x) :
    Ret Tryd.prog 45 [ra, rb, .func (.func 27) #[] #[]].toArray w fun r w' => r = .int .i64 (cmpL la lb) ∧ Below w.heap.size w w' := by
  obtain ⟨ca, a1, a2, a3⟩ := ha
  obtain ⟨cb, b1, b2, b3⟩ := hb
  refine Ret.of (n := 36) (rs := #[.tmp 6]) Tryd.func45 rfl rfl rfl (by simp) ?_
  refine WC.seqR rfl ?_
  refine WL.y rfl (Y.assign) ?_
  refine WL.nil ?_
  refine WC.seq ?_
  refine WC.seqR rfl ?_
  refine WL.y rfl (Y.move) ?_
  refine WL.y rfl (Y.lenSl Tryd.underlying24 (a2) _) ?_
  refine WL.y rfl (Y.move) ?_
  refine WL.y rfl (Y.lenSl Tryd.underlying24 (b2) _) ?_
  refine WL.y rfl (Y.min2 rfl rfl (rfl)) ?_
  refine WL.y rfl (Y.move) ?_
  refine WL.nil ?_
  refine WC.block ?_
  refine WC.loop (fun j => la.length - j) (fun j f ds w' => (j : Int) ≤ min (la.length : Int) (lb.length : Int) ∧ ds = [] ∧ Below w.heap.size w w' ∧ cmpL la lb = cmpL (la.drop j) (lb.drop j) ∧ ∃ J, f = Go.Cx.ov J [(0, ra), (1, rb), (2, .func (.func 27) #[] #[]), (13, .int .i64 (min (la.length : Int) (lb.length : Int))), (14, .int .i64 (j : Int))]) 0 ?_ ?_
  · exact ⟨by omega, rfl, Below.refl _ _, rfl, _, ov_mk ⟨rfl, rfl, rfl, rfl, rfl, trivial⟩⟩
  · rintro j _ _ w2 ⟨hj, rfl, hb2, hc, J, rfl⟩
    refine WC.seqR rfl ?_
    refine WL.y rfl (Y.lss rfl rfl) ?_
    refine WL.nil ?_
    refine WC.seq ?_
    refine WC.condD rfl (fun h0 => ?_) (fun h0 => ?_)
    · have hj1 : j < la.length := by omega
      have hj2 : j < lb.length := by omega
      have hja : j < ca.length := by omega
      have hjb : j < cb.length := by omega
      have hst := cmpL_step la lb j hj1 hj2
      refine WC.skip (thenQ.normal ?_)
      refine WC.seq ?_
      refine WC.block ?_
      refine WC.seqR rfl ?_
      refine WL.y rfl (Y.move) ?_
      refine WL.y rfl (Y.assign) ?_
      refine WL.nil ?_
      refine WC.seq ?_
      refine WC.regionB (fun i => Nat.beq i 9) [(0, .any), (1, .any), (2, .any), (3, .any), (4, .held), (5, .any), (6, .any), (7, .any), (8, .held), (9, .seq), (10, .any)] mixed (by kernel_rfl) (fun w4 hS4 hheap => ?_)
      refine RL.any rfl rfl (fun _ => Y.move) ?_
      refine RL.any rfl rfl (fun _ => Y.move) ?_
      refine RL.any rfl rfl (fun _ => Y.move) ?_
      refine RL.yex rfl rfl (Y.idx Tryd.underlying24 ti26 (by decide) (a2.bel hb2) rfl (by omega) (by omega)) ?_
      rintro _ ⟨b20, o20, rfl, hc20⟩
      refine RL.held rfl rfl hS4 (fun _ hb9 => Y.loadK Tryd.underlying26 rfl ti26 (ca[j].h) rfl (Cells.bel (elem_cells hja hc20) hb9)) ?_
      refine RL.any rfl rfl (fun _ => Y.move) ?_
      refine RL.any rfl rfl (fun _ => Y.move) ?_
      refine RL.yex rfl rfl (Y.idx Tryd.underlying24 ti26 (by decide) (b2.bel hb2) rfl (by omega) (by omega)) ?_
      rintro _ ⟨b24, o24, rfl, hc24⟩
      refine RL.held rfl rfl hS4 (fun _ hb9 => Y.loadK Tryd.underlying26 rfl ti26 (cb[j].h) rfl (Cells.bel (elem_cells hjb hc24) hb9)) ?_
      refine RL.call rfl rfl (C.value go27 rfl) ((hih _ (List.getElem_mem hj1) _ _ _ _ (((a3 j hj1 hja).bel hb2).bel hS4) (((b3 j hj2 hjb).bel hb2).bel hS4))) ?_
      rintro _ w26 ⟨rfl, hb26⟩
      refine ⟨.inl rfl, ?_⟩
      refine RL.any rfl rfl (fun _ => Y.assign) ?_
      refine RL.nil (thenQ.normal ?_)
      refine WC.seqR rfl ?_
      refine WL.y rfl (Y.move) ?_
      refine WL.y rfl (Y.nei rfl rfl) ?_
      refine WL.nil ?_
      have hbb := Below.step (Below.step hb2 hS4) hb26
      refine WC.condD rfl (fun h1 => ?_) (fun h1 => ?_)
      · rw [if_pos h1] at hst
        refine WC.seqR rfl ?_
        refine WL.y rfl (Y.move) ?_
        refine WL.y rfl (Y.assign) ?_
        refine WL.nil ?_
        refine WC.ret (inBlockQ.ret (thenQ.ret (thenQ.ret (inBlockQ.ret (thenQ.ret (endQ.one (.inr rfl) ?_))))))
        exact ⟨congrArg (Value.int .i64) (hc.trans hst).symm, hbb⟩
      · rw [if_neg h1] at hst
        refine WC.skip (inBlockQ.normal (thenQ.normal ?_))
        refine WC.region rfl ?_
        refine WL.y rfl (Y.add64 rfl rfl (by omega)) ?_
        refine WL.y rfl (Y.move) ?_
        refine WL.nil (thenQ.normal ?_)
        exact ⟨j + 1, by omega, by omega, rfl, hbb, hc.trans hst, _, ov_mk ⟨rfl, rfl, rfl, rfl, rfl, trivial⟩⟩
    · have e := cmpL_end la lb j (by omega)
      refine WC.exit (thenQ.exit (thenQ.exit (inBlockQ.hit (thenQ.normal ?_))))
      refine WC.seqR rfl ?_
      refine WL.y rfl (Y.move) ?_
      refine WL.y rfl (Y.lenSl Tryd.underlying24 (a2.bel hb2) _) ?_
      refine WL.y rfl (Y.move) ?_
      refine WL.y rfl (Y.lenSl Tryd.underlying24 (b2.bel hb2) _) ?_
      refine WL.call rfl (C.func go60) (cmpI_ret _ (la.length : Int) (lb.length : Int)) ?_
      rintro _ _ ⟨rfl, rfl⟩
      refine WL.y rfl (Y.assign) ?_
      refine WL.nil ?_
      refine WC.ret (endQ.one (.inr rfl) ?_)
      exact ⟨congrArg (Value.int .i64) (hc.trans e).symm, hb2⟩
/-- members: by their keys, then by their values -/
def cmpP (k : List UInt8) (x : V) (k' : List UInt8) (y : V) : Int := if cmpT k k' ≠ 0 then cmpT k k' else cmpV x y
theorem cmpMem_ret (k : List UInt8) (x : V) (k' : List UInt8) (y : V) (w : World) (c d : List Value) (hih : CmpOf x) (hc : VAt w x c) (hd : VAt w y d) :
    Ret Tryd.prog 47 [.agg (strv k :: c).toArray, .agg (strv k' :: d).toArray].toArray w fun r w' => r = .int .i64 (cmpP k x k' y) ∧ Below w.heap.size w w' := by
  have hl1 := hc.len
  have hl2 := hd.len
  refine Ret.of (n := 19) (rs := #[.tmp 4]) Tryd.func47 rfl rfl rfl (by simp) ?_
  refine WC.seqR rfl ?_
  refine WL.eex rfl (E.boxX) ?_
  rintro _ w2 ⟨rfl, hB2, hb2⟩
  refine WL.eex rfl (E.boxX) ?_
  rintro _ w3 ⟨rfl, hB3, hb3⟩
  refine WL.y rfl (Y.assign) ?_
  refine WL.nil ?_
  refine WC.seq ?_
  refine WC.seqR rfl ?_
  refine WL.y rfl (Y.fieldAddr fi38f0 ti9 (by decide) rfl (rfl) _) ?_
  refine WL.y rfl (Y.load1 Tryd.underlying9 rfl rfl (((show Blk _ _ _ (strv k :: c) from hB2).bel hb3).cell 0)) ?_
  refine WL.y rfl (Y.fieldAddr fi38f0 ti9 (by decide) rfl (rfl) _) ?_
  refine WL.y rfl (Y.load1 Tryd.underlying9 rfl rfl ((show Blk _ _ _ (strv k' :: d) from hB3).cell 0)) ?_
  refine WL.call rfl (C.func go44) (strCompare_ret _ k k') ?_
  rintro _ _ ⟨rfl, rfl⟩
  refine WL.y rfl (Y.assign) ?_
  refine WL.nil ?_
  refine WC.seqR rfl ?_
  refine WL.y rfl (Y.move) ?_
  refine WL.y rfl (Y.nei rfl rfl) ?_
  refine WL.nil ?_
  have hB2' : Blk w3 w.heap.size 38 (strv k :: c) := (show Blk _ _ _ (strv k :: c) from hB2).bel hb3
  have hB3' : Blk w3 w2.heap.size 38 (strv k' :: d) := hB3
  have hb := Below.step hb2 hb3
  refine WC.condD rfl (fun h0 => ?_) (fun h0 => ?_)
  · have e : cmpP k x k' y = cmpT k k' := if_pos h0
    refine WC.seqR rfl ?_
    refine WL.y rfl (Y.move) ?_
    refine WL.y rfl (Y.assign) ?_
    refine WL.nil ?_
    refine WC.ret (thenQ.ret (endQ.one (.inr rfl) ?_))
    exact ⟨congrArg (Value.int .i64) e.symm, hb⟩
  · have e : cmpP k x k' y = cmpV x y := if_neg h0
    refine WC.skip (thenQ.normal ?_)
    refine WC.seqR rfl ?_
    refine WL.y rfl (Y.fieldAddr fi38f1 ti26 (by decide) rfl (rfl) _) ?_
    refine WL.y rfl (Y.loadK Tryd.underlying26 rfl ti26 (hl1) rfl (Cells.tl hB2'.cells)) ?_
    refine WL.y rfl (Y.fieldAddr fi38f1 ti26 (by decide) rfl (rfl) _) ?_
    refine WL.y rfl (Y.loadK Tryd.underlying26 rfl ti26 (hl2) rfl (Cells.tl hB3'.cells)) ?_
    refine WL.call rfl (C.func go27) (hih _ _ _ _ (hc.bel hb) (hd.bel hb)) ?_
    rintro _ w18 ⟨rfl, hb18⟩
    refine WL.y rfl (Y.assign) ?_
    refine WL.nil ?_
    refine WC.ret (endQ.one (.inr rfl) ?_)
    exact ⟨congrArg (Value.int .i64) e.symm, Below.step hb hb18⟩
theorem inOrderM_ret (ka : List (List UInt8)) (la : List V) (kb : List (List UInt8)) (lb : List V) (ra rb : Value) (w : World) (ha : MAt w ka la ra) (hb : MAt w kb lb rb) (hal : la.length ≤ 1353245080300) (hbl : lb.length ≤ 1353245080300) (hih : ∀ x ∈ la, CmpOf x) :
    Ret Tryd.prog 46 [ra, rb, .func (.func 47) #[] #[]].toArray w fun r w' => r = .int .i64 (cmpM la ka kb lb) ∧ Below w.heap.size w w' := by
  obtain ⟨ca, a1, a0, a2, a3⟩ := ha
  obtain ⟨cb, b1, b0, b2, b3⟩ := hb
  refine Ret.of (n := 36) (rs := #[.tmp 6]) Tryd.func46 rfl rfl rfl (by simp) ?_
  refine WC.seqR rfl ?_
  refine WL.y rfl (Y.assign) ?_
  refine WL.nil ?_
  refine WC.seq ?_
  refine WC.seqR rfl ?_
  refine WL.y rfl (Y.move) ?_
  refine WL.y rfl (Y.lenSl Tryd.underlying22 (a2) _) ?_
  refine WL.y rfl (Y.move) ?_
  refine WL.y rfl (Y.lenSl Tryd.underlying22 (b2) _) ?_
  refine WL.y rfl (Y.min2 rfl rfl (rfl)) ?_
  refine WL.y rfl (Y.move) ?_
  refine WL.nil ?_
  refine WC.block ?_
  refine WC.loop (fun j => la.length - j) (fun j f ds w' => (j : Int) ≤ min (la.length : Int) (lb.length : Int) ∧ ds = [] ∧ Below w.heap.size w w' ∧ cmpM la ka kb lb = cmpM (la.drop j) (ka.drop j) (kb.drop j) (lb.drop j) ∧ ∃ J, f = Go.Cx.ov J [(0, ra), (1, rb), (2, .func (.func 47) #[] #[]), (13, .int .i64 (min (la.length : Int) (lb.length : Int))), (14, .int .i64 (j : Int))]) 0 ?_ ?_
  · exact ⟨by omega, rfl, Below.refl _ _, rfl, _, ov_mk ⟨rfl, rfl, rfl, rfl, rfl, trivial⟩⟩
  · rintro j _ _ w2 ⟨hj, rfl, hb2, hc, J, rfl⟩
    refine WC.seqR rfl ?_
    refine WL.y rfl (Y.lss rfl rfl) ?_
    refine WL.nil ?_
    refine WC.seq ?_
    refine WC.condD rfl (fun h0 => ?_) (fun h0 => ?_)
    · have hj1 : j < la.length := by omega
      have hj2 : j < lb.length := by omega
      have hja : j < ca.length := by omega
      have hjb : j < cb.length := by omega
      have hk1 : j < ka.length := by omega
      have hk2 : j < kb.length := by omega
      have hst := cmpM_step la lb ka kb j hj1 hj2 hk1 hk2
      have hml1 : (strv ka[j] :: ca[j].c).length = 7 := by rw [List.length_cons, ca[j].h]
      have hml2 : (strv kb[j] :: cb[j].c).length = 7 := by rw [List.length_cons, cb[j].h]
      refine WC.skip (thenQ.normal ?_)
      refine WC.seq ?_
      refine WC.block ?_
      refine WC.seqR rfl ?_
      refine WL.y rfl (Y.move) ?_
      refine WL.y rfl (Y.assign) ?_
      refine WL.nil ?_
      refine WC.seq ?_
      refine WC.regionB (fun i => Nat.beq i 9) [(0, .any), (1, .any), (2, .any), (3, .any), (4, .held), (5, .any), (6, .any), (7, .any), (8, .held), (9, .seq), (10, .any)] mixed (by kernel_rfl) (fun w4 hS4 hheap => ?_)
      refine RL.any rfl rfl (fun _ => Y.move) ?_
      refine RL.any rfl rfl (fun _ => Y.move) ?_
      refine RL.any rfl rfl (fun _ => Y.move) ?_
      refine RL.yex rfl rfl (Y.idx Tryd.underlying22 ti38 (by decide) (a2.bel hb2) rfl (by omega) (by omega)) ?_
      rintro _ ⟨b20, o20, rfl, hc20⟩
      refine RL.held rfl rfl hS4 (fun _ hb9 => Y.loadK Tryd.underlying38 rfl ti38 (hml1) rfl (Cells.bel (mem_cells hk1 hja hc20) hb9)) ?_
      refine RL.any rfl rfl (fun _ => Y.move) ?_
      refine RL.any rfl rfl (fun _ => Y.move) ?_
      refine RL.yex rfl rfl (Y.idx Tryd.underlying22 ti38 (by decide) (b2.bel hb2) rfl (by omega) (by omega)) ?_
      rintro _ ⟨b24, o24, rfl, hc24⟩
      refine RL.held rfl rfl hS4 (fun _ hb9 => Y.loadK Tryd.underlying38 rfl ti38 (hml2) rfl (Cells.bel (mem_cells hk2 hjb hc24) hb9)) ?_
      refine RL.call rfl rfl (C.value go47 rfl) ((cmpMem_ret (ka[j]) la[j] kb[j] lb[j] _ ca[j].c cb[j].c (hih _ (List.getElem_mem hj1)) (((a3 j hj1 hja).bel hb2).bel hS4) (((b3 j hj2 hjb).bel hb2).bel hS4))) ?_
      rintro _ w26 ⟨rfl, hb26⟩
      refine ⟨.inl rfl, ?_⟩
      refine RL.any rfl rfl (fun _ => Y.assign) ?_
      refine RL.nil (thenQ.normal ?_)
      refine WC.seqR rfl ?_
      refine WL.y rfl (Y.move) ?_
      refine WL.y rfl (Y.nei rfl rfl) ?_
      refine WL.nil ?_
      have hbb := Below.step (Below.step hb2 hS4) hb26
      have hst2 : cmpM (la.drop j) (ka.drop j) (kb.drop j) (lb.drop j) = if cmpP ka[j] la[j] kb[j] lb[j] ≠ 0 then cmpP ka[j] la[j] kb[j] lb[j] else cmpM (la.drop (j + 1)) (ka.drop (j + 1)) (kb.drop (j + 1)) (lb.drop (j + 1)) := by
        rw [hst]
        unfold cmpP
        by_cases q : cmpT ka[j] kb[j] ≠ 0
        · rw [if_pos q, if_pos q, if_pos q]
        · rw [if_neg q, if_neg q]
      clear hst
      refine WC.condD rfl (fun h1 => ?_) (fun h1 => ?_)
      · rw [if_pos h1] at hst2
        refine WC.seqR rfl ?_
        refine WL.y rfl (Y.move) ?_
        refine WL.y rfl (Y.assign) ?_
        refine WL.nil ?_
        refine WC.ret (inBlockQ.ret (thenQ.ret (thenQ.ret (inBlockQ.ret (thenQ.ret (endQ.one (.inr rfl) ?_))))))
        exact ⟨congrArg (Value.int .i64) (hc.trans hst2).symm, hbb⟩
      · rw [if_neg h1] at hst2
        refine WC.skip (inBlockQ.normal (thenQ.normal ?_))
        refine WC.region rfl ?_
        refine WL.y rfl (Y.add64 rfl rfl (by omega)) ?_
        refine WL.y rfl (Y.move) ?_
        refine WL.nil (thenQ.normal ?_)
        exact ⟨j + 1, by omega, by omega, rfl, hbb, hc.trans hst2, _, ov_mk ⟨rfl, rfl, rfl, rfl, rfl, trivial⟩⟩
    · have e := cmpM_end la lb ka kb j (by omega)
      refine WC.exit (thenQ.exit (thenQ.exit (inBlockQ.hit (thenQ.normal ?_))))
      refine WC.seqR rfl ?_
      refine WL.y rfl (Y.move) ?_
      refine WL.y rfl (Y.lenSl Tryd.underlying22 (a2.bel hb2) _) ?_
      refine WL.y rfl (Y.move) ?_
      refine WL.y rfl (Y.lenSl Tryd.underlying22 (b2.bel hb2) _) ?_
      refine WL.call rfl (C.func go60) (cmpI_ret _ (la.length : Int) (lb.length : Int)) ?_
      rintro _ _ ⟨rfl, rfl⟩
      refine WL.y rfl (Y.assign) ?_
      refine WL.nil ?_
      refine WC.ret (endQ.one (.inr rfl) ?_)
      exact ⟨congrArg (Value.int .i64) (hc.trans e).symm, hb2⟩
end Go.Proofs.YthcppegkpkgnpaaDoor
