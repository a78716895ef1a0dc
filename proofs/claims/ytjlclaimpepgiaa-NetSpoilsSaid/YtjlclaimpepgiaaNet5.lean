/-
  The document's net: letters held against one another, a list for each change.
-/
import Derived.Test.YtjlclaimpepgiaaNet4
namespace Go.Proofs.Ytjlclaimpepgiaa
open Go Go.RowKit Go.Cx
set_option linter.unusedVariables false
open Crc
instance : DecidableEq LS := fun a b => decidable_of_iff (a.to = b.to ∧ a.bs = b.bs ∧ a.sp = b.sp) (by cases a; cases b; simp)
theorem ls_eq (a b : LS) : a = b ↔ a.to = b.to ∧ a.bs = b.bs ∧ a.sp = b.sp := by cases a; cases b; simp
theorem sameLetter_ret (w : World) (p q : LS × Value) (hp : Bs w p.2 p.1.bs) (hq : Bs w q.2 q.1.bs) :
    Ret Try.prog 17 [.agg (encL p).toArray, .agg (encL q).toArray].toArray w fun v w' => v = .bool (decide (p.1 = q.1)) ∧ Below w.heap.size w w' := by
  by_cases hto : p.1.to = q.1.to
  · by_cases hsp : p.1.sp = q.1.sp
    · have he : decide (p.1.bs = q.1.bs) = decide (p.1 = q.1) := by rw [decide_eq_decide, ls_eq]; exact ⟨fun h => ⟨hto, h, hsp⟩, fun h => h.2.1⟩
      refine Ret.of (n := 26) (rs := #[.tmp 4]) Try.func17 rfl rfl rfl (by simp) ?_
      refine WC.seqR rfl ?_
      refine WL.eex rfl (E.boxX) ?_
      rintro _ w2 ⟨rfl, hB2, hb2⟩
      have k2 := hb2
      refine WL.eex rfl (E.boxX) ?_
      rintro _ w3 ⟨rfl, hB3, hb3⟩
      have k3 := Below.step k2 hb3
      refine WL.y rfl (Y.assign) ?_
      refine WL.nil ?_
      refine WC.seqR rfl ?_
      refine WL.y rfl (Y.fieldAddr fi36f0 ti31 (by decide) rfl (rfl) _) ?_
      refine WL.y rfl (Y.load1 Try.underlying31 rfl rfl ((show _ = some (Value.int .u64 p.1.to) from ((hB2.bel hb3).cell 0).trans rfl))) ?_
      refine WL.y rfl (Y.fieldAddr fi36f0 ti31 (by decide) rfl (rfl) _) ?_
      refine WL.y rfl (Y.load1 Try.underlying31 rfl rfl ((show _ = some (Value.int .u64 q.1.to) from (hB3.cell 0).trans rfl))) ?_
      refine WL.y rfl (Y.dT (Y.eqi rfl rfl) (hto)) ?_
      refine WL.y rfl (Y.move) ?_
      refine WL.y rfl (Y.fieldAddr fi36f2 ti4 (by decide) rfl (rfl) _) ?_
      refine WL.y rfl (Y.load1 Try.underlying4 rfl rfl ((show _ = some (Value.bool p.1.sp) from ((hB2.bel hb3).cell 2).trans rfl))) ?_
      refine WL.y rfl (Y.fieldAddr fi36f2 ti4 (by decide) rfl (rfl) _) ?_
      refine WL.y rfl (Y.load1 Try.underlying4 rfl rfl ((show _ = some (Value.bool q.1.sp) from (hB3.cell 2).trans rfl))) ?_
      refine WL.y rfl (Y.bT (Y.eqb Try.underlying4 rfl rfl) ((by rw [hsp]; exact beq_self_eq_true _))) ?_
      refine WL.y rfl (Y.pickT rfl) ?_
      refine WL.y rfl (Y.move) ?_
      refine WL.y rfl (Y.fieldAddr fi36f1 ti32 (by decide) rfl (rfl) _) ?_
      refine WL.y rfl (Y.load1 Try.underlying32 rfl rfl ((show _ = some p.2 from ((hB2.bel hb3).cell 1).trans rfl))) ?_
      refine WL.y rfl (Y.b2s Try.underlying32 Try.underlying5 Try.underlying9 (hp.bel k3)) ?_
      refine WL.y rfl (Y.fieldAddr fi36f1 ti32 (by decide) rfl (rfl) _) ?_
      refine WL.y rfl (Y.load1 Try.underlying32 rfl rfl ((show _ = some q.2 from (hB3.cell 1).trans rfl))) ?_
      refine WL.y rfl (Y.b2s Try.underlying32 Try.underlying5 Try.underlying9 (hq.bel k3)) ?_
      refine WL.y rfl (Y.eqS rfl rfl) ?_
      refine WL.y rfl (Y.pickT rfl) ?_
      refine WL.y rfl (Y.assign) ?_
      refine WL.nil ?_
      refine WC.ret (endQ.one (.inr rfl) ?_)
      exact ⟨congrArg Value.bool he, k3⟩
    · have he : p.1 ≠ q.1 := fun h => hsp (by rw [h])
      refine Ret.of (n := 26) (rs := #[.tmp 4]) Try.func17 rfl rfl rfl (by simp) ?_
      refine WC.seqR rfl ?_
      refine WL.eex rfl (E.boxX) ?_
      rintro _ w2 ⟨rfl, hB2, hb2⟩
      have k2 := hb2
      refine WL.eex rfl (E.boxX) ?_
      rintro _ w3 ⟨rfl, hB3, hb3⟩
      have k3 := Below.step k2 hb3
      refine WL.y rfl (Y.assign) ?_
      refine WL.nil ?_
      refine WC.seqR rfl ?_
      refine WL.y rfl (Y.fieldAddr fi36f0 ti31 (by decide) rfl (rfl) _) ?_
      refine WL.y rfl (Y.load1 Try.underlying31 rfl rfl ((show _ = some (Value.int .u64 p.1.to) from ((hB2.bel hb3).cell 0).trans rfl))) ?_
      refine WL.y rfl (Y.fieldAddr fi36f0 ti31 (by decide) rfl (rfl) _) ?_
      refine WL.y rfl (Y.load1 Try.underlying31 rfl rfl ((show _ = some (Value.int .u64 q.1.to) from (hB3.cell 0).trans rfl))) ?_
      refine WL.y rfl (Y.dT (Y.eqi rfl rfl) (hto)) ?_
      refine WL.y rfl (Y.move) ?_
      refine WL.y rfl (Y.fieldAddr fi36f2 ti4 (by decide) rfl (rfl) _) ?_
      refine WL.y rfl (Y.load1 Try.underlying4 rfl rfl ((show _ = some (Value.bool p.1.sp) from ((hB2.bel hb3).cell 2).trans rfl))) ?_
      refine WL.y rfl (Y.fieldAddr fi36f2 ti4 (by decide) rfl (rfl) _) ?_
      refine WL.y rfl (Y.load1 Try.underlying4 rfl rfl ((show _ = some (Value.bool q.1.sp) from (hB3.cell 2).trans rfl))) ?_
      refine WL.y rfl (Y.bF (Y.eqb Try.underlying4 rfl rfl) ((beq_eq_false_iff_ne.mpr hsp))) ?_
      refine WL.y rfl (Y.pickT rfl) ?_
      refine WL.y rfl (Y.move) ?_
      refine WL.off rfl ?_
      refine WL.off rfl ?_
      refine WL.off rfl ?_
      refine WL.off rfl ?_
      refine WL.off rfl ?_
      refine WL.off rfl ?_
      refine WL.off rfl ?_
      refine WL.y rfl (Y.pickF rfl) ?_
      refine WL.y rfl (Y.assign) ?_
      refine WL.nil ?_
      refine WC.ret (endQ.one (.inr rfl) ?_)
      exact ⟨congrArg Value.bool (decide_eq_false he).symm, k3⟩
  · have he : p.1 ≠ q.1 := fun h => hto (by rw [h])
    refine Ret.of (n := 26) (rs := #[.tmp 4]) Try.func17 rfl rfl rfl (by simp) ?_
    refine WC.seqR rfl ?_
    refine WL.eex rfl (E.boxX) ?_
    rintro _ w2 ⟨rfl, hB2, hb2⟩
    have k2 := hb2
    refine WL.eex rfl (E.boxX) ?_
    rintro _ w3 ⟨rfl, hB3, hb3⟩
    have k3 := Below.step k2 hb3
    refine WL.y rfl (Y.assign) ?_
    refine WL.nil ?_
    refine WC.seqR rfl ?_
    refine WL.y rfl (Y.fieldAddr fi36f0 ti31 (by decide) rfl (rfl) _) ?_
    refine WL.y rfl (Y.load1 Try.underlying31 rfl rfl ((show _ = some (Value.int .u64 p.1.to) from ((hB2.bel hb3).cell 0).trans rfl))) ?_
    refine WL.y rfl (Y.fieldAddr fi36f0 ti31 (by decide) rfl (rfl) _) ?_
    refine WL.y rfl (Y.load1 Try.underlying31 rfl rfl ((show _ = some (Value.int .u64 q.1.to) from (hB3.cell 0).trans rfl))) ?_
    refine WL.y rfl (Y.dF (Y.eqi rfl rfl) (hto)) ?_
    refine WL.y rfl (Y.move) ?_
    refine WL.off rfl ?_
    refine WL.off rfl ?_
    refine WL.off rfl ?_
    refine WL.off rfl ?_
    refine WL.off rfl ?_
    refine WL.y rfl (Y.pickF rfl) ?_
    refine WL.y rfl (Y.move) ?_
    refine WL.off rfl ?_
    refine WL.off rfl ?_
    refine WL.off rfl ?_
    refine WL.off rfl ?_
    refine WL.off rfl ?_
    refine WL.off rfl ?_
    refine WL.off rfl ?_
    refine WL.y rfl (Y.pickF rfl) ?_
    refine WL.y rfl (Y.assign) ?_
    refine WL.nil ?_
    refine WC.ret (endQ.one (.inr rfl) ?_)
    exact ⟨congrArg Value.bool (decide_eq_false he).symm, k3⟩
theorem lts_getD {w : World} {M : Nat → Prop} {ps : List (LS × Value)} (h : Lts w M ps) {k : Nat} (hk : k < ps.length) : Bs w (ps.getD k zeroL).2 (ps.getD k zeroL).1.bs := by
  simp only [List.getD_eq_getElem?_getD, List.getElem?_eq_getElem hk, Option.getD_some]
  exact (h _ (List.getElem_mem hk)).1.sl
theorem sameL_ret (w : World) (av bv : Value) (ps qs : List (LS × Value)) (ha : SlK w 3 av ps.length (flat ps)) (hb : SlK w 3 bv qs.length (flat qs)) (hpa : ∀ k, k < ps.length → Bs w (ps.getD k zeroL).2 (ps.getD k zeroL).1.bs) (hqa : ∀ k, k < qs.length → Bs w (qs.getD k zeroL).2 (qs.getD k zeroL).1.bs) :
    Ret Try.prog 20 [av, bv].toArray w fun v w' => v = .bool (decide (ps.map Prod.fst = qs.map Prod.fst)) ∧ Below w.heap.size w w' := by
  have hla := ha.len
  have hlb := hb.len
  refine Ret.of (n := 27) (rs := #[.tmp 4]) Try.func20 rfl rfl rfl (by simp) ?_
  refine WC.seqR rfl ?_
  refine WL.y rfl (Y.assign) ?_
  refine WL.nil ?_
  refine WC.seq ?_
  refine WC.seqR rfl ?_
  refine WL.y rfl (Y.move) ?_
  refine WL.y rfl (Y.lenSl Try.underlying26 (ha) _) ?_
  refine WL.y rfl (Y.move) ?_
  refine WL.y rfl (Y.lenSl Try.underlying26 (hb) _) ?_
  refine WL.y rfl (Y.nei rfl rfl) ?_
  refine WL.nil ?_
  refine WC.condD rfl (fun hne => ?_) (fun hne => ?_)
  · refine WC.seqR rfl ?_
    refine WL.y rfl (Y.assign) ?_
    refine WL.nil ?_
    refine WC.ret (thenQ.ret (endQ.one (.inr rfl) ?_))
    exact ⟨(congrArg Value.bool (decide_eq_false fun e => hne (by have := congrArg List.length e; simp only [List.length_map] at this; omega))).symm, Below.refl _ _⟩
  · refine WC.skip (thenQ.normal ?_)
    refine WC.seq ?_
    refine WC.seqR rfl ?_
    refine WL.y rfl (Y.assign) ?_
    refine WL.nil ?_
    refine WC.block ?_
    have hlen : ps.length = qs.length := by omega
    refine WC.loop (fun i => ps.length - i) (fun i f ds w' => i ≤ ps.length ∧ (ps.take i).map Prod.fst = (qs.take i).map Prod.fst ∧ ds = [] ∧ Below w.heap.size w w' ∧ ∃ J, f = ov J [(0, av), (1, bv), (5, .int .i64 (i : Int))]) 0 ?_ ?_
    · exact ⟨by omega, by simp, rfl, Below.refl _ _, _, ov_mk ⟨rfl, rfl, rfl, trivial⟩⟩
    · rintro i _ _ w1 ⟨hi, he, rfl, hb1, J, rfl⟩
      refine WC.seq ?_
      refine WC.seqR rfl ?_
      refine WL.y rfl (Y.move) ?_
      refine WL.y rfl (Y.move) ?_
      refine WL.y rfl (Y.lenSl Try.underlying26 (ha.bel hb1) _) ?_
      refine WL.y rfl (Y.lss rfl rfl) ?_
      refine WL.nil ?_
      refine WC.condD rfl (fun hc => ?_) (fun hc => ?_)
      · have hil : i < ps.length := by omega
        have hil2 : i < qs.length := by omega
        have hgp : ps.getD i zeroL = ps[i] := by simp [hil]
        have hgq : qs.getD i zeroL = qs[i] := by simp [hil2]
        have h1 := (hpa i hil).bel hb1
        have h2 := (hqa i hil2).bel hb1
        rw [hgp] at h1
        rw [hgq] at h2
        by_cases hpq : ps[i].1 = qs[i].1
        · refine WC.skip (thenQ.normal ?_)
          refine WC.seq ?_
          refine WC.block ?_
          refine WC.seq ?_
          refine WC.regionB (fun i => Nat.beq i 8) [(0, .any), (1, .any), (2, .any), (3, .held), (4, .any), (5, .any), (6, .any), (7, .held), (8, .seq), (9, .any)] mixed (by kernel_rfl) (fun wr6 hS6 hheap => ?_)
          have kr6 := Below.step hb1 hS6
          refine RL.any rfl rfl (fun _ => Y.move) ?_
          refine RL.any rfl rfl (fun _ => Y.move) ?_
          refine RL.yex rfl rfl (Y.idxF (enc := encL) zeroL encL_len (by decide) Try.underlying26 ti36 (ha.bel hb1) rfl (by omega) (by omega)) ?_
          rintro _ ⟨b19, o19, rfl, hc19⟩
          simp only [Int.toNat_natCast, hgp] at hc19
          refine RL.held rfl rfl hS6 (fun _ hb9 => Y.loadN Try.underlying36 rfl ti36 rfl (hc19.bel hb9)) ?_
          refine RL.any rfl rfl (fun _ => Y.move) ?_
          refine RL.any rfl rfl (fun _ => Y.move) ?_
          refine RL.yex rfl rfl (Y.idxF (enc := encL) zeroL encL_len (by decide) Try.underlying26 ti36 (hb.bel hb1) rfl (by omega) (by omega)) ?_
          rintro _ ⟨b23, o23, rfl, hc23⟩
          simp only [Int.toNat_natCast, hgq] at hc23
          refine RL.held rfl rfl hS6 (fun _ hb9 => Y.loadN Try.underlying36 rfl ti36 rfl (hc23.bel hb9)) ?_
          refine RL.call rfl rfl (C.func go17) ((sameLetter_ret _ ps[i] qs[i] (h1.bel hS6) (h2.bel hS6)).yes hpq) ?_
          rintro _ w25 ⟨rfl, hb25⟩
          refine ⟨.inl rfl, ?_⟩
          have k25 := Below.step kr6 hb25
          refine RL.any rfl rfl (fun _ => Y.not rfl) ?_
          refine RL.nil (thenQ.normal ?_)
          refine WC.condF (rfl) ?_
          refine WC.skip (inBlockQ.normal (thenQ.normal ?_))
          refine WC.region rfl ?_
          refine WL.y rfl (Y.move) ?_
          refine WL.y rfl (Y.add64 rfl rfl (by omega)) ?_
          refine WL.y rfl (Y.assign) ?_
          refine WL.nil (thenQ.normal ?_)
          refine ⟨i + 1, by omega, by omega, ?_, rfl, k25, _, ov_mk ⟨rfl, rfl, rfl, trivial⟩⟩
          rw [List.take_succ_eq_append_getElem hil, List.take_succ_eq_append_getElem hil2, List.map_append, List.map_append, he]
          simp [hpq]
        · skip
          refine WC.skip (thenQ.normal ?_)
          refine WC.seq ?_
          refine WC.block ?_
          refine WC.seq ?_
          refine WC.regionB (fun i => Nat.beq i 8) [(0, .any), (1, .any), (2, .any), (3, .held), (4, .any), (5, .any), (6, .any), (7, .held), (8, .seq), (9, .any)] mixed (by kernel_rfl) (fun wr6 hS6 hheap => ?_)
          have kr6 := Below.step hb1 hS6
          refine RL.any rfl rfl (fun _ => Y.move) ?_
          refine RL.any rfl rfl (fun _ => Y.move) ?_
          refine RL.yex rfl rfl (Y.idxF (enc := encL) zeroL encL_len (by decide) Try.underlying26 ti36 (ha.bel hb1) rfl (by omega) (by omega)) ?_
          rintro _ ⟨b19, o19, rfl, hc19⟩
          simp only [Int.toNat_natCast, hgp] at hc19
          refine RL.held rfl rfl hS6 (fun _ hb9 => Y.loadN Try.underlying36 rfl ti36 rfl (hc19.bel hb9)) ?_
          refine RL.any rfl rfl (fun _ => Y.move) ?_
          refine RL.any rfl rfl (fun _ => Y.move) ?_
          refine RL.yex rfl rfl (Y.idxF (enc := encL) zeroL encL_len (by decide) Try.underlying26 ti36 (hb.bel hb1) rfl (by omega) (by omega)) ?_
          rintro _ ⟨b23, o23, rfl, hc23⟩
          simp only [Int.toNat_natCast, hgq] at hc23
          refine RL.held rfl rfl hS6 (fun _ hb9 => Y.loadN Try.underlying36 rfl ti36 rfl (hc23.bel hb9)) ?_
          refine RL.call rfl rfl (C.func go17) ((sameLetter_ret _ ps[i] qs[i] (h1.bel hS6) (h2.bel hS6)).no hpq) ?_
          rintro _ w25 ⟨rfl, hb25⟩
          refine ⟨.inl rfl, ?_⟩
          have k25 := Below.step kr6 hb25
          refine RL.any rfl rfl (fun _ => Y.not rfl) ?_
          refine RL.nil (thenQ.normal ?_)
          refine WC.condT (rfl) ?_
          refine WC.seqR rfl ?_
          refine WL.y rfl (Y.assign) ?_
          refine WL.nil ?_
          refine WC.ret (inBlockQ.ret (thenQ.ret (thenQ.ret (inBlockQ.ret (thenQ.ret (endQ.one (.inr rfl) ?_))))))
          refine ⟨(congrArg Value.bool (decide_eq_false fun e => hpq ?_)).symm, k25⟩
          have h3 : (ps.map Prod.fst)[i]? = (qs.map Prod.fst)[i]? := by rw [e]
          simpa [hil, hil2] using h3
      · refine WC.exit (thenQ.exit (thenQ.exit (inBlockQ.hit (thenQ.normal ?_))))
        refine WC.seqR rfl ?_
        refine WL.y rfl (Y.assign) ?_
        refine WL.nil ?_
        refine WC.ret (endQ.one (.inr rfl) ?_)
        have hi2 : i = ps.length := by omega
        subst hi2
        rw [List.take_length, hlen, List.take_length] at he
        exact ⟨(congrArg Value.bool (decide_eq_true he)).symm, hb1⟩
/-- The document's net: block bw holds a list that never changes. -/
def RefAt (w : World) (M : Nat → Prop) (bw : Nat) (ps : List (LS × Value)) : Prop :=
  (∀ b, M b → b < w.heap.size) ∧ ∃ v, Blk w bw 46 [v] ∧ M bw ∧ SlA w M 3 v ps.length (flat ps) ∧ Lts w M ps
theorem RefAt.kept {w w' : World} {M M' : Nat → Prop} {bw : Nat} {ps : List (LS × Value)} (h : RefAt w M bw ps) (hk : Kept M' w w') (hM : ∀ b, M' b → b < w.heap.size → M b) (h1 : ¬ M' bw) : RefAt w' M bw ps := by
  obtain ⟨hMs, v, hB, hm1, hs, hl⟩ := h
  exact ⟨fun b hb => Nat.lt_of_lt_of_le (hMs b hb) hk.size, v, hB.kept hk h1, hm1, hs.kept hk hM, hl.kept hk hM⟩
theorem RefAt.bel {w w' : World} {M : Nat → Prop} {bw : Nat} {ps : List (LS × Value)} (h : RefAt w M bw ps) (hb : Below w.heap.size w w') : RefAt w' M bw ps :=
  h.kept (Kept.of_bel (M := fun _ => False) hb) (fun _ m => m.elim) (fun m => m)
theorem RefAt.widen {w w' : World} {M M' : Nat → Prop} {bw : Nat} {ps : List (LS × Value)} (h : RefAt w M bw ps) (hb : Below w.heap.size w w') (hM : ∀ b, M' b → b < w.heap.size → M b) (hs : ∀ b, M' b → b < w'.heap.size) (h1 : M' bw) : RefAt w' M' bw ps := by
  obtain ⟨hMs, v, hB, hm1, hsl, hl⟩ := h
  exact ⟨hs, v, hB.bel hb, h1, (hsl.mono hM).bel hb, (hl.mono hM).kept (Kept.of_bel (M := fun _ => False) hb) (fun _ m => m.elim)⟩
theorem is_ret (w : World) (M : Nat → Prop) (bw : Nat) (ps : List (LS × Value)) (h : RefAt w M bw ps) (i : Int) : Ret Try.prog 37 [.pointer (some ⟨bw, 0, none⟩), .int .i64 i].toArray w fun v w' => v = .bool (decide (0 ≤ i ∧ i < ps.length)) ∧ w = w' := by
  obtain ⟨hMs, v, hB, hm1, hs, hl⟩ := h
  by_cases h0 : 0 ≤ i
  · by_cases h1 : i < ps.length
    · refine Ret.of (n := 16) (rs := #[.tmp 4]) Try.func37 rfl rfl rfl (by simp) ?_
      refine WC.seqR rfl ?_
      refine WL.y rfl (Y.assign) ?_
      refine WL.nil ?_
      refine WC.seqR rfl ?_
      refine WL.y rfl (Y.move) ?_
      refine WL.y rfl (Y.dT (Y.geq rfl rfl) (by omega)) ?_
      refine WL.y rfl (Y.move) ?_
      refine WL.y rfl (Y.move) ?_
      refine WL.y rfl (Y.move) ?_
      refine WL.y rfl (Y.nilCheck rfl) ?_
      refine WL.y rfl (Y.fieldAddr fi46f0 ti26 (by decide) rfl (rfl) _) ?_
      refine WL.y rfl (Y.load1 Try.underlying26 rfl rfl (hB.one)) ?_
      refine WL.y rfl (Y.lenSl Try.underlying26 (hs.sl) _) ?_
      refine WL.y rfl (Y.dT (Y.lss rfl rfl) (by omega)) ?_
      refine WL.y rfl (Y.pickT rfl) ?_
      refine WL.y rfl (Y.assign) ?_
      refine WL.nil ?_
      refine WC.ret (endQ.one (.inr rfl) ?_)
      exact ⟨congrArg Value.bool (decide_eq_true ⟨h0, h1⟩).symm, rfl⟩
    · refine Ret.of (n := 16) (rs := #[.tmp 4]) Try.func37 rfl rfl rfl (by simp) ?_
      refine WC.seqR rfl ?_
      refine WL.y rfl (Y.assign) ?_
      refine WL.nil ?_
      refine WC.seqR rfl ?_
      refine WL.y rfl (Y.move) ?_
      refine WL.y rfl (Y.dT (Y.geq rfl rfl) (by omega)) ?_
      refine WL.y rfl (Y.move) ?_
      refine WL.y rfl (Y.move) ?_
      refine WL.y rfl (Y.move) ?_
      refine WL.y rfl (Y.nilCheck rfl) ?_
      refine WL.y rfl (Y.fieldAddr fi46f0 ti26 (by decide) rfl (rfl) _) ?_
      refine WL.y rfl (Y.load1 Try.underlying26 rfl rfl (hB.one)) ?_
      refine WL.y rfl (Y.lenSl Try.underlying26 (hs.sl) _) ?_
      refine WL.y rfl (Y.dF (Y.lss rfl rfl) (by omega)) ?_
      refine WL.y rfl (Y.pickT rfl) ?_
      refine WL.y rfl (Y.assign) ?_
      refine WL.nil ?_
      refine WC.ret (endQ.one (.inr rfl) ?_)
      exact ⟨congrArg Value.bool (decide_eq_false (fun h => h1 h.2)).symm, rfl⟩
  · refine Ret.of (n := 16) (rs := #[.tmp 4]) Try.func37 rfl rfl rfl (by simp) ?_
    refine WC.seqR rfl ?_
    refine WL.y rfl (Y.assign) ?_
    refine WL.nil ?_
    refine WC.seqR rfl ?_
    refine WL.y rfl (Y.move) ?_
    refine WL.y rfl (Y.dF (Y.geq rfl rfl) (by omega)) ?_
    refine WL.y rfl (Y.move) ?_
    refine WL.off rfl ?_
    refine WL.off rfl ?_
    refine WL.off rfl ?_
    refine WL.off rfl ?_
    refine WL.off rfl ?_
    refine WL.off rfl ?_
    refine WL.off rfl ?_
    refine WL.y rfl (Y.pickF rfl) ?_
    refine WL.y rfl (Y.assign) ?_
    refine WL.nil ?_
    refine WC.ret (endQ.one (.inr rfl) ?_)
    exact ⟨congrArg Value.bool (decide_eq_false (fun h => h0 h.1)).symm, rfl⟩
theorem is_yes (w : World) (M : Nat → Prop) (bw : Nat) (ps : List (LS × Value)) (h : RefAt w M bw ps) (i : Int) (hi : 0 ≤ i ∧ i < ps.length) : Ret Try.prog 37 [.pointer (some ⟨bw, 0, none⟩), .int .i64 i].toArray w fun v w' => v = .bool true ∧ w = w' := (is_ret w M bw ps h i).yes hi
theorem is_no (w : World) (M : Nat → Prop) (bw : Nat) (ps : List (LS × Value)) (h : RefAt w M bw ps) (i : Int) (hi : ¬ (0 ≤ i ∧ i < ps.length)) : Ret Try.prog 37 [.pointer (some ⟨bw, 0, none⟩), .int .i64 i].toArray w fun v w' => v = .bool false ∧ w = w' := (is_ret w M bw ps h i).no hi
theorem rsend_ret (w : World) (M : Nat → Prop) (bw : Nat) (ps : List (LS × Value)) (h : RefAt w M bw ps) (hps : ps.length ≤ 1000000) (to : Int) (bv : Value) (l : List UInt8) (hs : Bs w bv l) (hl : l.length ≤ 140737488355328) :
    Ret Try.prog 18 [.pointer (some ⟨bw, 0, none⟩), .int .u64 to, bv].toArray w fun v w' => v = .tuple #[] ∧ ∃ fv, RefAt w' M bw (ps ++ [(⟨to, l, false⟩, fv)]) ∧ Kept (fun b => b = bw) w w' := by
  obtain ⟨hMs, u, hB, hm1, hsu, hl0⟩ := h
  have hmx : maxLen = 9223372036854775807 := rfl
  refine Ret.of (n := 20) (rs := #[]) Try.func18 rfl rfl rfl (by simp) ?_
  refine WC.region rfl ?_
  refine WL.y rfl (Y.move) ?_
  refine WL.y rfl (Y.move) ?_
  refine WL.y rfl (Y.nilCheck rfl) ?_
  refine WL.y rfl (Y.fieldAddr fi46f0 ti26 (by decide) rfl (rfl) _) ?_
  refine WL.y rfl (Y.load1 Try.underlying26 rfl rfl (hB.one)) ?_
  refine WL.eex rfl (E.append Try.underlying26 ti36 rfl (by decide) (World.ownsRow_nil w w.heap.size _ 3) hsu.sl (encL_one hl0) (by omega) (by omega) (Nat.le_refl _)) ?_
  rintro v11 w11 ⟨ho11, hb11, -⟩
  have k11 := hb11
  rw [Nat.zero_add, List.nil_append] at ho11
  refine WL.y rfl (Y.move) ?_
  refine WL.y rfl (Y.move) ?_
  refine WL.call rfl (C.func go13) (rown_ret bv l _ (hs.bel k11) hl) ?_
  rintro v14 w14 ⟨ho14, hb14⟩
  have k14 := Below.step k11 hb14
  obtain ⟨a14, c14, rfl⟩ : ∃ a c, v14 = .slice a l.length c := by obtain ⟨_, _, a, c, h, _⟩ := ho14.bs; exact ⟨a, c, h⟩
  refine WL.y rfl (Y.build (cells := (encL (⟨to, l, false⟩, .slice a14 l.length c14)).toArray) (by kernel_rfl) _) ?_
  refine WL.eex rfl (E.buildSliceX (len := 1) (cs := encL (⟨to, l, false⟩, .slice a14 l.length c14)) Try.underlying26 ti36 (by omega) (by omega) (by kernel_rfl) rfl) ?_
  rintro _ w16 ⟨rfl, ho16, hb16, -⟩
  have k16 := Below.step k14 hb16
  refine WL.eex rfl (E.append Try.underlying26 ti36 rfl (by decide) ((ownsRow_bel (ownsRow_bel ho11 hb14) hb16)) (ownsRow_sl ho16) (one_enc rfl) (by omega) (by omega) (Nat.le_trans hb11.size (Nat.le_trans hb14.size hb16.size))) ?_
  rintro v17 w17 ⟨ho17, hb17, hg17⟩
  have k17 := k16.trans hb17
  refine WL.y rfl (Y.nilCheck rfl) ?_
  refine WL.y rfl (Y.fieldAddr fi46f0 ti26 (by decide) rfl (rfl) _) ?_
  refine WL.eex rfl (E.storeX (u := v17) ti26 rfl rfl (ownsRow_sl ho17).one ((hB.bel k16).belB hb17 hB.lt) (by simp)) ?_
  rintro _ w18 ⟨hB18, hg18, -⟩
  refine WL.nil (endQ.zero (.inl rfl) ?_)
  have hwb := hMs bw hm1
  have hk18 : Kept (fun b => b = bw) w w18 := (Kept.of_bel k17).trans (Kept.of_grown hg18 rfl)
  have h11s := hb11.size
  have ho18 := own_grown ho17 hg18 hwb
  have e : flat ps ++ encL (⟨to, l, false⟩, .slice a14 l.length c14) = flat (ps ++ [(⟨to, l, false⟩, .slice a14 l.length c14)]) := by rw [flat_app]; rfl
  rw [e] at ho18
  have ho14' := own_grown (own_kept (ho14.bel hb16) (Kept.of_grownR hg17 (M := fun b => b < w11.heap.size) (fun b e => (ho11.lt b e).2)) (fun b hb _ => hb)) hg18 (by omega)
  refine ⟨rfl, .slice a14 l.length c14, ⟨fun b hb => Nat.lt_of_lt_of_le (hMs b hb) hk18.size, v17, hB18, hm1, ?_, Lts.append (hl0.kept hk18 (fun b hb _ => hb ▸ hm1)) ?_⟩, hk18⟩
  · have := SlA.of_own (M := M) ho18 (fun b hb _ => hMs b hb)
    simpa using this
  · intro p hp
    obtain rfl : p = (⟨to, l, false⟩, .slice a14 l.length c14) := by simpa using hp
    exact ⟨SlA.of_own ho14' (fun b hb _ => by have := hMs b hb; omega), hl⟩
end Go.Proofs.Ytjlclaimpepgiaa
