/-
  net: letters, and what a Net is; the small functions.
-/
import Derived.Test.YtjlclaimpepgiaaBase9
import Derived.Test.YtjlclaimpepgiaaFrP
namespace Go.Proofs.Ytjlclaimpepgiaa
open Go Go.RowKit Go.Cx
set_option linter.unusedVariables false
open Crc
/-- a letter: to whom, which bytes, is it spoilt? -/
structure LS where
  to : Int
  bs : List UInt8
  sp : Bool
def encL (p : LS × Value) : List Value := [.int .u64 p.1.to, p.2, .bool p.1.sp]
theorem encL_len (p : LS × Value) : (encL p).length = 3 := rfl
/-- the bytes of letters lie outside M -/
def Lts (w : World) (M : Nat → Prop) (ps : List (LS × Value)) : Prop := ∀ p ∈ ps, SlA w M 1 p.2 p.1.bs.length (p.1.bs.map u8v) ∧ p.1.bs.length ≤ 140737488355328
def flat (ps : List (LS × Value)) : List Value := ps.flatMap encL
theorem flat_length (ps : List (LS × Value)) : (flat ps).length = ps.length * 3 := flat_len encL_len ps
theorem Lts.kept {w w' : World} {M M' : Nat → Prop} {ps : List (LS × Value)} (h : Lts w M ps) (hk : Kept M' w w') (hM : ∀ b, M' b → b < w.heap.size → M b) : Lts w' M ps := fun p hp => ⟨(h p hp).1.kept hk hM, (h p hp).2⟩
theorem Lts.mono {w : World} {M M' : Nat → Prop} {ps : List (LS × Value)} (h : Lts w M ps) (hM : ∀ b, M' b → b < w.heap.size → M b) : Lts w M' ps := fun p hp => ⟨(h p hp).1.mono hM, (h p hp).2⟩
theorem Lts.sub {w : World} {M : Nat → Prop} {ps qs : List (LS × Value)} (h : Lts w M ps) (hs : ∀ q ∈ qs, q ∈ ps) : Lts w M qs := fun p hp => h p (hs p hp)
theorem Lts.append {w : World} {M : Nat → Prop} {ps qs : List (LS × Value)} (h : Lts w M ps) (k : Lts w M qs) : Lts w M (ps ++ qs) := fun p hp => by
  rcases List.mem_append.1 hp with h1 | h1
  · exact h p h1
  · exact k p h1
theorem encL_one {w : World} {M : Nat → Prop} {ps : List (LS × Value)} (h : Lts w M ps) : ∀ u ∈ flat ps, One u = true := by
  intro u hu
  obtain ⟨p, hp, hu⟩ := List.mem_flatMap.1 hu
  simp only [encL, List.mem_cons, List.mem_nil_iff, or_false] at hu
  rcases hu with rfl | rfl | rfl
  · rfl
  · exact (h p hp).1.one
  · rfl
theorem one_enc {l : LS} {fv : Value} (h : One fv = true) : ∀ u ∈ encL (l, fv), One u = true := by
  intro u hu
  simp only [encL, List.mem_cons, List.mem_nil_iff, or_false] at hu
  rcases hu with rfl | rfl | rfl
  · rfl
  · exact h
  · rfl
/-- A Net: block bn holds a slice over block bl; what may change lies within M. -/
def NetAt (w : World) (M : Nat → Prop) (bn bl : Nat) (ps : List (LS × Value)) : Prop :=
  (∀ b, M b → b < w.heap.size) ∧ ∃ v, Blk w bn 28 [v] ∧ OwnK w bl 36 3 v ps.length (flat ps) ∧ M bn ∧ M bl ∧ Lts w M ps
abbrev NB (bn bl : Nat) : Nat → Prop := fun b => b = bn ∨ b = bl
theorem NetAt.kept {w w' : World} {M M' : Nat → Prop} {bn bl : Nat} {ps : List (LS × Value)} (h : NetAt w M bn bl ps) (hk : Kept M' w w') (hM : ∀ b, M' b → b < w.heap.size → M b) (h1 : ¬ M' bn) (h2 : ¬ M' bl) : NetAt w' M bn bl ps := by
  obtain ⟨hMs, v, hB, ho, hm1, hm2, hl⟩ := h
  exact ⟨fun b hb => Nat.lt_of_lt_of_le (hMs b hb) hk.size, v, hB.kept hk h1, ho.kept hk h2, hm1, hm2, hl.kept hk hM⟩
theorem NetAt.bel {w w' : World} {M : Nat → Prop} {bn bl : Nat} {ps : List (LS × Value)} (h : NetAt w M bn bl ps) (hb : Below w.heap.size w w') : NetAt w' M bn bl ps :=
  h.kept (Kept.of_bel (M := fun _ => False) hb) (fun _ m => m.elim) (fun m => m) (fun m => m)
theorem NetAt.mono {w : World} {M M' : Nat → Prop} {bn bl : Nat} {ps : List (LS × Value)} (h : NetAt w M bn bl ps) (hM : ∀ b, M' b → b < w.heap.size → M b) (hs : ∀ b, M' b → b < w.heap.size) (h1 : M' bn) (h2 : M' bl) : NetAt w M' bn bl ps := by
  obtain ⟨hMs, v, hB, ho, hm1, hm2, hl⟩ := h
  exact ⟨hs, v, hB, ho, h1, h2, hl.mono hM⟩
/-- with more that may change, all of it new -/
theorem NetAt.widen {w w' : World} {M M' : Nat → Prop} {bn bl : Nat} {ps : List (LS × Value)} (h : NetAt w M bn bl ps) (hb : Below w.heap.size w w') (hM : ∀ b, M' b → b < w.heap.size → M b) (hs : ∀ b, M' b → b < w'.heap.size) (h1 : M' bn) (h2 : M' bl) : NetAt w' M' bn bl ps := by
  obtain ⟨hMs, v, hB, ho, hm1, hm2, hl⟩ := h
  exact ⟨hs, v, hB.bel hb, ho.bel hb, h1, h2, (hl.mono hM).kept (Kept.of_bel (M := fun _ => False) hb) (fun _ m => m.elim)⟩
theorem clone_ret (w : World) (bv : Value) (l : List UInt8) (hs : Bs w bv l) (hl : l.length ≤ 140737488355328) :
    Ret Try.prog 48 [bv].toArray w fun v w' => Own w' w.heap.size v l ∧ Below w.heap.size w w' := by
  obtain ⟨a, cap, rfl⟩ := bs_form hs
  cases a with
  | none =>
    have : l = [] := by
      cases l with
      | nil => rfl
      | cons c l => obtain ⟨_, _, a, c', hv, _, _, hc⟩ := hs; obtain ⟨b, o, ha, _⟩ := hc 0 (u8v c) rfl; cases hv; cases ha
    subst this
    refine Ret.of (n := 8) (rs := #[.tmp 2]) Try.func48 rfl rfl rfl (by simp) ?_
    refine WC.seqR rfl ?_
    refine WL.y rfl (Y.assign) ?_
    refine WL.nil ?_
    refine WC.seq ?_
    refine WC.seqR rfl ?_
    refine WL.y rfl (Y.move) ?_
    refine WL.y rfl (Y.eqsn Try.underlying32 rfl rfl) ?_
    refine WL.nil ?_
    refine WC.condT (rfl) ?_
    refine WC.seqR rfl ?_
    refine WL.y rfl (Y.assign) ?_
    refine WL.nil ?_
    refine WC.ret (thenQ.ret (endQ.one (.inr rfl) ?_))
    exact ⟨World.ownsRow_nil _ _ _ _, Below.refl _ _⟩
  | some a =>
    refine Ret.of (n := 8) (rs := #[.tmp 2]) Try.func48 rfl rfl rfl (by simp) ?_
    refine WC.seqR rfl ?_
    refine WL.y rfl (Y.assign) ?_
    refine WL.nil ?_
    refine WC.seq ?_
    refine WC.seqR rfl ?_
    refine WL.y rfl (Y.move) ?_
    refine WL.y rfl (Y.eqsn Try.underlying32 rfl rfl) ?_
    refine WL.nil ?_
    refine WC.condF (rfl) ?_
    refine WC.skip (thenQ.normal ?_)
    refine WC.seqR rfl ?_
    refine WL.eex rfl (E.build0 Try.underlying32 ti5) ?_
    rintro v5 w5 ⟨ho5, hb5⟩
    refine WL.y rfl (Y.move) ?_
    refine WL.eex rfl (E.append Try.underlying32 ti5 rfl (by decide) ho5 (hs.bel hb5) (one_u8 l) (by omega) (by have := hs.2.1; omega) hb5.size) ?_
    rintro v7 w7 ⟨ho7, hb7, -⟩
    refine WL.y rfl (Y.assign) ?_
    refine WL.nil ?_
    refine WC.ret (endQ.one (.inr rfl) ?_)
    rw [Nat.zero_add, List.nil_append] at ho7
    exact ⟨ho7, hb5.trans hb7⟩
theorem rown_ret (bv : Value) (l : List UInt8) (w : World) (hs : Bs w bv l) (hl : l.length ≤ 140737488355328) :
    Ret Try.prog 13 [bv].toArray w fun v w' => Own w' w.heap.size v l ∧ Below w.heap.size w w' := by
  refine Ret.of (n := 5) (rs := #[.tmp 2]) Try.func13 rfl rfl rfl (by simp) ?_
  refine WC.seqR rfl ?_
  refine WL.y rfl (Y.assign) ?_
  refine WL.nil ?_
  refine WC.seqR rfl ?_
  refine WL.y rfl (Y.move) ?_
  refine WL.eex rfl (E.append Try.underlying32 ti5 rfl (by decide) (World.ownsRow_nil w w.heap.size _ 1) hs (one_u8 l) (by omega) (by have := hs.2.1; omega) (Nat.le_refl _)) ?_
  rintro v w1 ⟨ho, hb1, -⟩
  refine WL.y rfl (Y.assign) ?_
  refine WL.nil ?_
  refine WC.ret (endQ.one (.inr rfl) ?_)
  rw [Nat.zero_add, List.nil_append] at ho
  exact ⟨ho, hb1⟩
theorem agg_cellsL (p : LS × Value) : (Value.agg (encL p).toArray).cells.toList = encL p := rfl
theorem told_ret (w : World) (l : LS) (fv : Value) (hs : Bs w fv l.bs) (hl : l.bs.length ≤ 140737488355328) :
    Ret Try.prog 29 [.agg (encL (l, fv)).toArray].toArray w fun v w' => (∃ fv', v = .agg (encL (l, fv')).toArray ∧ Own w' w.heap.size fv' l.bs) ∧ Below w.heap.size w w' := by
  refine Ret.of (n := 8) (rs := #[.cell 2 36]) Try.func29 rfl rfl rfl (by simp) ?_
  refine WC.seqR rfl ?_
  refine WL.eex rfl (E.boxX) ?_
  rintro _ w1 ⟨rfl, hB1, hb1⟩
  have k1 := hb1
  refine WL.eex rfl (E.allocX ti36) ?_
  rintro _ w2 ⟨rfl, hB2, hb2⟩
  have k2 := Below.step k1 hb2
  refine WL.nil ?_
  refine WC.seqR rfl ?_
  refine WL.y rfl (Y.fieldAddr fi36f1 ti32 (by decide) rfl (rfl) _) ?_
  refine WL.y rfl (Y.load1 Try.underlying32 rfl rfl ((show w2.cell? ⟨w.heap.size, 1, none⟩ = some fv from ((hB1.bel hb2).cell 1).trans rfl))) ?_
  refine WL.call rfl (C.func go48) (clone_ret _ fv l.bs (hs.bel k2) hl) ?_
  rintro v5 w5 ⟨ho5, hb5⟩
  have k5 := Below.step k2 hb5
  have hB1' : Blk w5 w.heap.size 36 (encL (l, fv)) := (hB1.bel hb2).bel hb5
  have hlt := hB1.lt
  have hlt2 := hB2.lt
  have hh2 := hb2.size
  have hh5 := hb5.size
  have hB2' : Blk w5 w1.heap.size 36 [.int .u64 0, .slice none 0 0, .bool false] := hB2.bel hb5
  refine WL.y rfl (Y.fieldAddr fi36f1 ti32 (by decide) rfl (rfl) _) ?_
  refine WL.eex rfl (E.storeX (u := v5) ti32 rfl rfl ho5.bs.one hB1' (show 1 < 3 by decide)) ?_
  rintro _ w6 ⟨hB6, hg6, -⟩
  have hO6 : Own w6 w2.heap.size v5 l.bs := own_grown ho5 hg6 (by omega)
  refine WL.nil ?_
  refine WC.seqR rfl ?_
  refine WL.y rfl (Y.loadN Try.underlying36 rfl ti36 rfl (hB6.cells)) ?_
  refine WL.eex rfl (E.storeAll (us := encL (l, v5)) ti36 rfl rfl (one_enc ho5.bs.one) (hB2'.grown hg6 (by omega)) rfl) ?_
  rintro _ w7 ⟨hB7, hg7⟩
  refine WL.nil ?_
  refine WC.ret ?_
  have k7 : Below w.heap.size w w7 := (k5.trans (below_of_grown hg6 k5.size (fun k e => by cases e; omega))).trans (below_of_grown hg7 (Nat.le_trans k5.size hg6.size) (fun k e => by cases e; omega))
  refine endQ.cellN Try.underlying36 rfl ti36 (.inr rfl) rfl hB7.cells ⟨⟨v5, rfl, ?_⟩, k7⟩
  exact ownsRow_mono (own_grown hO6 hg7 (by omega)) k2.size
end Go.Proofs.Ytjlclaimpepgiaa
