/-
  ref20: Note, Who: walks.
-/
import Derived.Test.YtlhhognabmnlmaaTab9
namespace Go.Proofs.Ytlhhognabmnlmaa
open Go Go.RowKit Go.Cx
set_option linter.unusedVariables false
set_option maxHeartbeats 8000000
def RNoteR (w : World) (N : Nat → Prop) (bw : Nat) (L : List Nt) (fl : Int) (n : Nt) (v : Value) (w' : World) : Prop := v = .int .i64 (noteE L n) ∧ RefW w' (fun x => N x ∧ x < w.heap.size) bw (if noteE L n = 0 then L ++ [n] else L) fl ∧ Kept (fun x => x = bw) w w'
theorem RNoteR.err {w w' : World} {N : Nat → Prop} {bw : Nat} {L : List Nt} {fl : Int} {n : Nt} {e : Int} (h : RefW w N bw L fl) (hb : Below w.heap.size w w') (he : noteE L n = e) (h0 : e ≠ 0) : RNoteR w N bw L fl n (.int .i64 e) w' :=
  ⟨by rw [he], by rw [he, if_neg h0]; exact (h.bel hb).mono (fun _ _ h => h.1), Kept.of_bel hb⟩
theorem rnote_err {w : World} {N : Nat → Prop} {b : Nat} {L : List Nt} {fl : Int} {n : Nt} (hc : 0 ≤ n.c) (hv : 0 ≤ n.v) (hi : 0 ≤ n.i) (h : RefW w N b L fl) (hg : Good L) (hL : L.length ≤ 50000) (he : noteE L n ≠ 0) : Ret Try.prog 18 [.pointer (some ⟨b, 0, none⟩), .int .u64 n.c, .int .u64 n.v, .int .u64 n.i].toArray w (RNoteR w N b L fl n) := by
  have hlr := last_rng hg n.c
  simp only [MX] at hlr
  refine Ret.of (n := 51) (rs := #[.tmp 8]) Try.func18 rfl rfl rfl (by simp) ?_
  refine WC.seqR rfl ?_
  refine WL.y rfl (Y.assign) ?_
  refine WL.nil ?_
  refine WC.seq ?_
  by_cases c1 : 0 < n.c ∧ n.c ≤ MX
  · by_cases c2 : 0 < n.v ∧ n.v ≤ MX
    · by_cases c3 : 0 < n.i ∧ n.i ≤ MX
      · by_cases c4 : n.v ≤ newestL L
        · refine WC.seqR rfl ?_
          refine WL.y rfl (Y.move) ?_
          refine WL.call rfl (C.func go33) (rmayT _ _ c1) ?_
          rintro _ _ ⟨rfl, rfl⟩
          refine WL.y rfl (Y.not rfl) ?_
          refine WL.nil ?_
          refine WC.condF (rfl) ?_
          refine WC.skip (thenQ.normal ?_)
          refine WC.seq ?_
          refine WC.seqR rfl ?_
          refine WL.y rfl (Y.move) ?_
          refine WL.call rfl (C.func go33) (rmayT _ _ c2) ?_
          rintro _ _ ⟨rfl, rfl⟩
          refine WL.y rfl (Y.not rfl) ?_
          refine WL.y rfl (Y.move) ?_
          refine WL.y rfl (Y.move) ?_
          refine WL.call rfl (C.func go33) (rmayT _ _ c3) ?_
          rintro _ _ ⟨rfl, rfl⟩
          refine WL.y rfl (Y.not rfl) ?_
          refine WL.y rfl (Y.pickF rfl) ?_
          refine WL.nil ?_
          refine WC.condF (rfl) ?_
          refine WC.skip (thenQ.normal ?_)
          refine WC.seq ?_
          refine WC.seqR rfl ?_
          refine WL.y rfl (Y.move) ?_
          refine WL.y rfl (Y.move) ?_
          refine WL.call rfl (C.func go34) (rnewest_ret h) ?_
          rintro _ w22 ⟨rfl, hb22⟩
          refine WL.y rfl (Y.dT (Y.leq rfl rfl) (by omega)) ?_
          refine WL.y rfl (Y.move) ?_
          refine WL.off rfl ?_
          refine WL.off rfl ?_
          refine WL.off rfl ?_
          refine WL.off rfl ?_
          refine WL.off rfl ?_
          refine WL.y rfl (Y.pickT rfl) ?_
          refine WL.nil ?_
          refine WC.condT (rfl) ?_
          refine WC.seqR rfl ?_
          refine WL.y rfl (Y.assign) ?_
          refine WL.nil ?_
          refine WC.ret (thenQ.ret (endQ.one (.inr rfl) ?_))
          exact RNoteR.err h hb22 (noteE_o c1 c2 c3 (.inl c4)) (by decide)
        · by_cases c5 : n.i ≤ lastL n.c L
          · refine WC.seqR rfl ?_
            refine WL.y rfl (Y.move) ?_
            refine WL.call rfl (C.func go33) (rmayT _ _ c1) ?_
            rintro _ _ ⟨rfl, rfl⟩
            refine WL.y rfl (Y.not rfl) ?_
            refine WL.nil ?_
            refine WC.condF (rfl) ?_
            refine WC.skip (thenQ.normal ?_)
            refine WC.seq ?_
            refine WC.seqR rfl ?_
            refine WL.y rfl (Y.move) ?_
            refine WL.call rfl (C.func go33) (rmayT _ _ c2) ?_
            rintro _ _ ⟨rfl, rfl⟩
            refine WL.y rfl (Y.not rfl) ?_
            refine WL.y rfl (Y.move) ?_
            refine WL.y rfl (Y.move) ?_
            refine WL.call rfl (C.func go33) (rmayT _ _ c3) ?_
            rintro _ _ ⟨rfl, rfl⟩
            refine WL.y rfl (Y.not rfl) ?_
            refine WL.y rfl (Y.pickF rfl) ?_
            refine WL.nil ?_
            refine WC.condF (rfl) ?_
            refine WC.skip (thenQ.normal ?_)
            refine WC.seq ?_
            refine WC.seqR rfl ?_
            refine WL.y rfl (Y.move) ?_
            refine WL.y rfl (Y.move) ?_
            refine WL.call rfl (C.func go34) (rnewest_ret h) ?_
            rintro _ w22 ⟨rfl, hb22⟩
            refine WL.y rfl (Y.dF (Y.leq rfl rfl) (by omega)) ?_
            refine WL.y rfl (Y.move) ?_
            refine WL.y rfl (Y.move) ?_
            refine WL.y rfl (Y.move) ?_
            refine WL.y rfl (Y.move) ?_
            refine WL.call rfl (C.func go35) (rlast_ret n.c (h.bel hb22) hL) ?_
            rintro _ _ ⟨rfl, rfl⟩
            refine WL.y rfl (Y.dT (Y.leq rfl rfl) (by omega)) ?_
            refine WL.y rfl (Y.pickF rfl) ?_
            refine WL.nil ?_
            refine WC.condT (rfl) ?_
            refine WC.seqR rfl ?_
            refine WL.y rfl (Y.assign) ?_
            refine WL.nil ?_
            refine WC.ret (thenQ.ret (endQ.one (.inr rfl) ?_))
            exact RNoteR.err h hb22 (noteE_o c1 c2 c3 (.inr c5)) (by decide)
          · have c6 : lastL n.c L + 1 < n.i := by
              by_cases e : lastL n.c L + 1 < n.i
              · exact e
              · exact absurd (noteE_ok c1 c2 c3 (fun e => e.elim c4 c5) e) he
            refine WC.seqR rfl ?_
            refine WL.y rfl (Y.move) ?_
            refine WL.call rfl (C.func go33) (rmayT _ _ c1) ?_
            rintro _ _ ⟨rfl, rfl⟩
            refine WL.y rfl (Y.not rfl) ?_
            refine WL.nil ?_
            refine WC.condF (rfl) ?_
            refine WC.skip (thenQ.normal ?_)
            refine WC.seq ?_
            refine WC.seqR rfl ?_
            refine WL.y rfl (Y.move) ?_
            refine WL.call rfl (C.func go33) (rmayT _ _ c2) ?_
            rintro _ _ ⟨rfl, rfl⟩
            refine WL.y rfl (Y.not rfl) ?_
            refine WL.y rfl (Y.move) ?_
            refine WL.y rfl (Y.move) ?_
            refine WL.call rfl (C.func go33) (rmayT _ _ c3) ?_
            rintro _ _ ⟨rfl, rfl⟩
            refine WL.y rfl (Y.not rfl) ?_
            refine WL.y rfl (Y.pickF rfl) ?_
            refine WL.nil ?_
            refine WC.condF (rfl) ?_
            refine WC.skip (thenQ.normal ?_)
            refine WC.seq ?_
            refine WC.seqR rfl ?_
            refine WL.y rfl (Y.move) ?_
            refine WL.y rfl (Y.move) ?_
            refine WL.call rfl (C.func go34) (rnewest_ret h) ?_
            rintro _ w22 ⟨rfl, hb22⟩
            refine WL.y rfl (Y.dF (Y.leq rfl rfl) (by omega)) ?_
            refine WL.y rfl (Y.move) ?_
            refine WL.y rfl (Y.move) ?_
            refine WL.y rfl (Y.move) ?_
            refine WL.y rfl (Y.move) ?_
            refine WL.call rfl (C.func go35) (rlast_ret n.c (h.bel hb22) hL) ?_
            rintro _ _ ⟨rfl, rfl⟩
            refine WL.y rfl (Y.dF (Y.leq rfl rfl) (by omega)) ?_
            refine WL.y rfl (Y.pickF rfl) ?_
            refine WL.nil ?_
            refine WC.condF (rfl) ?_
            refine WC.skip (thenQ.normal ?_)
            refine WC.seq ?_
            refine WC.seqR rfl ?_
            refine WL.y rfl (Y.move) ?_
            refine WL.y rfl (Y.move) ?_
            refine WL.y rfl (Y.move) ?_
            refine WL.call rfl (C.func go35) (rlast_ret n.c (h.bel hb22) hL) ?_
            rintro _ _ ⟨rfl, rfl⟩
            refine WL.y rfl (Y.addU64 rfl rfl (by omega)) ?_
            refine WL.y rfl (Y.dT (Y.gtr rfl rfl) (by omega)) ?_
            refine WL.nil ?_
            refine WC.condT (rfl) ?_
            refine WC.seqR rfl ?_
            refine WL.y rfl (Y.assign) ?_
            refine WL.nil ?_
            refine WC.ret (thenQ.ret (endQ.one (.inr rfl) ?_))
            exact RNoteR.err h hb22 (noteE_g c1 c2 c3 (fun e => e.elim c4 c5) c6) (by decide)
      · refine WC.seqR rfl ?_
        refine WL.y rfl (Y.move) ?_
        refine WL.call rfl (C.func go33) (rmayT _ _ c1) ?_
        rintro _ _ ⟨rfl, rfl⟩
        refine WL.y rfl (Y.not rfl) ?_
        refine WL.nil ?_
        refine WC.condF (rfl) ?_
        refine WC.skip (thenQ.normal ?_)
        refine WC.seq ?_
        refine WC.seqR rfl ?_
        refine WL.y rfl (Y.move) ?_
        refine WL.call rfl (C.func go33) (rmayT _ _ c2) ?_
        rintro _ _ ⟨rfl, rfl⟩
        refine WL.y rfl (Y.not rfl) ?_
        refine WL.y rfl (Y.move) ?_
        refine WL.y rfl (Y.move) ?_
        refine WL.call rfl (C.func go33) (rmayF _ _ hi c3) ?_
        rintro _ _ ⟨rfl, rfl⟩
        refine WL.y rfl (Y.not rfl) ?_
        refine WL.y rfl (Y.pickF rfl) ?_
        refine WL.nil ?_
        refine WC.condT (rfl) ?_
        refine WC.seqR rfl ?_
        refine WL.y rfl (Y.assign) ?_
        refine WL.nil ?_
        refine WC.ret (thenQ.ret (endQ.one (.inr rfl) ?_))
        exact RNoteR.err h (Below.refl _ _) (noteE_n c1 (.inr c3)) (by decide)
    · refine WC.seqR rfl ?_
      refine WL.y rfl (Y.move) ?_
      refine WL.call rfl (C.func go33) (rmayT _ _ c1) ?_
      rintro _ _ ⟨rfl, rfl⟩
      refine WL.y rfl (Y.not rfl) ?_
      refine WL.nil ?_
      refine WC.condF (rfl) ?_
      refine WC.skip (thenQ.normal ?_)
      refine WC.seq ?_
      refine WC.seqR rfl ?_
      refine WL.y rfl (Y.move) ?_
      refine WL.call rfl (C.func go33) (rmayF _ _ hv c2) ?_
      rintro _ _ ⟨rfl, rfl⟩
      refine WL.y rfl (Y.not rfl) ?_
      refine WL.y rfl (Y.move) ?_
      refine WL.off rfl ?_
      refine WL.off rfl ?_
      refine WL.off rfl ?_
      refine WL.y rfl (Y.pickT rfl) ?_
      refine WL.nil ?_
      refine WC.condT (rfl) ?_
      refine WC.seqR rfl ?_
      refine WL.y rfl (Y.assign) ?_
      refine WL.nil ?_
      refine WC.ret (thenQ.ret (endQ.one (.inr rfl) ?_))
      exact RNoteR.err h (Below.refl _ _) (noteE_n c1 (.inl c2)) (by decide)
  · skip
    skip
    refine WC.seqR rfl ?_
    refine WL.y rfl (Y.move) ?_
    refine WL.call rfl (C.func go33) (rmayF _ _ hc c1) ?_
    rintro _ _ ⟨rfl, rfl⟩
    refine WL.y rfl (Y.not rfl) ?_
    refine WL.nil ?_
    refine WC.condT (rfl) ?_
    refine WC.seqR rfl ?_
    refine WL.y rfl (Y.assign) ?_
    refine WL.nil ?_
    refine WC.ret (thenQ.ret (endQ.one (.inr rfl) ?_))
    exact RNoteR.err h (Below.refl _ _) (noteE_c c1) (by decide)
theorem rnote_ok {w : World} {N : Nat → Prop} {b : Nat} {L : List Nt} {fl : Int} {n : Nt} (h : RefW w N b L fl) (hg : Good L) (hL : L.length ≤ 50000) (c1 : 0 < n.c ∧ n.c ≤ MX) (c2 : 0 < n.v ∧ n.v ≤ MX) (c3 : 0 < n.i ∧ n.i ≤ MX) (c4 : ¬ n.v ≤ newestL L) (c5 : ¬ n.i ≤ lastL n.c L) (c6 : ¬ lastL n.c L + 1 < n.i) : Ret Try.prog 18 [.pointer (some ⟨b, 0, none⟩), .int .u64 n.c, .int .u64 n.v, .int .u64 n.i].toArray w (RNoteR w N b L fl n) := by
  have hlr := last_rng hg n.c
  simp only [MX] at hlr
  have he := noteE_ok c1 c2 c3 (fun e => e.elim c4 c5) c6
  have hmx : maxLen = 9223372036854775807 := rfl
  have h' := h
  have hqq := h'
  obtain ⟨hN, rv, hB, hA⟩ := hqq
  refine Ret.of (n := 51) (rs := #[.tmp 8]) Try.func18 rfl rfl rfl (by simp) ?_
  refine WC.seqR rfl ?_
  refine WL.y rfl (Y.assign) ?_
  refine WL.nil ?_
  refine WC.seq ?_
  refine WC.seqR rfl ?_
  refine WL.y rfl (Y.move) ?_
  refine WL.call rfl (C.func go33) (rmayT _ _ c1) ?_
  rintro _ _ ⟨rfl, rfl⟩
  refine WL.y rfl (Y.not rfl) ?_
  refine WL.nil ?_
  refine WC.condF (rfl) ?_
  refine WC.skip (thenQ.normal ?_)
  refine WC.seq ?_
  refine WC.seqR rfl ?_
  refine WL.y rfl (Y.move) ?_
  refine WL.call rfl (C.func go33) (rmayT _ _ c2) ?_
  rintro _ _ ⟨rfl, rfl⟩
  refine WL.y rfl (Y.not rfl) ?_
  refine WL.y rfl (Y.move) ?_
  refine WL.y rfl (Y.move) ?_
  refine WL.call rfl (C.func go33) (rmayT _ _ c3) ?_
  rintro _ _ ⟨rfl, rfl⟩
  refine WL.y rfl (Y.not rfl) ?_
  refine WL.y rfl (Y.pickF rfl) ?_
  refine WL.nil ?_
  refine WC.condF (rfl) ?_
  refine WC.skip (thenQ.normal ?_)
  refine WC.seq ?_
  refine WC.seqR rfl ?_
  refine WL.y rfl (Y.move) ?_
  refine WL.y rfl (Y.move) ?_
  refine WL.call rfl (C.func go34) (rnewest_ret h) ?_
  rintro _ w22 ⟨rfl, hb22⟩
  refine WL.y rfl (Y.dF (Y.leq rfl rfl) (by omega)) ?_
  refine WL.y rfl (Y.move) ?_
  refine WL.y rfl (Y.move) ?_
  refine WL.y rfl (Y.move) ?_
  refine WL.y rfl (Y.move) ?_
  refine WL.call rfl (C.func go35) (rlast_ret n.c (h.bel hb22) hL) ?_
  rintro _ _ ⟨rfl, rfl⟩
  refine WL.y rfl (Y.dF (Y.leq rfl rfl) (by omega)) ?_
  refine WL.y rfl (Y.pickF rfl) ?_
  refine WL.nil ?_
  refine WC.condF (rfl) ?_
  refine WC.skip (thenQ.normal ?_)
  refine WC.seq ?_
  refine WC.seqR rfl ?_
  refine WL.y rfl (Y.move) ?_
  refine WL.y rfl (Y.move) ?_
  refine WL.y rfl (Y.move) ?_
  refine WL.call rfl (C.func go35) (rlast_ret n.c (h.bel hb22) hL) ?_
  rintro _ _ ⟨rfl, rfl⟩
  refine WL.y rfl (Y.addU64 rfl rfl (by omega)) ?_
  refine WL.y rfl (Y.dF (Y.gtr rfl rfl) (by omega)) ?_
  refine WL.nil ?_
  refine WC.condF (rfl) ?_
  refine WC.skip (thenQ.normal ?_)
  refine WC.seqR rfl ?_
  refine WL.y rfl (Y.move) ?_
  refine WL.y rfl (Y.move) ?_
  refine WL.y rfl (Y.nilCheck rfl) ?_
  refine WL.y rfl (Y.fieldAddr fi47f0 ti45 (by decide) rfl (rfl) _) ?_
  refine WL.y rfl (Y.load1 Try.underlying45 rfl rfl ((hB.bel hb22).cell 0)) ?_
  refine WL.eex rfl (E.append Try.underlying45 ti43 rfl (by decide) (World.ownsRow_nil _ _ _ _) (hA.sl.bel hb22) (nt3_ones L) (by omega) (by omega) (Nat.le_refl _)) ?_
  rintro v42 w42 ⟨ho42, hb42, -⟩
  refine WL.y rfl (Y.move) ?_
  refine WL.y rfl (Y.move) ?_
  refine WL.y rfl (Y.move) ?_
  refine WL.y rfl (Y.build (cells := #[.int .u64 n.c, .int .u64 n.v, .int .u64 n.i]) (by kernel_rfl) _) ?_
  refine WL.eex rfl (E.buildSliceX (len := 1) (cs := nt3 n) Try.underlying45 ti43 (by omega) (by omega) (by kernel_rfl) rfl) ?_
  rintro _ w47 ⟨rfl, ho47, hb47, -⟩
  refine WL.eex rfl (E.append Try.underlying45 ti43 rfl (by decide) (ownsRow_bel ho42 hb47) (ownsRow_sl ho47) (nt3_ones [n]) (by omega) (by omega) (Nat.le_trans hb42.size hb47.size)) ?_
  rintro v48 w48 ⟨ho48, hb48, hg48⟩
  have s22 := hb22.size
  have s42 := hb42.size
  have s47 := hb47.size
  have s48 := hg48.size
  have k48 : Below w22.heap.size w22 w48 := (Below.step hb42 hb47).trans hb48
  have hB48 := hB.bel (Below.step hb22 k48)
  refine WL.y rfl (Y.nilCheck rfl) ?_
  refine WL.y rfl (Y.fieldAddr fi47f0 ti45 (by decide) rfl (rfl) _) ?_
  refine WL.eex rfl (E.storeX (u := v48) ti45 rfl rfl (ownsRow_sl ho48).one hB48 (by simp)) ?_
  rintro _ w9 ⟨hB9, hg9, -⟩
  refine WL.nil ?_
  refine WC.seqR rfl ?_
  refine WL.y rfl (Y.assign) ?_
  refine WL.nil ?_
  refine WC.ret (endQ.one (.inr rfl) ?_)
  have hfin : RNoteR w N b L fl n (.int .i64 0) w9 := by
    have s9 := hg9.size
    refine ⟨by rw [he], ?_, (Kept.of_bel (Below.step hb22 k48)).trans (Kept.of_grown hg9 rfl)⟩
    rw [if_pos he]
    have hqq := OwnK.of_own ho48
    obtain ⟨bl, hbl, hO⟩ := hqq
    have hlb := hB.lt
    refine ⟨fun h => hN h.1, v48, hB9, ?_⟩
    have e1 : (L ++ [n]).flatMap nt3 = [] ++ L.flatMap nt3 ++ nt3 n := by simp
    have e2 : (L ++ [n]).length = 0 + L.length + 1 := by simp
    rw [e1, e2]
    have hO9 : OwnK w9 bl 43 3 v48 (0 + L.length + 1) ([] ++ L.flatMap nt3 ++ nt3 n) := by
      have hd := hO.other hB48 (by decide)
      exact hO.keptR hg9 (.inr hd)
    exact hO9.sla (fun h => h.elim (fun h => by omega) (fun h => by omega))
  exact hfin
theorem rnote_ret {w : World} {N : Nat → Prop} {b : Nat} {L : List Nt} {fl : Int} {n : Nt} (hc : 0 ≤ n.c) (hv : 0 ≤ n.v) (hi : 0 ≤ n.i) (h : RefW w N b L fl) (hg : Good L) (hL : L.length ≤ 50000) : Ret Try.prog 18 [.pointer (some ⟨b, 0, none⟩), .int .u64 n.c, .int .u64 n.v, .int .u64 n.i].toArray w (RNoteR w N b L fl n) := by
  by_cases he : noteE L n = 0
  · have he' := he
    unfold noteE at he'
    split at he'
    · omega
    · rename_i h1
      split at he'
      · omega
      · rename_i h2
        split at he'
        · omega
        · rename_i h3
          split at he'
          · omega
          · rename_i h4
            exact rnote_ok h hg hL (by omega) (by omega) (by omega) (by omega) (by omega) h4
  · exact rnote_err hc hv hi h hg hL he
/-- what the document tells of whose a version is -/
def rwhoV (o : Option Nt) : Value := match o with
  | none => .tuple #[.agg #[.int .u64 0, .int .u64 0, .int .u64 0], .bool false]
  | some n => .tuple #[.agg #[.int .u64 n.c, .int .u64 n.v, .int .u64 n.i], .bool true]
theorem whoL_take {fl v : Int} {L : List Nt} {j : Nat} (h : j < L.length) (h0 : whoL fl v (L.take j) = none) : whoL fl v (L.take (j + 1)) = if L[j].v = v ∧ fl ≤ v then some L[j] else none := by
  unfold whoL at *
  rw [List.take_succ_eq_append_getElem h, List.find?_append, h0]
  simp [List.find?_cons]
  split <;> simp_all
theorem whoL_of_take {fl v : Int} {L : List Nt} {j : Nat} {n : Nt} (h : whoL fl v (L.take j) = some n) : whoL fl v L = some n := by
  unfold whoL at *
  rw [← List.take_append_drop j L, List.find?_append, h]
  rfl
theorem rwho_ret {w : World} {N : Nat → Prop} {bw : Nat} {L : List Nt} {fl : Int} (v : Int) (h : RefW w N bw L fl) (hL : L.length ≤ 50000) : Ret Try.prog 37 [.pointer (some ⟨bw, 0, none⟩), .int .u64 v].toArray w fun r w' => r = rwhoV (whoL fl v L) ∧ Below w.heap.size w w' := by
  obtain ⟨hN, rv, hB, hA⟩ := h
  have hs := hA.sl
  refine Ret.of (n := 42) (rs := #[.cell 4 43, .tmp 5]) Try.func37 rfl rfl rfl (by simp) ?_
  refine WC.seqR rfl ?_
  refine WL.eex rfl (E.allocX ti43) ?_
  rintro _ w4 ⟨rfl, hB4, hb4⟩
  refine WL.y rfl (Y.assign) ?_
  refine WL.nil ?_
  refine WC.seq ?_
  have hC := (show Blk w4 w.heap.size 43 [.int .u64 0, .int .u64 0, .int .u64 0] from hB4)
  have hB' := hB.bel hb4
  have hs' := hs.bel hb4
  clear hB4
  refine WC.seqR rfl ?_
  refine WL.y rfl (Y.assign) ?_
  refine WL.nil ?_
  refine WC.block ?_
  refine WC.loop (fun j => L.length - j) (fun j f ds w' => j ≤ L.length ∧ ds = [] ∧ w4 = w' ∧ whoL fl v (L.take j) = none ∧ ∃ J, f = Go.Cx.ov J [(0, .pointer (some ⟨bw, 0, none⟩)), (1, .int .u64 v), (4, .pointer (some ⟨w.heap.size, 0, none⟩)), (6, .int .i64 (j : Int))]) 0 ?_ ?_
  · exact ⟨Nat.zero_le _, rfl, rfl, rfl, _, ov_mk ⟨rfl, rfl, rfl, rfl, trivial⟩⟩
  · rintro j _ _ _ ⟨hj, rfl, rfl, h0, J, rfl⟩
    refine WC.seq ?_
    refine WC.seqR rfl ?_
    refine WL.y rfl (Y.move) ?_
    refine WL.y rfl (Y.move) ?_
    refine WL.y rfl (Y.nilCheck rfl) ?_
    refine WL.y rfl (Y.fieldAddr fi47f0 ti45 (by decide) rfl (rfl) _) ?_
    refine WL.y rfl (Y.load1 Try.underlying45 rfl rfl (hB'.cell 0)) ?_
    refine WL.y rfl (Y.lenSl Try.underlying45 (hs') _) ?_
    refine WL.y rfl (Y.lss rfl rfl) ?_
    refine WL.nil ?_
    refine WC.condD rfl (fun h1 => ?_) (fun h1 => ?_)
    · have hjl : j < L.length := by omega
      have hst := whoL_take hjl h0
      refine WC.skip (thenQ.normal ?_)
      refine WC.seq ?_
      refine WC.block ?_
      by_cases c1 : L[j].v = v
      · by_cases c2 : fl ≤ v
        · rw [if_pos ⟨c1, c2⟩] at hst
          rw [whoL_of_take hst]
          refine WC.seqR rfl ?_
          refine WL.y rfl (Y.move) ?_
          refine WL.y rfl (Y.nilCheck rfl) ?_
          refine WL.y rfl (Y.fieldAddr fi47f0 ti45 (by decide) rfl (rfl) _) ?_
          refine WL.y rfl (Y.load1 Try.underlying45 rfl rfl (hB'.cell 0)) ?_
          refine WL.y rfl (Y.move) ?_
          refine WL.yex rfl (Y.idx Try.underlying45 ti43 (by decide) (hs') rfl (by omega) (by omega)) ?_
          rintro _ ⟨b21, o21, rfl, hc21⟩
          refine WL.y rfl (Y.fieldAddr fi43f1 ti22 (by decide) rfl (rfl) _) ?_
          refine WL.y rfl (Y.load1 Try.underlying22 rfl rfl (cells_2 (elem_nt hjl hc21))) ?_
          refine WL.y rfl (Y.move) ?_
          refine WL.y rfl (Y.dT (Y.eqi rfl rfl) (by omega)) ?_
          refine WL.y rfl (Y.move) ?_
          refine WL.y rfl (Y.move) ?_
          refine WL.y rfl (Y.move) ?_
          refine WL.y rfl (Y.nilCheck rfl) ?_
          refine WL.y rfl (Y.fieldAddr fi47f1 ti22 (by decide) rfl (rfl) _) ?_
          refine WL.y rfl (Y.load1 Try.underlying22 rfl rfl (hB'.cell 1)) ?_
          refine WL.y rfl (Y.dT (Y.geq rfl rfl) (by omega)) ?_
          refine WL.y rfl (Y.pickT rfl) ?_
          refine WL.nil ?_
          refine WC.condT (rfl) ?_
          refine WC.seqR rfl ?_
          refine WL.y rfl (Y.move) ?_
          refine WL.y rfl (Y.nilCheck rfl) ?_
          refine WL.y rfl (Y.fieldAddr fi47f0 ti45 (by decide) rfl (rfl) _) ?_
          refine WL.y rfl (Y.load1 Try.underlying45 rfl rfl (hB'.cell 0)) ?_
          refine WL.y rfl (Y.move) ?_
          refine WL.yex rfl (Y.idx Try.underlying45 ti43 (by decide) (hs') rfl (by omega) (by omega)) ?_
          rintro _ ⟨b39, o39, rfl, hc39⟩
          refine WL.y rfl (Y.loadK Try.underlying43 rfl ti43 (rfl) rfl (elem_nt hjl hc39)) ?_
          refine WL.eex rfl (E.storeAllK (us := nt3 L[j]) ti43 rfl rfl rfl (nt3_ones1 _) hC rfl) ?_
          rintro _ w5 ⟨hC5, hg5⟩
          refine WL.y rfl (Y.assign) ?_
          refine WL.nil ?_
          refine WC.ret (inBlockQ.ret (thenQ.ret (thenQ.ret (inBlockQ.ret (thenQ.ret ?_)))))
          exact endQ.cell2 Try.underlying43 rfl ti43 (.inr rfl) rfl hC5.cells ⟨rfl, Below.stepG hb4 hg5 (Nat.le_refl _)⟩
        · rw [if_neg (fun h => c2 h.2)] at hst
          refine WC.seqR rfl ?_
          refine WL.y rfl (Y.move) ?_
          refine WL.y rfl (Y.nilCheck rfl) ?_
          refine WL.y rfl (Y.fieldAddr fi47f0 ti45 (by decide) rfl (rfl) _) ?_
          refine WL.y rfl (Y.load1 Try.underlying45 rfl rfl (hB'.cell 0)) ?_
          refine WL.y rfl (Y.move) ?_
          refine WL.yex rfl (Y.idx Try.underlying45 ti43 (by decide) (hs') rfl (by omega) (by omega)) ?_
          rintro _ ⟨b21, o21, rfl, hc21⟩
          refine WL.y rfl (Y.fieldAddr fi43f1 ti22 (by decide) rfl (rfl) _) ?_
          refine WL.y rfl (Y.load1 Try.underlying22 rfl rfl (cells_2 (elem_nt hjl hc21))) ?_
          refine WL.y rfl (Y.move) ?_
          refine WL.y rfl (Y.dT (Y.eqi rfl rfl) (by omega)) ?_
          refine WL.y rfl (Y.move) ?_
          refine WL.y rfl (Y.move) ?_
          refine WL.y rfl (Y.move) ?_
          refine WL.y rfl (Y.nilCheck rfl) ?_
          refine WL.y rfl (Y.fieldAddr fi47f1 ti22 (by decide) rfl (rfl) _) ?_
          refine WL.y rfl (Y.load1 Try.underlying22 rfl rfl (hB'.cell 1)) ?_
          refine WL.y rfl (Y.dF (Y.geq rfl rfl) (by omega)) ?_
          refine WL.y rfl (Y.pickT rfl) ?_
          refine WL.nil ?_
          refine WC.condF (rfl) ?_
          refine WC.skip (inBlockQ.normal (thenQ.normal ?_))
          refine WC.region rfl ?_
          refine WL.y rfl (Y.move) ?_
          refine WL.y rfl (Y.add64 rfl rfl (by omega)) ?_
          refine WL.y rfl (Y.assign) ?_
          refine WL.nil (thenQ.normal ?_)
          exact ⟨j + 1, by omega, by omega, rfl, rfl, hst, _, ov_mk ⟨rfl, rfl, rfl, rfl, trivial⟩⟩
      · rw [if_neg (fun h => c1 h.1)] at hst
        skip
        refine WC.seqR rfl ?_
        refine WL.y rfl (Y.move) ?_
        refine WL.y rfl (Y.nilCheck rfl) ?_
        refine WL.y rfl (Y.fieldAddr fi47f0 ti45 (by decide) rfl (rfl) _) ?_
        refine WL.y rfl (Y.load1 Try.underlying45 rfl rfl (hB'.cell 0)) ?_
        refine WL.y rfl (Y.move) ?_
        refine WL.yex rfl (Y.idx Try.underlying45 ti43 (by decide) (hs') rfl (by omega) (by omega)) ?_
        rintro _ ⟨b21, o21, rfl, hc21⟩
        refine WL.y rfl (Y.fieldAddr fi43f1 ti22 (by decide) rfl (rfl) _) ?_
        refine WL.y rfl (Y.load1 Try.underlying22 rfl rfl (cells_2 (elem_nt hjl hc21))) ?_
        refine WL.y rfl (Y.move) ?_
        refine WL.y rfl (Y.dF (Y.eqi rfl rfl) (by omega)) ?_
        refine WL.y rfl (Y.move) ?_
        refine WL.off rfl ?_
        refine WL.off rfl ?_
        refine WL.off rfl ?_
        refine WL.off rfl ?_
        refine WL.off rfl ?_
        refine WL.off rfl ?_
        refine WL.y rfl (Y.pickF rfl) ?_
        refine WL.nil ?_
        refine WC.condF (rfl) ?_
        refine WC.skip (inBlockQ.normal (thenQ.normal ?_))
        refine WC.region rfl ?_
        refine WL.y rfl (Y.move) ?_
        refine WL.y rfl (Y.add64 rfl rfl (by omega)) ?_
        refine WL.y rfl (Y.assign) ?_
        refine WL.nil (thenQ.normal ?_)
        exact ⟨j + 1, by omega, by omega, rfl, rfl, hst, _, ov_mk ⟨rfl, rfl, rfl, rfl, trivial⟩⟩
    · have hje : j = L.length := by omega
      rw [hje, List.take_length] at h0
      rw [h0]
      refine WC.exit (thenQ.exit (thenQ.exit (inBlockQ.hit (thenQ.normal ?_))))
      refine WC.seqR rfl ?_
      refine WL.y rfl (Y.build (cells := #[.int .u64 0, .int .u64 0, .int .u64 0]) (by kernel_rfl) _) ?_
      refine WL.eex rfl (E.storeAllK (us := [.int .u64 0, .int .u64 0, .int .u64 0]) ti43 rfl rfl rfl (by intro u hu; simp at hu; rw [hu]; rfl) hC rfl) ?_
      rintro _ w6 ⟨hC6, hg6⟩
      refine WL.y rfl (Y.assign) ?_
      refine WL.nil ?_
      refine WC.ret ?_
      exact endQ.cell2 Try.underlying43 rfl ti43 (.inr rfl) rfl hC6.cells ⟨rfl, Below.stepG hb4 hg6 (Nat.le_refl _)⟩
end Go.Proofs.Ytlhhognabmnlmaa
