/-
  The document's net: Spoil.
-/
import Derived.Test.YtjlclaimpepgiaaNet6
namespace Go.Proofs.Ytjlclaimpepgiaa
open Go Go.RowKit Go.Cx
set_option linter.unusedVariables false
open Crc
theorem spoil_cases (l : List UInt8) (at' : Int) (m : UInt8) : (¬ (0 ≤ at' ∧ at' < l.length) ∧ spoilOf l at' m = ([], 17)) ∨ ((0 ≤ at' ∧ at' < l.length) ∧ m = 0 ∧ spoilOf l at' m = ([], 2)) ∨ (∃ j : Nat, at' = (j : Int) ∧ j < l.length ∧ m ≠ 0 ∧ spoilOf l at' m = (spo l j m, 0)) := by
  by_cases h : 0 ≤ at' ∧ at' < l.length
  · by_cases hm : m = 0
    · subst hm; exact .inr (.inl ⟨h, rfl, spoilOf_zero h⟩)
    · obtain ⟨j, rfl⟩ : ∃ j : Nat, at' = (j : Int) := ⟨at'.toNat, (Int.toNat_of_nonneg h.1).symm⟩
      exact .inr (.inr ⟨j, rfl, by omega, hm, spoilOf_in m (by omega) hm⟩)
  · exact .inl ⟨h, spoilOf_out m h⟩
theorem rspoil_out (w : World) (M : Nat → Prop) (bw : Nat) (ps : List (LS × Value)) (h : RefAt w M bw ps) (i : Int) (hi : ¬ (0 ≤ i ∧ i < ps.length)) (at' : Int) (m : UInt8) : Ret Try.prog 19 [.pointer (some ⟨bw, 0, none⟩), .int .i64 i, .int .i64 at', u8v m].toArray w fun v w' => v = .int .i64 17 ∧ w = w' := by
  refine Ret.of (n := 79) (rs := #[.tmp 8]) Try.func19 rfl rfl rfl (by simp) ?_
  refine WC.seqR rfl ?_
  refine WL.y rfl (Y.assign) ?_
  refine WL.nil ?_
  refine WC.seq ?_
  refine WC.seqR rfl ?_
  refine WL.y rfl (Y.move) ?_
  refine WL.y rfl (Y.move) ?_
  refine WL.call rfl (C.func go37) (is_no _ M bw ps h i hi) ?_
  rintro _ _ ⟨rfl, rfl⟩
  refine WL.y rfl (Y.not rfl) ?_
  refine WL.y rfl (Y.move) ?_
  refine WL.off rfl ?_
  refine WL.off rfl ?_
  refine WL.y rfl (Y.pickT rfl) ?_
  refine WL.y rfl (Y.move) ?_
  refine WL.off rfl ?_
  refine WL.off rfl ?_
  refine WL.off rfl ?_
  refine WL.off rfl ?_
  refine WL.off rfl ?_
  refine WL.off rfl ?_
  refine WL.off rfl ?_
  refine WL.off rfl ?_
  refine WL.off rfl ?_
  refine WL.off rfl ?_
  refine WL.off rfl ?_
  refine WL.y rfl (Y.pickT rfl) ?_
  refine WL.nil ?_
  refine WC.condT (rfl) ?_
  refine WC.seqR rfl ?_
  refine WL.y rfl (Y.assign) ?_
  refine WL.nil ?_
  refine WC.ret (thenQ.ret (endQ.one (.inr rfl) ?_))
  exact ⟨rfl, rfl⟩
theorem rspoil_err {c : Int} {xs : List UInt8} (hc : c ≠ 0) (w : World) (M : Nat → Prop) (bw : Nat) (ps : List (LS × Value)) (h : RefAt w M bw ps) (i : Nat) (hi : i < ps.length) (at' : Int) (m : UInt8) (hsp : spoilOf ps[i].1.bs at' m = (xs, c)) : Ret Try.prog 19 [.pointer (some ⟨bw, 0, none⟩), .int .i64 (i : Int), .int .i64 at', u8v m].toArray w fun v w' => v = .int .i64 c ∧ w = w' := by
  have h' := h
  have hqq := h'
  obtain ⟨hMs, u, hB, hm1, hsu, hl0⟩ := hqq
  have hlp := hl0 ps[i] (List.getElem_mem hi)
  have hgd : ps.getD i zeroL = ps[i] := by simp [hi]
  rcases spoil_cases ps[i].1.bs at' m with ⟨h1, h2⟩ | ⟨h1, hm, h2⟩ | ⟨j, h0, h1, hm, h2⟩
  · rw [hsp] at h2
    obtain rfl : c = 17 := congrArg Prod.snd h2
    by_cases h0 : at' < 0
    · refine Ret.of (n := 79) (rs := #[.tmp 8]) Try.func19 rfl rfl rfl (by simp) ?_
      refine WC.seqR rfl ?_
      refine WL.y rfl (Y.assign) ?_
      refine WL.nil ?_
      refine WC.seq ?_
      refine WC.seqR rfl ?_
      refine WL.y rfl (Y.move) ?_
      refine WL.y rfl (Y.move) ?_
      refine WL.call rfl (C.func go37) (is_yes _ M bw ps h (i : Int) ⟨by omega, by omega⟩) ?_
      rintro _ _ ⟨rfl, rfl⟩
      refine WL.y rfl (Y.not rfl) ?_
      refine WL.y rfl (Y.move) ?_
      refine WL.y rfl (Y.move) ?_
      refine WL.y rfl (Y.dT (Y.lss rfl rfl) (by omega)) ?_
      refine WL.y rfl (Y.pickF rfl) ?_
      refine WL.y rfl (Y.move) ?_
      refine WL.off rfl ?_
      refine WL.off rfl ?_
      refine WL.off rfl ?_
      refine WL.off rfl ?_
      refine WL.off rfl ?_
      refine WL.off rfl ?_
      refine WL.off rfl ?_
      refine WL.off rfl ?_
      refine WL.off rfl ?_
      refine WL.off rfl ?_
      refine WL.off rfl ?_
      refine WL.y rfl (Y.pickT rfl) ?_
      refine WL.nil ?_
      refine WC.condT (rfl) ?_
      refine WC.seqR rfl ?_
      refine WL.y rfl (Y.assign) ?_
      refine WL.nil ?_
      refine WC.ret (thenQ.ret (endQ.one (.inr rfl) ?_))
      exact ⟨rfl, rfl⟩
    · refine Ret.of (n := 79) (rs := #[.tmp 8]) Try.func19 rfl rfl rfl (by simp) ?_
      refine WC.seqR rfl ?_
      refine WL.y rfl (Y.assign) ?_
      refine WL.nil ?_
      refine WC.seq ?_
      refine WC.seqR rfl ?_
      refine WL.y rfl (Y.move) ?_
      refine WL.y rfl (Y.move) ?_
      refine WL.call rfl (C.func go37) (is_yes _ M bw ps h (i : Int) ⟨by omega, by omega⟩) ?_
      rintro _ _ ⟨rfl, rfl⟩
      refine WL.y rfl (Y.not rfl) ?_
      refine WL.y rfl (Y.move) ?_
      refine WL.y rfl (Y.move) ?_
      refine WL.y rfl (Y.dF (Y.lss rfl rfl) (by omega)) ?_
      refine WL.y rfl (Y.pickF rfl) ?_
      refine WL.y rfl (Y.move) ?_
      refine WL.y rfl (Y.move) ?_
      refine WL.y rfl (Y.move) ?_
      refine WL.y rfl (Y.nilCheck rfl) ?_
      refine WL.y rfl (Y.fieldAddr fi46f0 ti26 (by decide) rfl (rfl) _) ?_
      refine WL.y rfl (Y.load1 Try.underlying26 rfl rfl (hB.one)) ?_
      refine WL.y rfl (Y.move) ?_
      refine WL.yex rfl (Y.idxF (enc := encL) zeroL encL_len (by decide) Try.underlying26 ti36 hsu.sl rfl (by omega) (by omega)) ?_
      rintro _ ⟨b26, o26, rfl, hc26⟩
      simp only [Int.toNat_natCast, hgd] at hc26
      refine WL.y rfl (Y.fieldAddr fi36f1 ti32 (by decide) rfl (rfl) _) ?_
      refine WL.y rfl (Y.load1 Try.underlying32 rfl rfl (hc26 1 ps[i].2 rfl)) ?_
      refine WL.y rfl (Y.lenSl Try.underlying32 (hlp.1.sl) _) ?_
      refine WL.y rfl (Y.dT (Y.geq rfl rfl) (by omega)) ?_
      refine WL.y rfl (Y.pickF rfl) ?_
      refine WL.nil ?_
      refine WC.condT (rfl) ?_
      refine WC.seqR rfl ?_
      refine WL.y rfl (Y.assign) ?_
      refine WL.nil ?_
      refine WC.ret (thenQ.ret (endQ.one (.inr rfl) ?_))
      exact ⟨rfl, rfl⟩
  · rw [hsp] at h2
    obtain rfl : c = 2 := congrArg Prod.snd h2
    subst hm
    refine Ret.of (n := 79) (rs := #[.tmp 8]) Try.func19 rfl rfl rfl (by simp) ?_
    refine WC.seqR rfl ?_
    refine WL.y rfl (Y.assign) ?_
    refine WL.nil ?_
    refine WC.seq ?_
    refine WC.seqR rfl ?_
    refine WL.y rfl (Y.move) ?_
    refine WL.y rfl (Y.move) ?_
    refine WL.call rfl (C.func go37) (is_yes _ M bw ps h (i : Int) ⟨by omega, by omega⟩) ?_
    rintro _ _ ⟨rfl, rfl⟩
    refine WL.y rfl (Y.not rfl) ?_
    refine WL.y rfl (Y.move) ?_
    refine WL.y rfl (Y.move) ?_
    refine WL.y rfl (Y.dF (Y.lss rfl rfl) (by omega)) ?_
    refine WL.y rfl (Y.pickF rfl) ?_
    refine WL.y rfl (Y.move) ?_
    refine WL.y rfl (Y.move) ?_
    refine WL.y rfl (Y.move) ?_
    refine WL.y rfl (Y.nilCheck rfl) ?_
    refine WL.y rfl (Y.fieldAddr fi46f0 ti26 (by decide) rfl (rfl) _) ?_
    refine WL.y rfl (Y.load1 Try.underlying26 rfl rfl (hB.one)) ?_
    refine WL.y rfl (Y.move) ?_
    refine WL.yex rfl (Y.idxF (enc := encL) zeroL encL_len (by decide) Try.underlying26 ti36 hsu.sl rfl (by omega) (by omega)) ?_
    rintro _ ⟨b26, o26, rfl, hc26⟩
    simp only [Int.toNat_natCast, hgd] at hc26
    refine WL.y rfl (Y.fieldAddr fi36f1 ti32 (by decide) rfl (rfl) _) ?_
    refine WL.y rfl (Y.load1 Try.underlying32 rfl rfl (hc26 1 ps[i].2 rfl)) ?_
    refine WL.y rfl (Y.lenSl Try.underlying32 (hlp.1.sl) _) ?_
    refine WL.y rfl (Y.dF (Y.geq rfl rfl) (by omega)) ?_
    refine WL.y rfl (Y.pickF rfl) ?_
    refine WL.nil ?_
    refine WC.condF (rfl) ?_
    refine WC.skip (thenQ.normal ?_)
    refine WC.seq ?_
    refine WC.seqR rfl ?_
    refine WL.y rfl (Y.move) ?_
    refine WL.y rfl (Y.dT (Y.eqi rfl rfl) (by simp)) ?_
    refine WL.nil ?_
    refine WC.condT (rfl) ?_
    refine WC.seqR rfl ?_
    refine WL.y rfl (Y.assign) ?_
    refine WL.nil ?_
    refine WC.ret (thenQ.ret (endQ.one (.inr rfl) ?_))
    exact ⟨rfl, rfl⟩
  · rw [hsp] at h2
    exact absurd (congrArg Prod.snd h2) hc
theorem rspoil_spoilt {xs : List UInt8} (w : World) (M : Nat → Prop) (bw : Nat) (ps : List (LS × Value)) (h : RefAt w M bw ps) (i : Nat) (hi : i < ps.length) (hp : ps[i].1.sp = true) (at' : Int) (m : UInt8) (hsp : spoilOf ps[i].1.bs at' m = (xs, 0)) : Ret Try.prog 19 [.pointer (some ⟨bw, 0, none⟩), .int .i64 (i : Int), .int .i64 at', u8v m].toArray w fun v w' => v = .int .i64 13 ∧ w = w' := by
  have h' := h
  have hqq := h'
  obtain ⟨hMs, u, hB, hm1, hsu, hl0⟩ := hqq
  have hlp := hl0 ps[i] (List.getElem_mem hi)
  have hgd : ps.getD i zeroL = ps[i] := by simp [hi]
  rcases spoil_cases ps[i].1.bs at' m with ⟨h1, h2⟩ | ⟨h1, hm, h2⟩ | ⟨j, rfl, h1, hm, h2⟩
  · rw [hsp] at h2; cases congrArg Prod.snd h2
  · rw [hsp] at h2; cases congrArg Prod.snd h2
  · have hm' := u8_ne hm
    refine Ret.of (n := 79) (rs := #[.tmp 8]) Try.func19 rfl rfl rfl (by simp) ?_
    refine WC.seqR rfl ?_
    refine WL.y rfl (Y.assign) ?_
    refine WL.nil ?_
    refine WC.seq ?_
    refine WC.seqR rfl ?_
    refine WL.y rfl (Y.move) ?_
    refine WL.y rfl (Y.move) ?_
    refine WL.call rfl (C.func go37) (is_yes _ M bw ps h (i : Int) ⟨by omega, by omega⟩) ?_
    rintro _ _ ⟨rfl, rfl⟩
    refine WL.y rfl (Y.not rfl) ?_
    refine WL.y rfl (Y.move) ?_
    refine WL.y rfl (Y.move) ?_
    refine WL.y rfl (Y.dF (Y.lss rfl rfl) (by omega)) ?_
    refine WL.y rfl (Y.pickF rfl) ?_
    refine WL.y rfl (Y.move) ?_
    refine WL.y rfl (Y.move) ?_
    refine WL.y rfl (Y.move) ?_
    refine WL.y rfl (Y.nilCheck rfl) ?_
    refine WL.y rfl (Y.fieldAddr fi46f0 ti26 (by decide) rfl (rfl) _) ?_
    refine WL.y rfl (Y.load1 Try.underlying26 rfl rfl (hB.one)) ?_
    refine WL.y rfl (Y.move) ?_
    refine WL.yex rfl (Y.idxF (enc := encL) zeroL encL_len (by decide) Try.underlying26 ti36 hsu.sl rfl (by omega) (by omega)) ?_
    rintro _ ⟨b26, o26, rfl, hc26⟩
    simp only [Int.toNat_natCast, hgd] at hc26
    refine WL.y rfl (Y.fieldAddr fi36f1 ti32 (by decide) rfl (rfl) _) ?_
    refine WL.y rfl (Y.load1 Try.underlying32 rfl rfl (hc26 1 ps[i].2 rfl)) ?_
    refine WL.y rfl (Y.lenSl Try.underlying32 (hlp.1.sl) _) ?_
    refine WL.y rfl (Y.dF (Y.geq rfl rfl) (by omega)) ?_
    refine WL.y rfl (Y.pickF rfl) ?_
    refine WL.nil ?_
    refine WC.condF (rfl) ?_
    refine WC.skip (thenQ.normal ?_)
    refine WC.seq ?_
    refine WC.seqR rfl ?_
    refine WL.y rfl (Y.move) ?_
    refine WL.y rfl (Y.dF (Y.eqi rfl rfl) (by omega)) ?_
    refine WL.nil ?_
    refine WC.condF (rfl) ?_
    refine WC.skip (thenQ.normal ?_)
    refine WC.seq ?_
    refine WC.seqR rfl ?_
    refine WL.y rfl (Y.move) ?_
    refine WL.y rfl (Y.nilCheck rfl) ?_
    refine WL.y rfl (Y.fieldAddr fi46f0 ti26 (by decide) rfl (rfl) _) ?_
    refine WL.y rfl (Y.load1 Try.underlying26 rfl rfl (hB.one)) ?_
    refine WL.y rfl (Y.move) ?_
    refine WL.yex rfl (Y.idxF (enc := encL) zeroL encL_len (by decide) Try.underlying26 ti36 hsu.sl rfl (by omega) (by omega)) ?_
    rintro _ ⟨b39, o39, rfl, hc39⟩
    simp only [Int.toNat_natCast, hgd] at hc39
    refine WL.y rfl (Y.fieldAddr fi36f2 ti4 (by decide) rfl (rfl) _) ?_
    refine WL.y rfl (Y.load1 Try.underlying4 rfl rfl ((hc39 2 (.bool ps[i].1.sp) rfl).trans (by rw [hp]))) ?_
    refine WL.nil ?_
    refine WC.condT (rfl) ?_
    refine WC.seqR rfl ?_
    refine WL.y rfl (Y.assign) ?_
    refine WL.nil ?_
    refine WC.ret (thenQ.ret (endQ.one (.inr rfl) ?_))
    exact ⟨rfl, rfl⟩
theorem rspoil_ok {xs : List UInt8} (w : World) (M : Nat → Prop) (bw : Nat) (ps : List (LS × Value)) (h : RefAt w M bw ps) (hps : ps.length ≤ 1000000) (i : Nat) (hi : i < ps.length) (hp : ps[i].1.sp = false) (at' : Int) (m : UInt8) (hsp : spoilOf ps[i].1.bs at' m = (xs, 0)) : Ret Try.prog 19 [.pointer (some ⟨bw, 0, none⟩), .int .i64 (i : Int), .int .i64 at', u8v m].toArray w fun v w' => v = .int .i64 0 ∧ ∃ fv, RefAt w' M bw (ps.set i (⟨ps[i].1.to, xs, true⟩, fv)) ∧ Kept (fun b => b = bw) w w' := by
  have h' := h
  have hqq := h'
  obtain ⟨hMs, u, hB, hm1, hsu, hl0⟩ := hqq
  have hmx : maxLen = 9223372036854775807 := rfl
  have hwb := hMs bw hm1
  have hlp := hl0 ps[i] (List.getElem_mem hi)
  have hgd : ps.getD i zeroL = ps[i] := by simp [hi]
  rcases spoil_cases ps[i].1.bs at' m with ⟨h1, h2⟩ | ⟨h1, hm, h2⟩ | ⟨j, rfl, h1, hm, h2⟩
  · rw [hsp] at h2; cases congrArg Prod.snd h2
  · rw [hsp] at h2; cases congrArg Prod.snd h2
  · have hm' := u8_ne hm
    rw [hsp] at h2
    have hxs : ps[i].1.bs.set j (ps[i].1.bs.getD j 0 ^^^ m) = xs := (congrArg Prod.fst h2).symm
    have hxl : xs.length = ps[i].1.bs.length := by rw [← hxs, List.length_set]
    clear h2 hsp
    generalize hP : ps[i] = p at *
    refine Ret.of (n := 79) (rs := #[.tmp 8]) Try.func19 rfl rfl rfl (by simp) ?_
    refine WC.seqR rfl ?_
    refine WL.y rfl (Y.assign) ?_
    refine WL.nil ?_
    refine WC.seq ?_
    refine WC.seqR rfl ?_
    refine WL.y rfl (Y.move) ?_
    refine WL.y rfl (Y.move) ?_
    refine WL.call rfl (C.func go37) (is_yes _ M bw ps h (i : Int) ⟨by omega, by omega⟩) ?_
    rintro _ _ ⟨rfl, rfl⟩
    refine WL.y rfl (Y.not rfl) ?_
    refine WL.y rfl (Y.move) ?_
    refine WL.y rfl (Y.move) ?_
    refine WL.y rfl (Y.dF (Y.lss rfl rfl) (by omega)) ?_
    refine WL.y rfl (Y.pickF rfl) ?_
    refine WL.y rfl (Y.move) ?_
    refine WL.y rfl (Y.move) ?_
    refine WL.y rfl (Y.move) ?_
    refine WL.y rfl (Y.nilCheck rfl) ?_
    refine WL.y rfl (Y.fieldAddr fi46f0 ti26 (by decide) rfl (rfl) _) ?_
    refine WL.y rfl (Y.load1 Try.underlying26 rfl rfl (hB.one)) ?_
    refine WL.y rfl (Y.move) ?_
    refine WL.yex rfl (Y.idxF (enc := encL) zeroL encL_len (by decide) Try.underlying26 ti36 hsu.sl rfl (by omega) (by omega)) ?_
    rintro _ ⟨b26, o26, rfl, hc26⟩
    simp only [Int.toNat_natCast, hgd] at hc26
    refine WL.y rfl (Y.fieldAddr fi36f1 ti32 (by decide) rfl (rfl) _) ?_
    refine WL.y rfl (Y.load1 Try.underlying32 rfl rfl (hc26 1 p.2 rfl)) ?_
    refine WL.y rfl (Y.lenSl Try.underlying32 (hlp.1.sl) _) ?_
    refine WL.y rfl (Y.dF (Y.geq rfl rfl) (by omega)) ?_
    refine WL.y rfl (Y.pickF rfl) ?_
    refine WL.nil ?_
    refine WC.condF (rfl) ?_
    refine WC.skip (thenQ.normal ?_)
    refine WC.seq ?_
    refine WC.seqR rfl ?_
    refine WL.y rfl (Y.move) ?_
    refine WL.y rfl (Y.dF (Y.eqi rfl rfl) (by omega)) ?_
    refine WL.nil ?_
    refine WC.condF (rfl) ?_
    refine WC.skip (thenQ.normal ?_)
    refine WC.seq ?_
    refine WC.seqR rfl ?_
    refine WL.y rfl (Y.move) ?_
    refine WL.y rfl (Y.nilCheck rfl) ?_
    refine WL.y rfl (Y.fieldAddr fi46f0 ti26 (by decide) rfl (rfl) _) ?_
    refine WL.y rfl (Y.load1 Try.underlying26 rfl rfl (hB.one)) ?_
    refine WL.y rfl (Y.move) ?_
    refine WL.yex rfl (Y.idxF (enc := encL) zeroL encL_len (by decide) Try.underlying26 ti36 hsu.sl rfl (by omega) (by omega)) ?_
    rintro _ ⟨b39, o39, rfl, hc39⟩
    simp only [Int.toNat_natCast, hgd] at hc39
    refine WL.y rfl (Y.fieldAddr fi36f2 ti4 (by decide) rfl (rfl) _) ?_
    refine WL.y rfl (Y.load1 Try.underlying4 rfl rfl ((hc39 2 (.bool p.1.sp) rfl).trans (by rw [hp]))) ?_
    refine WL.nil ?_
    refine WC.condF (rfl) ?_
    refine WC.skip (thenQ.normal ?_)
    refine WC.seqR rfl ?_
    refine WL.y rfl (Y.move) ?_
    refine WL.y rfl (Y.nilCheck rfl) ?_
    refine WL.y rfl (Y.fieldAddr fi46f0 ti26 (by decide) rfl (rfl) _) ?_
    refine WL.y rfl (Y.load1 Try.underlying26 rfl rfl (hB.one)) ?_
    refine WL.y rfl (Y.move) ?_
    refine WL.yex rfl (Y.idxF (enc := encL) zeroL encL_len (by decide) Try.underlying26 ti36 hsu.sl rfl (by omega) (by omega)) ?_
    rintro _ ⟨b47, o47, rfl, hc47⟩
    simp only [Int.toNat_natCast, hgd] at hc47
    refine WL.y rfl (Y.fieldAddr fi36f1 ti32 (by decide) rfl (rfl) _) ?_
    refine WL.y rfl (Y.load1 Try.underlying32 rfl rfl (hc47 1 p.2 rfl)) ?_
    refine WL.call rfl (C.func go13) (rown_ret _ p.1.bs _ hlp.1.sl hlp.2) ?_
    rintro v50 w50 ⟨ho50, hb50⟩
    have k50 := hb50
    have hqq := own_form ho50 (by omega)
    obtain ⟨b50, c50, rfl, hb50l, hb50h⟩ := hqq
    refine WL.y rfl (Y.assign) ?_
    refine WL.nil ?_
    refine WC.seqR rfl ?_
    refine WL.y rfl (Y.move) ?_
    refine WL.y rfl (Y.move) ?_
    refine WL.y rfl (Y.move) ?_
    refine WL.y rfl (Y.move) ?_
    refine WL.y rfl (Y.idxV1 (j := j) Try.underlying32 ti5 rfl rfl rfl h1 _) ?_
    refine WL.y rfl (Y.load1 Try.underlying5 rfl rfl ((own_cell ho50 j h1).trans (show _ = some (u8v (p.1.bs.getD j 0)) by simp [h1]))) ?_
    refine WL.y rfl (Y.move) ?_
    refine WL.y rfl (Y.xorU8 rfl rfl) ?_
    refine WL.y rfl (Y.idxV1 (j := j) Try.underlying32 ti5 rfl rfl rfl h1 _) ?_
    refine WL.eex rfl (E.storeOwn (u := u8v (p.1.bs.getD j 0 ^^^ m)) ti5 rfl rfl rfl ho50 h1) ?_
    rintro _ w59 ⟨ho59, hg59⟩
    have k59 : Below w.heap.size w w59 := k50.trans (below_of_grown hg59 k50.size (fun k e => by cases e; exact hb50l))
    rw [← List.map_set, hxs] at ho59
    have ho59' : Own w59 w.heap.size (.slice (some ⟨b50, 0, none⟩) p.1.bs.length c50) xs := by unfold Own; rw [hxl]; exact ho59
    refine WL.nil ?_
    refine WC.seqR rfl ?_
    refine WL.y rfl (Y.move) ?_
    refine WL.y rfl (Y.nilCheck rfl) ?_
    refine WL.y rfl (Y.fieldAddr fi46f0 ti26 (by decide) rfl (rfl) _) ?_
    refine WL.y rfl (Y.load1 Try.underlying26 rfl rfl ((hB.bel k59).one)) ?_
    refine WL.eex rfl (E.append Try.underlying26 ti36 rfl (by decide) (World.ownsRow_nil _ w59.heap.size _ 3) (hsu.sl.bel k59) (encL_one hl0) (by omega) (by omega) (Nat.le_refl _)) ?_
    rintro v64 w64 ⟨ho64, hq64, -⟩
    have k64 := Below.step k59 hq64
    rw [Nat.zero_add, List.nil_append] at ho64
    have hqq := OwnK.of_own ho64
    obtain ⟨b64, hb64l, hO64⟩ := hqq
    have hqq := hO64.form (by omega)
    obtain ⟨o64, c64, rfl, hnc64, hcm64, hb64h⟩ := hqq
    refine WL.y rfl (Y.assign) ?_
    refine WL.nil ?_
    refine WC.seqR rfl ?_
    refine WL.y rfl (Y.move) ?_
    refine WL.y rfl (Y.move) ?_
    refine WL.y rfl (Y.move) ?_
    refine WL.y rfl (Y.move) ?_
    refine WL.y rfl (Y.idxV Try.underlying26 ti36 rfl rfl (by omega) (by omega) _) ?_
    have hc71 : w64.cell? ⟨b64, o64 + i * 3, none⟩ = some (.int .u64 p.1.to) := hO64.cells (i * 3) _ (by have := flat_get encL_len ps i 0 hi (by decide); rw [hP] at this; exact this)
    refine WL.y rfl (Y.fieldAddr fi36f0 ti31 (by decide) rfl (rfl) _) ?_
    refine WL.y rfl (Y.load1 Try.underlying31 rfl rfl (hc71)) ?_
    refine WL.y rfl (Y.move) ?_
    refine WL.y rfl (Y.build (cells := (encL (⟨p.1.to, xs, true⟩, .slice (some ⟨b50, 0, none⟩) p.1.bs.length c50)).toArray) (by kernel_rfl) _) ?_
    refine WL.y rfl (Y.idxV Try.underlying26 ti36 rfl rfl (by omega) (by omega) _) ?_
    refine WL.eex rfl (E.storeK (i := i) (us := encL (⟨p.1.to, xs, true⟩, .slice (some ⟨b50, 0, none⟩) p.1.bs.length c50)) ti36 rfl rfl rfl (one_enc rfl) hO64 (by omega) rfl) ?_
    rintro _ w74 ⟨ho74, hg74⟩
    rw [flat_st ps i _ hi] at ho74
    have k74 : Below w.heap.size w w74 := k64.trans (below_of_grown hg74 k64.size (fun k e => by cases e; have := k59.size; omega))
    refine WL.nil ?_
    refine WC.seqR rfl ?_
    refine WL.y rfl (Y.move) ?_
    refine WL.y rfl (Y.move) ?_
    refine WL.y rfl (Y.nilCheck rfl) ?_
    refine WL.y rfl (Y.fieldAddr fi46f0 ti26 (by decide) rfl (rfl) _) ?_
    refine WL.eex rfl (E.storeX (u := .slice (some ⟨b64, o64, none⟩) ps.length c64) ti26 rfl rfl rfl (hB.bel k74) (by simp)) ?_
    rintro _ w78 ⟨hB78, hg78, -⟩
    refine WL.nil ?_
    refine WC.seqR rfl ?_
    refine WL.y rfl (Y.assign) ?_
    refine WL.nil ?_
    refine WC.ret (endQ.one (.inr rfl) ?_)
    have hk78 : Kept (fun b => b = bw) w w78 := (Kept.of_bel k74).trans (Kept.of_grown hg78 rfl)
    have h59s := k59.size
    have hob1 := ownsRow_bel ho59' hq64
    have hob2 := World.ownsRow.kept hob1 hg74 (.inr fun e => by have := (ho59'.lt _ e).2; omega)
    have hob3 := own_grown hob2 hg78 hwb
    have ho78 := ho74.keptR hg78 (.inr (fun e => by simp only [Value.ownBlock, Option.some.injEq] at e; omega))
    refine ⟨rfl, .slice (some ⟨b50, 0, none⟩) p.1.bs.length c50, ⟨fun b hb => Nat.lt_of_lt_of_le (hMs b hb) hk78.size, _, hB78, hm1, ?_, ?_⟩, hk78⟩
    · rw [List.length_set]
      exact ho78.sla (fun hb => by have := hMs b64 hb; omega)
    · intro q hq
      rcases List.mem_or_eq_of_mem_set hq with hq | rfl
      · exact ⟨(hl0 q hq).1.kept hk78 (fun b hb _ => hb ▸ hm1), (hl0 q hq).2⟩
      · exact ⟨SlA.of_own hob3 (fun b hb _ => hMs b hb), by rw [hxl]; exact hlp.2⟩
end Go.Proofs.Ytjlclaimpepgiaa
