/-
  frame: Spoil.
-/
import Derived.Test.YtjlclaimpepgiaaFr4
namespace Go.Proofs.Ytjlclaimpepgiaa
open Go Go.RowKit Go.Cx
set_option linter.unusedVariables false
open Crc
def spoilOf (l : List UInt8) (at' : Int) (m : UInt8) : List UInt8 × Int :=
  if 0 ≤ at' ∧ at' < l.length then (if m = 0 then ([], 2) else (l.set at'.toNat (l.getD at'.toNat 0 ^^^ m), 0)) else ([], 17)
theorem spoil_ret (w : World) (bv : Value) (l : List UInt8) (hs : Bs w bv l) (hl : l.length ≤ 140737488355328) (at' : Int) (m : UInt8) :
    Ret Try.prog 36 [bv, .int .i64 at', u8v m].toArray w fun v w' => (∃ xv, v = .tuple #[xv, .int .i64 (spoilOf l at' m).2] ∧ Own w' w.heap.size xv (spoilOf l at' m).1) ∧ Below w.heap.size w w' := by
  have hmx : maxLen = 9223372036854775807 := rfl
  obtain ⟨a, cap, rfl⟩ := bs_form hs
  have two : ∀ (w : World) (b1 b2 b3 : Nat), Blk w b1 3 [.int .i64 at'] → Blk w b2 32 [.slice a l.length cap] → Blk w b3 5 [u8v m] → Bs w (.slice a l.length cap) l → _ := fun w b1 b2 b3 h1 h2 h3 h4 => two_calls (w := w) (fst := []) (cap := [.pointer (some ⟨b1, 0, none⟩), .pointer (some ⟨b2, 0, none⟩)]) go49 (placed_ret w b1 b2 at' _ l h1 h2 h4) (fst' := []) (cap' := [.pointer (some ⟨b3, 0, none⟩)]) go51 (masked_ret w b3 m h3)
  generalize hcode : firstOf [if 0 ≤ at' ∧ at' < l.length then 0 else 17, if m = 0 then 2 else 0] = code at *
  have hcd : (code = 0 ∧ (0 ≤ at' ∧ at' < l.length) ∧ m ≠ 0) ∨ (code = 2 ∧ (0 ≤ at' ∧ at' < l.length) ∧ m = 0) ∨ (code = 17 ∧ ¬ (0 ≤ at' ∧ at' < l.length)) := by
    by_cases h0 : 0 ≤ at' ∧ at' < l.length
    · by_cases h1 : m = 0
      · exact .inr (.inl ⟨by rw [← hcode, if_pos h0, if_pos h1]; rfl, h0, h1⟩)
      · exact .inl ⟨by rw [← hcode, if_pos h0, if_neg h1]; rfl, h0, h1⟩
    · exact .inr (.inr ⟨by rw [← hcode, if_neg h0]; rfl, h0⟩)
  have hsp : spoilOf l at' m = (if code = 0 then l.set at'.toNat (l.getD at'.toNat 0 ^^^ m) else [], code) := by
    unfold spoilOf
    rcases hcd with ⟨h, h1, h2⟩ | ⟨h, h1, h2⟩ | ⟨h, h1⟩
    · rw [if_pos h1, if_neg h2, h]; rfl
    · rw [if_pos h1, if_pos h2, h]; rfl
    · rw [if_neg h1, h]; rfl
  rw [hsp]
  by_cases hc0 : code = 0
  · refine Ret.of (n := 32) (rs := #[.tmp 6, .tmp 7]) Try.func36 rfl rfl rfl (by simp) ?_
    refine WC.seqR rfl ?_
    refine WL.eex rfl (E.boxX) ?_
    rintro _ w3 ⟨rfl, hB3, hb3⟩
    have k3 := hb3
    refine WL.eex rfl (E.boxX) ?_
    rintro _ w4 ⟨rfl, hB4, hb4⟩
    have k4 := Below.step k3 hb4
    refine WL.eex rfl (E.boxX) ?_
    rintro _ w5 ⟨rfl, hB5, hb5⟩
    have k5 := Below.step k4 hb5
    refine WL.y rfl (Y.assign) ?_
    refine WL.y rfl (Y.assign) ?_
    refine WL.nil ?_
    refine WC.seqR rfl ?_
    refine WL.y rfl (Y.makeFunc) ?_
    refine WL.y rfl (Y.assign) ?_
    refine WL.nil ?_
    refine WC.seqR rfl ?_
    refine WL.y rfl (Y.makeFunc) ?_
    refine WL.y rfl (Y.assign) ?_
    refine WL.nil ?_
    refine WC.seq ?_
    refine WC.seqR rfl ?_
    refine WL.y rfl (Y.move) ?_
    refine WL.y rfl (Y.move) ?_
    refine WL.eex rfl (E.buildSliceX (len := 2) (cs := [.func (.func 49) #[] #[.pointer (some ⟨w3.heap.size, 0, none⟩), .pointer (some ⟨w.heap.size, 0, none⟩)], .func (.func 51) #[] #[.pointer (some ⟨w4.heap.size, 0, none⟩)]]) Try.underlying82 ti80 (by omega) (by omega) (by kernel_rfl) rfl) ?_
    rintro _ w16 ⟨rfl, ho16, hb16, -⟩
    have k16 := Below.step k5 hb16
    have hA3 : Blk w16 w.heap.size 32 [.slice a l.length cap] := by have h : Blk w3 w.heap.size 32 [.slice a l.length cap] := hB3; exact ((h.bel hb4).bel hb5).bel hb16
    have hA4 : Blk w16 w3.heap.size 3 [.int .i64 at'] := by have h : Blk w4 w3.heap.size 3 [.int .i64 at'] := hB4; exact (h.bel hb5).bel hb16
    have hA5 : Blk w16 w4.heap.size 5 [u8v m] := by have h : Blk w5 w4.heap.size 5 [u8v m] := hB5; exact h.bel hb16
    refine WL.call rfl (C.func go44) (first_ret _ _ [if 0 ≤ at' ∧ at' < l.length then 0 else 17, if m = 0 then 2 else 0] _ (ownsRow_sl ho16) rfl (two _ _ _ _ hA4 hA3 hA5 (hs.bel k16))) ?_
    rintro _ _ ⟨rfl, rfl⟩
    refine WL.y rfl (Y.assign) ?_
    refine WL.nil ?_
    refine WC.seqR rfl ?_
    refine WL.y rfl (Y.move) ?_
    refine WL.y rfl (Y.dF (Y.nei rfl rfl) (by rw [hcode]; omega)) ?_
    refine WL.nil ?_
    have hpl : (0 ≤ at' ∧ at' < l.length) ∧ m ≠ 0 := by
      rcases hcd with h | h | h
      · exact h.2
      · omega
      · omega
    obtain ⟨j, hj⟩ : ∃ j : Nat, at' = (j : Int) := ⟨at'.toNat, (Int.toNat_of_nonneg hpl.1.1).symm⟩
    have hjl : j < l.length := by omega
    refine WC.condF (rfl) ?_
    refine WC.skip (thenQ.normal ?_)
    refine WC.seqR rfl ?_
    refine WL.eex rfl (E.build0 Try.underlying32 ti5) ?_
    rintro v21 w21 ⟨ho21, hb21⟩
    have k21 := Below.step k16 hb21
    refine WL.y rfl (Y.load1 Try.underlying32 rfl rfl ((hA3.bel hb21).one)) ?_
    refine WL.eex rfl (E.append Try.underlying32 ti5 rfl (by decide) ho21 (hs.bel k21) (one_u8 l) (by omega) (by omega) hb21.size) ?_
    rintro v23 w23 ⟨ho23, hq23, -⟩
    have k23 := k21.trans (hq23.mono k16.size)
    refine WL.y rfl (Y.assign) ?_
    refine WL.nil ?_
    refine WC.seq ?_
    rw [Nat.zero_add, List.nil_append] at ho23
    obtain ⟨b23, c23, rfl, hb23l, hb23h⟩ := own_form ho23 (by omega)
    have h34 := hB3.lt
    have h45 := hB4.lt
    have h5 := hb5.size
    have h4 := hb4.size
    have h16 := hb16.size
    have hA4' : Blk w23 w3.heap.size 3 [.int .i64 at'] := (hA4.bel hb21).belB hq23 hA4.lt
    have hA5' : Blk w23 w4.heap.size 5 [u8v m] := (hA5.bel hb21).belB hq23 hA5.lt
    have hcc : w23.cell? ⟨b23, j, none⟩ = some (u8v (l.getD j 0)) := (own_cell ho23 j hjl).trans (by simp [hjl])
    subst hj
    refine WC.regionB (fun i => Nat.beq i 7) [(0, .any), (1, .held), (2, .any), (3, .held), (4, .held), (5, .any), (6, .any), (7, .seq)] mixed (by kernel_rfl) (fun wr7 hS7 hheap => ?_)
    have kr7 := Below.step k23 hS7
    refine RL.any rfl rfl (fun _ => Y.move) ?_
    refine RL.held rfl rfl hS7 (fun _ hb9 => Y.load1 Try.underlying3 rfl rfl (cell_bel hA4'.one hb9)) ?_
    refine RL.any rfl rfl (fun _ => Y.idxV1 (j := j) Try.underlying32 ti5 rfl rfl rfl (by omega) _) ?_
    refine RL.held rfl rfl hS7 (fun _ hb9 => Y.load1 Try.underlying5 rfl rfl (cell_bel hcc hb9)) ?_
    refine RL.held rfl rfl hS7 (fun _ hb9 => Y.load1 Try.underlying5 rfl rfl (cell_bel hA5'.one hb9)) ?_
    refine RL.any rfl rfl (fun _ => Y.xorU8 rfl rfl) ?_
    refine RL.any rfl rfl (fun _ => Y.idxV1 (j := j) Try.underlying32 ti5 rfl rfl rfl (by omega) _) ?_
    refine RL.eex rfl rfl (E.storeOwn (u := u8v (l.getD j 0 ^^^ m)) ti5 rfl rfl rfl (ownsRow_bel ho23 hS7) (by omega)) ?_ ?_
    · exact fun _ _ _ => .inl rfl
    rintro _ w30 ⟨ho30, hg30⟩
    refine RL.nil (thenQ.normal ?_)
    refine WC.seqR rfl ?_
    refine WL.y rfl (Y.move) ?_
    refine WL.y rfl (Y.assign) ?_
    refine WL.y rfl (Y.assign) ?_
    refine WL.nil ?_
    refine WC.ret (endQ.two (.inr rfl) ?_)
    have k30 : Below w.heap.size w w30 := kr7.trans (below_of_grown hg30 kr7.size (fun k e => by cases e; omega))
    refine ⟨⟨_, congrArg (fun c => Value.tuple #[.slice (some ⟨b23, 0, none⟩) l.length c23, .int .i64 c]) hc0.symm, ?_⟩, k30⟩
    rw [if_pos hc0, Int.toNat_natCast]
    unfold Own
    rw [List.length_set, List.map_set]
    exact ownsRow_mono ho30 k16.size
  · refine Ret.of (n := 32) (rs := #[.tmp 6, .tmp 7]) Try.func36 rfl rfl rfl (by simp) ?_
    refine WC.seqR rfl ?_
    refine WL.eex rfl (E.boxX) ?_
    rintro _ w3 ⟨rfl, hB3, hb3⟩
    have k3 := hb3
    refine WL.eex rfl (E.boxX) ?_
    rintro _ w4 ⟨rfl, hB4, hb4⟩
    have k4 := Below.step k3 hb4
    refine WL.eex rfl (E.boxX) ?_
    rintro _ w5 ⟨rfl, hB5, hb5⟩
    have k5 := Below.step k4 hb5
    refine WL.y rfl (Y.assign) ?_
    refine WL.y rfl (Y.assign) ?_
    refine WL.nil ?_
    refine WC.seqR rfl ?_
    refine WL.y rfl (Y.makeFunc) ?_
    refine WL.y rfl (Y.assign) ?_
    refine WL.nil ?_
    refine WC.seqR rfl ?_
    refine WL.y rfl (Y.makeFunc) ?_
    refine WL.y rfl (Y.assign) ?_
    refine WL.nil ?_
    refine WC.seq ?_
    refine WC.seqR rfl ?_
    refine WL.y rfl (Y.move) ?_
    refine WL.y rfl (Y.move) ?_
    refine WL.eex rfl (E.buildSliceX (len := 2) (cs := [.func (.func 49) #[] #[.pointer (some ⟨w3.heap.size, 0, none⟩), .pointer (some ⟨w.heap.size, 0, none⟩)], .func (.func 51) #[] #[.pointer (some ⟨w4.heap.size, 0, none⟩)]]) Try.underlying82 ti80 (by omega) (by omega) (by kernel_rfl) rfl) ?_
    rintro _ w16 ⟨rfl, ho16, hb16, -⟩
    have k16 := Below.step k5 hb16
    have hA3 : Blk w16 w.heap.size 32 [.slice a l.length cap] := by have h : Blk w3 w.heap.size 32 [.slice a l.length cap] := hB3; exact ((h.bel hb4).bel hb5).bel hb16
    have hA4 : Blk w16 w3.heap.size 3 [.int .i64 at'] := by have h : Blk w4 w3.heap.size 3 [.int .i64 at'] := hB4; exact (h.bel hb5).bel hb16
    have hA5 : Blk w16 w4.heap.size 5 [u8v m] := by have h : Blk w5 w4.heap.size 5 [u8v m] := hB5; exact h.bel hb16
    refine WL.call rfl (C.func go44) (first_ret _ _ [if 0 ≤ at' ∧ at' < l.length then 0 else 17, if m = 0 then 2 else 0] _ (ownsRow_sl ho16) rfl (two _ _ _ _ hA4 hA3 hA5 (hs.bel k16))) ?_
    rintro _ _ ⟨rfl, rfl⟩
    refine WL.y rfl (Y.assign) ?_
    refine WL.nil ?_
    refine WC.seqR rfl ?_
    refine WL.y rfl (Y.move) ?_
    refine WL.y rfl (Y.dT (Y.nei rfl rfl) (by rw [hcode]; omega)) ?_
    refine WL.nil ?_
    refine WC.condT (rfl) ?_
    refine WC.seqR rfl ?_
    refine WL.y rfl (Y.move) ?_
    refine WL.y rfl (Y.assign) ?_
    refine WL.y rfl (Y.assign) ?_
    refine WL.nil ?_
    refine WC.ret (thenQ.ret (endQ.two (.inr rfl) ?_))
    exact ⟨⟨.slice none 0 0, congrArg (fun c => Value.tuple #[.slice none 0 0, .int .i64 c]) hcode, by rw [if_neg hc0]; exact World.ownsRow_nil _ _ _ _⟩, k16⟩
end Go.Proofs.Ytjlclaimpepgiaa
