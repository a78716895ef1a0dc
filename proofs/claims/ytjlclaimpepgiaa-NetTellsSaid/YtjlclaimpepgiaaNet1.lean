/-
  net: with, remove.
-/
import Derived.Test.YtjlclaimpepgiaaNet0
namespace Go.Proofs.Ytjlclaimpepgiaa
open Go Go.RowKit Go.Cx
set_option linter.unusedVariables false
open Crc
theorem NetAt.load {w : World} {M : Nat → Prop} {bn bl : Nat} {ps : List (LS × Value)} {v : Value} (hB : Blk w bn 28 [v]) : w.cell? ⟨bn, 0, none⟩ = some v := hB.one
theorem with_nil (w : World) (i : Int) (fv : Value) :
    Ret Try.prog 30 [.pointer none, .int .i64 i, fv].toArray w fun v w' => v = .int .i64 1 ∧ w = w' := by
  refine Ret.of (n := 29) (rs := #[.tmp 6]) Try.func30 rfl rfl rfl (by simp) ?_
  refine WC.seqR rfl ?_
  refine WL.y rfl (Y.assign) ?_
  refine WL.nil ?_
  refine WC.seq ?_
  refine WC.seqR rfl ?_
  refine WL.y rfl (Y.move) ?_
  refine WL.y rfl (Y.bT (Y.eqpn Try.underlying25 rfl rfl) (rfl)) ?_
  refine WL.nil ?_
  refine WC.condT (rfl) ?_
  refine WC.seqR rfl ?_
  refine WL.y rfl (Y.assign) ?_
  refine WL.nil ?_
  refine WC.ret (thenQ.ret (endQ.one (.inr rfl) ?_))
  exact ⟨rfl, rfl⟩
theorem with_out (w : World) (M : Nat → Prop) (bn bl : Nat) (ps : List (LS × Value)) (h : NetAt w M bn bl ps) (i : Int) (hi : ¬ (0 ≤ i ∧ i < ps.length)) (fv : Value) :
    Ret Try.prog 30 [.pointer (some ⟨bn, 0, none⟩), .int .i64 i, fv].toArray w fun v w' => v = .int .i64 17 ∧ w = w' := by
  obtain ⟨-, v, hB, ho, -, -, hl⟩ := h
  by_cases h0 : i < 0
  · refine Ret.of (n := 29) (rs := #[.tmp 6]) Try.func30 rfl rfl rfl (by simp) ?_
    refine WC.seqR rfl ?_
    refine WL.y rfl (Y.assign) ?_
    refine WL.nil ?_
    refine WC.seq ?_
    refine WC.seqR rfl ?_
    refine WL.y rfl (Y.move) ?_
    refine WL.y rfl (Y.bF (Y.eqpn Try.underlying25 rfl rfl) (rfl)) ?_
    refine WL.nil ?_
    refine WC.condF (rfl) ?_
    refine WC.skip (thenQ.normal ?_)
    refine WC.seq ?_
    refine WC.seqR rfl ?_
    refine WL.y rfl (Y.move) ?_
    refine WL.y rfl (Y.dT (Y.lss rfl rfl) (by omega)) ?_
    refine WL.y rfl (Y.move) ?_
    refine WL.off rfl ?_
    refine WL.off rfl ?_
    refine WL.off rfl ?_
    refine WL.off rfl ?_
    refine WL.off rfl ?_
    refine WL.off rfl ?_
    refine WL.off rfl ?_
    refine WL.y rfl (Y.pickT rfl) ?_
    refine WL.nil ?_
    refine WC.condT (rfl) ?_
    refine WC.seqR rfl ?_
    refine WL.y rfl (Y.assign) ?_
    refine WL.nil ?_
    refine WC.ret (thenQ.ret (endQ.one (.inr rfl) ?_))
    exact ⟨rfl, rfl⟩
  · refine Ret.of (n := 29) (rs := #[.tmp 6]) Try.func30 rfl rfl rfl (by simp) ?_
    refine WC.seqR rfl ?_
    refine WL.y rfl (Y.assign) ?_
    refine WL.nil ?_
    refine WC.seq ?_
    refine WC.seqR rfl ?_
    refine WL.y rfl (Y.move) ?_
    refine WL.y rfl (Y.bF (Y.eqpn Try.underlying25 rfl rfl) (rfl)) ?_
    refine WL.nil ?_
    refine WC.condF (rfl) ?_
    refine WC.skip (thenQ.normal ?_)
    refine WC.seq ?_
    refine WC.seqR rfl ?_
    refine WL.y rfl (Y.move) ?_
    refine WL.y rfl (Y.dF (Y.lss rfl rfl) (by omega)) ?_
    refine WL.y rfl (Y.move) ?_
    refine WL.y rfl (Y.move) ?_
    refine WL.y rfl (Y.move) ?_
    refine WL.y rfl (Y.nilCheck rfl) ?_
    refine WL.y rfl (Y.fieldAddr fi28f0 ti26 (by decide) rfl (rfl) _) ?_
    refine WL.y rfl (Y.load1 Try.underlying26 rfl rfl (hB.one)) ?_
    refine WL.y rfl (Y.lenSl Try.underlying26 (ho.sl) _) ?_
    refine WL.y rfl (Y.dT (Y.geq rfl rfl) (by omega)) ?_
    refine WL.y rfl (Y.pickF rfl) ?_
    refine WL.nil ?_
    refine WC.condT (rfl) ?_
    refine WC.seqR rfl ?_
    refine WL.y rfl (Y.assign) ?_
    refine WL.nil ?_
    refine WC.ret (thenQ.ret (endQ.one (.inr rfl) ?_))
    exact ⟨rfl, rfl⟩
theorem with_in (w : World) (M : Nat → Prop) (bn bl : Nat) (ps : List (LS × Value)) (h : NetAt w M bn bl ps) (i : Nat) (hi : i < ps.length) {gf : Nat} {fst cap : List Value} (hgo : GoFn Try.prog gf) {R : Value → World → Prop}
    (hR : Ret Try.prog gf (fst ++ [Value.agg (encL ps[i]).toArray] ++ cap).toArray w R) :
    Ret Try.prog 30 [.pointer (some ⟨bn, 0, none⟩), .int .i64 (i : Int), .func (.func gf) fst.toArray cap.toArray].toArray w R := by
  obtain ⟨-, v, hB, ho, -, -, hl⟩ := h
  refine Ret.of (n := 29) (rs := #[.tmp 6]) Try.func30 rfl rfl rfl (by simp) ?_
  refine WC.seqR rfl ?_
  refine WL.y rfl (Y.assign) ?_
  refine WL.nil ?_
  refine WC.seq ?_
  refine WC.seqR rfl ?_
  refine WL.y rfl (Y.move) ?_
  refine WL.y rfl (Y.bF (Y.eqpn Try.underlying25 rfl rfl) (rfl)) ?_
  refine WL.nil ?_
  refine WC.condF (rfl) ?_
  refine WC.skip (thenQ.normal ?_)
  refine WC.seq ?_
  refine WC.seqR rfl ?_
  refine WL.y rfl (Y.move) ?_
  refine WL.y rfl (Y.dF (Y.lss rfl rfl) (by omega)) ?_
  refine WL.y rfl (Y.move) ?_
  refine WL.y rfl (Y.move) ?_
  refine WL.y rfl (Y.move) ?_
  refine WL.y rfl (Y.nilCheck rfl) ?_
  refine WL.y rfl (Y.fieldAddr fi28f0 ti26 (by decide) rfl (rfl) _) ?_
  refine WL.y rfl (Y.load1 Try.underlying26 rfl rfl (hB.one)) ?_
  refine WL.y rfl (Y.lenSl Try.underlying26 (ho.sl) _) ?_
  refine WL.y rfl (Y.dF (Y.geq rfl rfl) (by omega)) ?_
  refine WL.y rfl (Y.pickF rfl) ?_
  refine WL.nil ?_
  refine WC.condF (rfl) ?_
  refine WC.skip (thenQ.normal ?_)
  refine WC.seqR rfl ?_
  refine WL.y rfl (Y.move) ?_
  refine WL.y rfl (Y.move) ?_
  refine WL.y rfl (Y.nilCheck rfl) ?_
  refine WL.y rfl (Y.fieldAddr fi28f0 ti26 (by decide) rfl (rfl) _) ?_
  refine WL.y rfl (Y.load1 Try.underlying26 rfl rfl (hB.one)) ?_
  refine WL.y rfl (Y.move) ?_
  refine WL.yex rfl (Y.idxF (enc := encL) ps[i] encL_len (by decide) Try.underlying26 ti36 ho.sl rfl (by omega) (by omega)) ?_
  rintro _ ⟨b26, o26, rfl, hc26⟩
  refine WL.y rfl (Y.loadN Try.underlying36 rfl ti36 rfl ((show Cells w b26 o26 (encL ps[i]) by simpa [hi] using hc26))) ?_
  refine WL.call rfl (C.valueX hgo rfl) hR ?_
  rintro v28 w28 hr28
  refine WL.y rfl (Y.assign) ?_
  refine WL.nil ?_
  refine WC.ret (endQ.one (.inr rfl) ?_)
  exact hr28
theorem flat_app (a b : List (LS × Value)) : flat (a ++ b) = flat a ++ flat b := List.flatMap_append
theorem flat_tk (ps : List (LS × Value)) (i : Nat) : (flat ps).take (i * 3) = flat (ps.take i) := flat_take encL_len ps i
theorem flat_dr (ps : List (LS × Value)) (i : Nat) : (flat ps).drop (i * 3) = flat (ps.drop i) := flat_drop encL_len ps i
theorem flat_st (ps : List (LS × Value)) (i : Nat) (a : LS × Value) (hi : i < ps.length) : (flat ps).take (i * 3) ++ encL a ++ (flat ps).drop (i * 3 + 3) = flat (ps.set i a) := flat_set encL_len ps i a hi
def zeroL : LS × Value := (⟨0, [], false⟩, .slice none 0 0)
theorem flat_zero : encL zeroL = flat [zeroL] := rfl
theorem zeroL_one : ∀ u ∈ encL zeroL, One u = true := one_enc rfl
theorem remove_ret (w : World) (M : Nat → Prop) (bn bl : Nat) (ps : List (LS × Value)) (h : NetAt w M bn bl ps) (i : Nat) (hi : i < ps.length) :
    Ret Try.prog 32 [.pointer (some ⟨bn, 0, none⟩), .int .i64 (i : Int)].toArray w fun v w' => v = .tuple #[] ∧ NetAt w' M bn bl (ps.eraseIdx i) ∧ Kept (NB bn bl) w w' := by
  obtain ⟨hMs, v, hB, ho, hm1, hm2, hl⟩ := h
  have hlen := ho.sl.len
  have hone := encL_one hl
  have hfl := flat_length ps
  have hel : (ps.eraseIdx i).length = ps.length - 1 := by rw [List.length_eraseIdx, if_pos hi]
  obtain ⟨o, cap, rfl, hnc, hcm, hbl⟩ := ho.form (by omega)
  have hne : bn ≠ bl := by
    rintro rfl
    rcases ho.2 with ⟨h, _⟩ | ⟨o', cap', cur, _, hb, _⟩
    · cases h
    · have := hB.symm.trans hb
      cases this
  have hlE : ∀ {w' : World}, Kept (NB bn bl) w w' → Lts w' M (ps.eraseIdx i) := fun hk => (hl.sub (fun q hq => (List.eraseIdx_sublist _ _).subset hq)).kept hk (fun b hb _ => by
    rcases hb with rfl | rfl
    · exact hm1
    · exact hm2)
  have hB2 : ∀ {w1 w2 : World}, Blk w1 bn 28 [.slice (some ⟨bl, o, none⟩) ps.length cap] → w1.grownBy w2 (some bl) → Blk w2 bn 28 [.slice (some ⟨bl, o, none⟩) ps.length cap] := fun h hg => h.grown hg hne
  by_cases hside : (i : Int) < (ps.length : Int) - 1 - i
  · have hl1 : (ps.take 1 ++ ps.take i ++ ps.drop (1 + i)).length = ps.length := by simp; omega
    have e1 : (flat ps).take (1 * 3) ++ flat (ps.take i) ++ (flat ps).drop (1 * 3 + i * 3) = flat (ps.take 1 ++ ps.take i ++ ps.drop (1 + i)) := by rw [← Nat.add_mul, flat_tk, flat_dr, ← flat_app, ← flat_app]
    have e2 := flat_st (ps.take 1 ++ ps.take i ++ ps.drop (1 + i)) 0 zeroL (by omega)
    have e3 : ((ps.take 1 ++ ps.take i ++ ps.drop (1 + i)).set 0 zeroL).drop 1 = ps.eraseIdx i := by
      rw [List.eraseIdx_eq_take_drop_succ, List.drop_set_of_lt (by omega), List.append_assoc, List.drop_left' (by simp; omega), Nat.add_comm]
    refine Ret.of (n := 74) (rs := #[]) Try.func32 rfl rfl rfl (by simp) ?_
    refine WC.seqR rfl ?_
    refine WL.y rfl (Y.move) ?_
    refine WL.y rfl (Y.nilCheck rfl) ?_
    refine WL.y rfl (Y.fieldAddr fi28f0 ti26 (by decide) rfl (rfl) _) ?_
    refine WL.y rfl (Y.load1 Try.underlying26 rfl rfl (hB.one)) ?_
    refine WL.y rfl (Y.lenSl Try.underlying26 (ho.sl) _) ?_
    refine WL.y rfl (Y.sub64 rfl rfl (by omega)) ?_
    refine WL.y rfl (Y.assign) ?_
    refine WL.nil ?_
    refine WC.seq ?_
    refine WC.seqR rfl ?_
    refine WL.y rfl (Y.move) ?_
    refine WL.y rfl (Y.move) ?_
    refine WL.y rfl (Y.move) ?_
    refine WL.y rfl (Y.sub64 rfl rfl (by omega)) ?_
    refine WL.y rfl (Y.dT (Y.lss rfl rfl) (by omega)) ?_
    refine WL.nil ?_
    refine WC.condT (rfl) ?_
    refine WC.seq ?_
    refine WC.regionB (fun i => Nat.beq i 13) [(0, .any), (1, .any), (2, .any), (3, .held), (4, .any), (5, .any), (6, .any), (7, .any), (8, .any), (9, .any), (10, .held), (11, .any), (12, .any), (13, .seq)] mixed (by kernel_rfl) (fun w2 hS2 hheap => ?_)
    refine RL.any rfl rfl (fun _ => Y.move) ?_
    refine RL.any rfl rfl (fun _ => Y.nilCheck rfl) ?_
    refine RL.any rfl rfl (fun _ => Y.fieldAddr fi28f0 ti26 (by decide) rfl (rfl) _) ?_
    refine RL.held rfl rfl hS2 (fun _ hb9 => Y.load1 Try.underlying26 rfl rfl (cell_bel hB.one hb9)) ?_
    refine RL.any rfl rfl (fun _ => Y.move) ?_
    refine RL.any rfl rfl (fun _ => Y.add64 rfl rfl (by omega)) ?_
    refine RL.any rfl rfl (fun _ => Y.sliceVal (lo := 1) (hi := i + 1) Try.underlying26 ti36 rfl hnc (by exact ⟨_, rfl, rfl⟩) (by exact ⟨_, rfl, by omega⟩) (by omega) (by omega) _) ?_
    refine RL.any rfl rfl (fun _ => Y.move) ?_
    refine RL.any rfl rfl (fun _ => Y.nilCheck rfl) ?_
    refine RL.any rfl rfl (fun _ => Y.fieldAddr fi28f0 ti26 (by decide) rfl (rfl) _) ?_
    refine RL.held rfl rfl hS2 (fun _ hb9 => Y.load1 Try.underlying26 rfl rfl (cell_bel hB.one hb9)) ?_
    refine RL.any rfl rfl (fun _ => Y.move) ?_
    refine RL.any rfl rfl (fun _ => Y.sliceVal (k1 := .i64) (lo := 0) (hi := i) Try.underlying26 ti36 rfl hnc (by rfl) (by exact ⟨_, rfl, rfl⟩) (by omega) (by omega) _) ?_
    refine RL.eex rfl rfl (E.copyK (bl := bl) (o := o) (n := ps.length) (cap := cap) (lo := 1) (m := i) (cs := flat (ps.take i)) Try.underlying26 ti36 (by decide) rfl (by omega) (by intro h0; rw [if_neg (by omega)]; simp [add_addr]) (ho.bel hS2) (by have := ((ho.bel hS2).cut 0 i (by omega) (by omega)).sl; rw [Nat.zero_mul, List.drop_zero, Nat.sub_zero, flat_tk] at this; exact this) (by omega) (fun u hu => hone u (by rw [← List.take_append_drop i ps, flat_app]; exact List.mem_append_left _ hu))) ?_ ?_
    · exact fun _ _ _ => .inl rfl
    rintro _ w29 ⟨ho29, hg29⟩
    rw [e1] at ho29
    have hB29 := hB2 (hB.bel hS2) hg29
    have kk29 : Kept (NB bn bl) w w29 := (Kept.of_bel hS2).trans (Kept.of_grown hg29 (.inr rfl))
    refine RL.nil (thenQ.normal ?_)
    refine WC.seqR rfl ?_
    refine WL.y rfl (Y.move) ?_
    refine WL.y rfl (Y.nilCheck rfl) ?_
    refine WL.y rfl (Y.fieldAddr fi28f0 ti26 (by decide) rfl (rfl) _) ?_
    refine WL.y rfl (Y.load1 Try.underlying26 rfl rfl (hB29.one)) ?_
    refine WL.y rfl (Y.build (cells := (encL zeroL).toArray) (by kernel_rfl) _) ?_
    refine WL.y rfl (Y.idxV Try.underlying26 ti36 rfl rfl (by omega) (by omega) _) ?_
    refine WL.eex rfl (E.storeK (i := 0) (us := encL zeroL) ti36 rfl rfl rfl zeroL_one ho29 (by omega) rfl) ?_
    rintro _ w35 ⟨ho35, hg35⟩
    rw [e2] at ho35
    have hB35 := hB2 hB29 hg35
    have kk35 := kk29.trans (Kept.of_grown (M := NB bn bl) hg35 (.inr rfl))
    refine WL.nil ?_
    refine WC.seqR rfl ?_
    refine WL.y rfl (Y.move) ?_
    refine WL.y rfl (Y.move) ?_
    refine WL.y rfl (Y.nilCheck rfl) ?_
    refine WL.y rfl (Y.fieldAddr fi28f0 ti26 (by decide) rfl (rfl) _) ?_
    refine WL.y rfl (Y.load1 Try.underlying26 rfl rfl (hB35.one)) ?_
    refine WL.y rfl (Y.sliceVal (k2 := .i64) (lo := 1) (hi := ps.length) Try.underlying26 ti36 rfl hnc (by exact ⟨_, rfl, rfl⟩) (by rfl) (by omega) (by omega) _) ?_
    refine WL.y rfl (Y.nilCheck rfl) ?_
    refine WL.y rfl (Y.fieldAddr fi28f0 ti26 (by decide) rfl (rfl) _) ?_
    refine WL.eex rfl (E.storeX (u := _) ti26 rfl rfl rfl hB35 (by simp)) ?_
    rintro _ w41 ⟨hB41, hg41, -⟩
    refine WL.nil ?_
    refine WC.ret (thenQ.ret (endQ.zero (.inr rfl) ?_))
    have kk41 := kk35.trans (Kept.of_grown (M := NB bn bl) hg41 (.inl rfl))
    have ho41 := (ho35.kept (Kept.of_grown (M := fun b => b = bn) hg41 rfl) (fun e => hne e.symm)).cut 1 ps.length (by omega) (Nat.le_refl _)
    rw [flat_dr, e3, List.take_of_length_le (by rw [flat_length, hel]; omega)] at ho41
    refine ⟨rfl, ⟨fun b hb => Nat.lt_of_lt_of_le (hMs b hb) kk41.size, _, hB41, ?_, hm1, hm2, hlE kk41⟩, kk41⟩
    rw [hel]
    exact ho41
  · have hl1 : (ps.take i ++ ps.drop (i + 1) ++ ps.drop (ps.length - 1)).length = ps.length := by simp; omega
    have e1 : (flat ps).take (i * 3) ++ flat (ps.drop (i + 1)) ++ (flat ps).drop (i * 3 + (ps.length - (i + 1)) * 3) = flat (ps.take i ++ ps.drop (i + 1) ++ ps.drop (ps.length - 1)) := by rw [← Nat.add_mul, flat_tk, flat_dr, ← flat_app, ← flat_app, show i + (ps.length - (i + 1)) = ps.length - 1 by omega]
    have e2 := flat_st (ps.take i ++ ps.drop (i + 1) ++ ps.drop (ps.length - 1)) (ps.length - 1) zeroL (by omega)
    have e3 : ((ps.take i ++ ps.drop (i + 1) ++ ps.drop (ps.length - 1)).set (ps.length - 1) zeroL).take (ps.length - 1) = ps.eraseIdx i := by
      rw [List.eraseIdx_eq_take_drop_succ, List.take_set_of_le (by omega), List.take_left' (by simp; omega)]
    refine Ret.of (n := 74) (rs := #[]) Try.func32 rfl rfl rfl (by simp) ?_
    refine WC.seqR rfl ?_
    refine WL.y rfl (Y.move) ?_
    refine WL.y rfl (Y.nilCheck rfl) ?_
    refine WL.y rfl (Y.fieldAddr fi28f0 ti26 (by decide) rfl (rfl) _) ?_
    refine WL.y rfl (Y.load1 Try.underlying26 rfl rfl (hB.one)) ?_
    refine WL.y rfl (Y.lenSl Try.underlying26 (ho.sl) _) ?_
    refine WL.y rfl (Y.sub64 rfl rfl (by omega)) ?_
    refine WL.y rfl (Y.assign) ?_
    refine WL.nil ?_
    refine WC.seq ?_
    refine WC.seqR rfl ?_
    refine WL.y rfl (Y.move) ?_
    refine WL.y rfl (Y.move) ?_
    refine WL.y rfl (Y.move) ?_
    refine WL.y rfl (Y.sub64 rfl rfl (by omega)) ?_
    refine WL.y rfl (Y.dF (Y.lss rfl rfl) (by omega)) ?_
    refine WL.nil ?_
    refine WC.condF (rfl) ?_
    refine WC.skip (thenQ.normal ?_)
    refine WC.seq ?_
    refine WC.regionB (fun i => Nat.beq i 13) [(0, .any), (1, .any), (2, .any), (3, .held), (4, .any), (5, .any), (6, .any), (7, .any), (8, .any), (9, .held), (10, .any), (11, .any), (12, .any), (13, .seq)] mixed (by kernel_rfl) (fun w5 hS5 hheap => ?_)
    refine RL.any rfl rfl (fun _ => Y.move) ?_
    refine RL.any rfl rfl (fun _ => Y.nilCheck rfl) ?_
    refine RL.any rfl rfl (fun _ => Y.fieldAddr fi28f0 ti26 (by decide) rfl (rfl) _) ?_
    refine RL.held rfl rfl hS5 (fun _ hb9 => Y.load1 Try.underlying26 rfl rfl (cell_bel hB.one hb9)) ?_
    refine RL.any rfl rfl (fun _ => Y.move) ?_
    refine RL.any rfl rfl (fun _ => Y.sliceVal (k2 := .i64) (lo := i) (hi := ps.length) Try.underlying26 ti36 rfl hnc (by exact ⟨_, rfl, rfl⟩) (by rfl) (by omega) (by omega) _) ?_
    refine RL.any rfl rfl (fun _ => Y.move) ?_
    refine RL.any rfl rfl (fun _ => Y.nilCheck rfl) ?_
    refine RL.any rfl rfl (fun _ => Y.fieldAddr fi28f0 ti26 (by decide) rfl (rfl) _) ?_
    refine RL.held rfl rfl hS5 (fun _ hb9 => Y.load1 Try.underlying26 rfl rfl (cell_bel hB.one hb9)) ?_
    refine RL.any rfl rfl (fun _ => Y.move) ?_
    refine RL.any rfl rfl (fun _ => Y.add64 rfl rfl (by omega)) ?_
    refine RL.any rfl rfl (fun _ => Y.sliceVal (k2 := .i64) (lo := i + 1) (hi := ps.length) Try.underlying26 ti36 rfl hnc (by exact ⟨_, rfl, by omega⟩) (by rfl) (by omega) (by omega) _) ?_
    refine RL.eex rfl rfl (E.copyK (bl := bl) (o := o) (n := ps.length) (cap := cap) (lo := i) (m := ps.length - (i + 1)) (cs := flat (ps.drop (i + 1))) Try.underlying26 ti36 (by decide) rfl (by omega) (by intro h0; rw [if_neg (by omega)]; simp [add_addr]) (ho.bel hS5) (by have := ((ho.bel hS5).cut (i + 1) ps.length (by omega) (by omega)).sl; rw [flat_dr, List.take_of_length_le (by rw [flat_length, List.length_drop]; omega)] at this; exact this) (by omega) (fun u hu => hone u (by rw [← List.take_append_drop (i + 1) ps, flat_app]; exact List.mem_append_right _ hu))) ?_ ?_
    · exact fun _ _ _ => .inl rfl
    rintro _ w57 ⟨ho57, hg57⟩
    rw [e1] at ho57
    have hB57 := hB2 (hB.bel hS5) hg57
    have kk57 : Kept (NB bn bl) w w57 := (Kept.of_bel hS5).trans (Kept.of_grown hg57 (.inr rfl))
    refine RL.nil (thenQ.normal ?_)
    refine WC.seqR rfl ?_
    refine WL.y rfl (Y.move) ?_
    refine WL.y rfl (Y.nilCheck rfl) ?_
    refine WL.y rfl (Y.fieldAddr fi28f0 ti26 (by decide) rfl (rfl) _) ?_
    refine WL.y rfl (Y.load1 Try.underlying26 rfl rfl (hB57.one)) ?_
    refine WL.y rfl (Y.move) ?_
    refine WL.y rfl (Y.build (cells := (encL zeroL).toArray) (by kernel_rfl) _) ?_
    refine WL.y rfl (Y.idxV Try.underlying26 ti36 rfl rfl (by omega) (by omega) _) ?_
    refine WL.eex rfl (E.storeK (i := ps.length - 1) (us := encL zeroL) ti36 rfl rfl rfl zeroL_one ho57 (by omega) (by omega)) ?_
    rintro _ w64 ⟨ho64, hg64⟩
    rw [e2] at ho64
    have hB64 := hB2 hB57 hg64
    have kk64 := kk57.trans (Kept.of_grown (M := NB bn bl) hg64 (.inr rfl))
    refine WL.nil ?_
    refine WC.region rfl ?_
    refine WL.y rfl (Y.move) ?_
    refine WL.y rfl (Y.move) ?_
    refine WL.y rfl (Y.nilCheck rfl) ?_
    refine WL.y rfl (Y.fieldAddr fi28f0 ti26 (by decide) rfl (rfl) _) ?_
    refine WL.y rfl (Y.load1 Try.underlying26 rfl rfl (hB64.one)) ?_
    refine WL.y rfl (Y.move) ?_
    refine WL.y rfl (Y.sliceVal (k1 := .i64) (lo := 0) (hi := ps.length - 1) Try.underlying26 ti36 rfl hnc (by rfl) (by exact ⟨_, rfl, by omega⟩) (by omega) (by omega) _) ?_
    refine WL.y rfl (Y.nilCheck rfl) ?_
    refine WL.y rfl (Y.fieldAddr fi28f0 ti26 (by decide) rfl (rfl) _) ?_
    refine WL.eex rfl (E.storeX (u := _) ti26 rfl rfl rfl hB64 (by simp)) ?_
    rintro _ w71 ⟨hB71, hg71, -⟩
    refine WL.nil (endQ.zero (.inl rfl) ?_)
    have kk71 := kk64.trans (Kept.of_grown (M := NB bn bl) hg71 (.inl rfl))
    have ho71 := (ho64.kept (Kept.of_grown (M := fun b => b = bn) hg71 rfl) (fun e => hne e.symm)).cut 0 (ps.length - 1) (by omega) (by omega)
    rw [Nat.zero_mul, List.drop_zero, Nat.sub_zero, flat_tk, e3] at ho71
    refine ⟨rfl, ⟨fun b hb => Nat.lt_of_lt_of_le (hMs b hb) kk71.size, _, hB71, ?_, hm1, hm2, hlE kk71⟩, kk71⟩
    rw [hel]
    exact ho71
end Go.Proofs.Ytjlclaimpepgiaa
