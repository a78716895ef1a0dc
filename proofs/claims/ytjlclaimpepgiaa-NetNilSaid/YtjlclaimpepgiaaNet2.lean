/-
  net: Send, Drop, Double, At, Take, Spoil, Len.
-/
import Derived.Test.YtjlclaimpepgiaaNet1
namespace Go.Proofs.Ytjlclaimpepgiaa
open Go Go.RowKit Go.Cx
set_option linter.unusedVariables false
open Crc
theorem NB_lt {w : World} {M : Nat → Prop} {bn bl : Nat} (h1 : M bn) (h2 : M bl) : ∀ b, NB bn bl b → b < w.heap.size → M b := fun b hb _ => by
  rcases hb with rfl | rfl
  · exact h1
  · exact h2
/-- what there is behind a change of the net: the row may lie elsewhere -/
def NetNew (w w' : World) (M : Nat → Prop) (bn bl : Nat) (ps : List (LS × Value)) : Prop :=
  ∃ bl', (bl' = bl ∨ w.heap.size ≤ bl') ∧ NetAt w' (fun b => M b ∨ b = bl') bn bl' ps ∧ Kept (NB bn bl) w w'
theorem NetNew.mono {w0 w w' : World} {M : Nat → Prop} {bn bl : Nat} {ps : List (LS × Value)} (h : NetNew w w' M bn bl ps) (hb : Below w0.heap.size w0 w) : NetNew w0 w' M bn bl ps := by
  obtain ⟨bl', h1, h2, h3⟩ := h
  exact ⟨bl', h1.imp_right (fun h => Nat.le_trans hb.size h), h2, (Kept.of_bel hb).trans h3⟩
theorem netNew_of {w w1 w2 w3 : World} {M : Nat → Prop} {bn bl bl' n : Nat} {ps ps' : List (LS × Value)} {u v : Value} (h : NetAt w M bn bl ps) (k1 : Below w.heap.size w w1) (hB : Blk w1 bn 28 [u]) (hou : OwnK w1 bl 36 3 u ps.length (flat ps)) (hg : w1.grownBy w2 u.ownBlock)
    (ho : OwnK w2 bl' 36 3 v n (flat ps')) (hn : n = ps'.length) (hbl' : bl' = bl ∨ w1.heap.size ≤ bl') (hB3 : Blk w3 bn 28 [v]) (hg3 : w2.grownBy w3 (some bn)) (hlb : bl' < w3.heap.size) (hl : Lts w1 (fun b => M b ∨ b = bl') ps') : NetNew w w3 M bn bl ps' := by
  obtain ⟨hMs, v0, hB0, ho0, hm1, hm2, hlt⟩ := h
  have hgK : Kept (NB bn bl) w1 w2 := Kept.of_grownR hg (fun b hb => by
    rcases hou.own with e | e
    · rw [e] at hb; cases hb
    · rw [e] at hb; cases hb; exact .inr rfl)
  have hg3K : Kept (NB bn bl) w2 w3 := Kept.of_grown hg3 (.inl rfl)
  have hk : Kept (NB bn bl) w w3 := ((Kept.of_bel k1).trans hgK).trans hg3K
  have hsz := hk.size
  subst hn
  have hB2 : Blk w2 bn 28 [u] := hB.grownR hg (fun r e e2 => by subst e2; exact hou.other hB (by decide) e)
  refine ⟨bl', hbl'.imp_right (fun h => Nat.le_trans k1.size h), ⟨fun b hb => ?_, v, hB3, ho.keptR hg3 (.inr (fun e => ho.other hB2 (by decide) e)), .inl hm1, .inr rfl, (hl.kept hgK ?_).kept hg3K ?_⟩, hk⟩
  · rcases hb with hb | rfl
    · exact Nat.lt_of_lt_of_le (hMs b hb) hsz
    · exact hlb
  · exact fun b hb _ => .inl (NB_lt (w := w) hm1 hm2 b hb (hMs b (by rcases hb with rfl | rfl <;> assumption)))
  · exact fun b hb _ => .inl (NB_lt (w := w) hm1 hm2 b hb (hMs b (by rcases hb with rfl | rfl <;> assumption)))
theorem send_nil (w : World) (to : Int) (bv : Value) :
    Ret Try.prog 10 [.pointer none, .int .u64 to, bv].toArray w fun v w' => v = .int .i64 1 ∧ w = w' := by
  refine Ret.of (n := 22) (rs := #[.tmp 6]) Try.func10 rfl rfl rfl (by simp) ?_
  refine WC.seqR rfl ?_
  refine WL.y rfl (Y.assign) ?_
  refine WL.nil ?_
  refine WC.seq ?_
  refine WC.seqR rfl ?_
  refine WL.y rfl (Y.move) ?_
  refine WL.y rfl (Y.bT (Y.eqpn Try.underlying25 rfl rfl) (rfl)) ?_
  refine WL.nil ?_
  refine WC.condT (rfl) ?_
  refine WC.seqR rfl ?_
  refine WL.y rfl (Y.assign) ?_
  refine WL.nil ?_
  refine WC.ret (thenQ.ret (endQ.one (.inr rfl) ?_))
  exact ⟨rfl, rfl⟩
theorem send_ret (w : World) (M : Nat → Prop) (bn bl : Nat) (ps : List (LS × Value)) (h : NetAt w M bn bl ps) (hps : ps.length ≤ 1000000) (to : Int) (bv : Value) (l : List UInt8) (hs : Bs w bv l) (hl : l.length ≤ 140737488355328) :
    Ret Try.prog 10 [.pointer (some ⟨bn, 0, none⟩), .int .u64 to, bv].toArray w fun v w' => v = .int .i64 0 ∧ ∃ fv, NetNew w w' M bn bl (ps ++ [(⟨to, l, false⟩, fv)]) := by
  have h' := h
  have hqq := h'
  obtain ⟨hMs, v, hB, ho, hm1, hm2, hlt⟩ := hqq
  have hmx : maxLen = 9223372036854775807 := rfl
  have hone := encL_one hlt
  have hbnl : bn < w.heap.size := hMs bn hm1
  have hbll : bl < w.heap.size := hMs bl hm2
  have hqq := bs_form hs
  obtain ⟨a, c, rfl⟩ := hqq
  refine Ret.of (n := 22) (rs := #[.tmp 6]) Try.func10 rfl rfl rfl (by simp) ?_
  refine WC.seqR rfl ?_
  refine WL.y rfl (Y.assign) ?_
  refine WL.nil ?_
  refine WC.seq ?_
  refine WC.seqR rfl ?_
  refine WL.y rfl (Y.move) ?_
  refine WL.y rfl (Y.bF (Y.eqpn Try.underlying25 rfl rfl) (rfl)) ?_
  refine WL.nil ?_
  refine WC.condF (rfl) ?_
  refine WC.skip (thenQ.normal ?_)
  refine WC.seq ?_
  refine WC.regionB (fun i => Nat.beq i 10 || Nat.beq i 13) [(0, .any), (1, .any), (2, .any), (3, .any), (4, .held), (5, .any), (6, .any), (7, .any), (8, .seq), (9, .seq), (10, .seq), (11, .any), (12, .any), (13, .seq)] mixed (by kernel_rfl) (fun wr3 hS3 hheap => ?_)
  have kr3 := hS3
  refine RL.any rfl rfl (fun _ => Y.move) ?_
  refine RL.any rfl rfl (fun _ => Y.move) ?_
  refine RL.any rfl rfl (fun _ => Y.nilCheck rfl) ?_
  refine RL.any rfl rfl (fun _ => Y.fieldAddr fi28f0 ti26 (by decide) rfl (rfl) _) ?_
  refine RL.held rfl rfl hS3 (fun _ hb9 => Y.load1 Try.underlying26 rfl rfl (cell_bel hB.one hb9)) ?_
  refine RL.any rfl rfl (fun _ => Y.move) ?_
  refine RL.any rfl rfl (fun _ => Y.move) ?_
  refine RL.any rfl rfl (fun _ => Y.build (cells := (encL (⟨to, l, false⟩, .slice a l.length c)).toArray) (by kernel_rfl) _) ?_
  refine RL.call rfl rfl (C.func go29) (told_ret _ ⟨to, l, false⟩ _ (hs.bel kr3) hl) ?_
  rintro _ w17 ⟨⟨fv, rfl, ho17⟩, hb17⟩
  refine ⟨.inr (fun h => Below.step h hb17), ?_⟩
  have k17 := Below.step kr3 hb17
  refine RL.eex rfl rfl (E.buildSliceX (len := 1) (cs := encL (⟨to, l, false⟩, fv)) Try.underlying26 ti36 (by omega) (by omega) (by kernel_rfl) rfl) ?_ ?_
  · exact fun _ _ h9 => .inr (fun h => Below.step h h9.2.2.1)
  rintro _ w18 ⟨rfl, ho18, hb18, -⟩ 
  have k18 := Below.step k17 hb18
  refine RL.eex rfl rfl (E.appendK Try.underlying26 Try.underlying26 ti36 rfl (by decide) (ho.bel k18) (ownsRow_sl ho18) (one_enc ho17.bs.one) (by omega) (by omega)) ?_ ?_
  · exact fun _ _ _ => .inl rfl
  rintro v19 w19 ⟨⟨bl', ho19, hbl'⟩, hg19⟩
  have hB19 : Blk w19 bn 28 [v] := (hB.bel k18).grownR hg19 (fun r e e2 => by subst e2; exact (ho.bel k18).other (hB.bel k18) (by decide) e)
  refine RL.any rfl rfl (fun _ => Y.nilCheck rfl) ?_
  refine RL.any rfl rfl (fun _ => Y.fieldAddr fi28f0 ti26 (by decide) rfl (rfl) _) ?_
  refine RL.eex rfl rfl (E.storeX (u := v19) ti26 rfl rfl ho19.sl.one hB19 (by simp)) ?_ ?_
  · exact fun _ _ _ => .inl rfl
  rintro _ w20 ⟨hB20, hg20, -⟩
  refine RL.nil (thenQ.normal ?_)
  refine WC.seqR rfl ?_
  refine WL.y rfl (Y.assign) ?_
  refine WL.nil ?_
  refine WC.ret (endQ.one (.inr rfl) ?_)
  have kk18 := k18
  have h17s := hb17.size
  have h18s := hb18.size
  have h19s := hg19.size
  have h20s := hg20.size
  have hrs := hS3.size
  have ho19' : OwnK w19 bl' 36 3 v19 (ps.length + 1) (flat (ps ++ [(⟨to, l, false⟩, fv)])) := by rw [flat_app]; exact ho19
  have hbl2 : bl' < w20.heap.size := by
    have hqq := ho19'.form (by omega)
    obtain ⟨_, _, _, _, _, h9⟩ := hqq
    omega
  refine ⟨rfl, fv, netNew_of h kk18 (hB.bel kk18) (ho.bel kk18) hg19 ho19' (by simp) hbl' hB20 hg20 hbl2 (Lts.append ((hlt.kept (Kept.of_bel (M := M) kk18) (fun _ m _ => m)).mono ?_) ?_)⟩
  · intro b hb hbs
    rcases hb with hb | rfl
    · exact hb
    · rcases hbl' with rfl | h9
      · exact hm2
      · omega
  · intro p hp
    obtain rfl : p = (⟨to, l, false⟩, fv) := by simpa using hp
    refine ⟨SlA.bel (SlA.of_own (B := wr3.heap.size) ho17 ?_) hb18, hl⟩
    intro b hb hbs
    rcases hb with hb | rfl
    · have := hMs b hb; omega
    · rcases hbl' with rfl | h9
      · omega
      · omega
theorem len_nil (w : World) : Ret Try.prog 24 [.pointer none].toArray w fun v w' => v = .int .i64 0 ∧ w = w' := by
  refine Ret.of (n := 10) (rs := #[.tmp 2]) Try.func24 rfl rfl rfl (by simp) ?_
  refine WC.seqR rfl ?_
  refine WL.y rfl (Y.assign) ?_
  refine WL.nil ?_
  refine WC.seq ?_
  refine WC.seqR rfl ?_
  refine WL.y rfl (Y.move) ?_
  refine WL.y rfl (Y.bT (Y.eqpn Try.underlying25 rfl rfl) (rfl)) ?_
  refine WL.nil ?_
  refine WC.condT (rfl) ?_
  refine WC.seqR rfl ?_
  refine WL.y rfl (Y.assign) ?_
  refine WL.nil ?_
  refine WC.ret (thenQ.ret (endQ.one (.inr rfl) ?_))
  exact ⟨rfl, rfl⟩
theorem len_ret (w : World) (M : Nat → Prop) (bn bl : Nat) (ps : List (LS × Value)) (h : NetAt w M bn bl ps) : Ret Try.prog 24 [.pointer (some ⟨bn, 0, none⟩)].toArray w fun v w' => v = .int .i64 (ps.length : Int) ∧ w = w' := by
  obtain ⟨hMs, v, hB, ho, hm1, hm2, hlt⟩ := h
  refine Ret.of (n := 10) (rs := #[.tmp 2]) Try.func24 rfl rfl rfl (by simp) ?_
  refine WC.seqR rfl ?_
  refine WL.y rfl (Y.assign) ?_
  refine WL.nil ?_
  refine WC.seq ?_
  refine WC.seqR rfl ?_
  refine WL.y rfl (Y.move) ?_
  refine WL.y rfl (Y.bF (Y.eqpn Try.underlying25 rfl rfl) (rfl)) ?_
  refine WL.nil ?_
  refine WC.condF (rfl) ?_
  refine WC.skip (thenQ.normal ?_)
  refine WC.seqR rfl ?_
  refine WL.y rfl (Y.move) ?_
  refine WL.y rfl (Y.nilCheck rfl) ?_
  refine WL.y rfl (Y.fieldAddr fi28f0 ti26 (by decide) rfl (rfl) _) ?_
  refine WL.y rfl (Y.load1 Try.underlying26 rfl rfl (hB.one)) ?_
  refine WL.y rfl (Y.lenSl Try.underlying26 (ho.sl) _) ?_
  refine WL.y rfl (Y.assign) ?_
  refine WL.nil ?_
  refine WC.ret (endQ.one (.inr rfl) ?_)
  exact ⟨rfl, rfl⟩
/-! Drop -/
theorem dropFn_ret (w : World) (M : Nat → Prop) (bn bl : Nat) (ps : List (LS × Value)) (h : NetAt w M bn bl ps) (i : Nat) (hi : i < ps.length) (p : LS × Value) (b1 b2 : Nat) (h1 : Blk w b1 25 [.pointer (some ⟨bn, 0, none⟩)]) (h2 : Blk w b2 3 [.int .i64 (i : Int)]) :
    Ret Try.prog 31 [.agg (encL p).toArray, .pointer (some ⟨b1, 0, none⟩), .pointer (some ⟨b2, 0, none⟩)].toArray w fun v w' => v = .int .i64 0 ∧ NetAt w' M bn bl (ps.eraseIdx i) ∧ Kept (NB bn bl) w w' := by
  refine Ret.of (n := 8) (rs := #[.tmp 4]) Try.func31 rfl rfl rfl (by simp) ?_
  refine WC.seqR rfl ?_
  refine WL.eex rfl (E.boxX) ?_
  rintro _ w3 ⟨rfl, hB3, hb3⟩
  have k3 := hb3
  refine WL.y rfl (Y.assign) ?_
  refine WL.nil ?_
  refine WC.seqR rfl ?_
  refine WL.y rfl (Y.load1 Try.underlying25 rfl rfl ((h1.bel k3).one)) ?_
  refine WL.y rfl (Y.load1 Try.underlying3 rfl rfl ((h2.bel k3).one)) ?_
  refine WL.call rfl (C.func go32) (remove_ret _ M bn bl ps (h.bel k3) i hi) ?_
  rintro _ w7 ⟨rfl, hN7, hk7⟩
  refine WL.nil ?_
  refine WC.seqR rfl ?_
  refine WL.y rfl (Y.assign) ?_
  refine WL.nil ?_
  refine WC.ret (endQ.one (.inr rfl) ?_)
  exact ⟨rfl, hN7, (Kept.of_bel k3).trans hk7⟩
theorem drop_nil (w : World) (i : Int) : Ret Try.prog 11 [.pointer none, .int .i64 i].toArray w fun v w' => v = .int .i64 1 ∧ Below w.heap.size w w' := by
  refine Ret.of (n := 9) (rs := #[.tmp 4]) Try.func11 rfl rfl rfl (by simp) ?_
  refine WC.seqR rfl ?_
  refine WL.eex rfl (E.boxX) ?_
  rintro _ w2 ⟨rfl, hB2, hb2⟩
  have k2 := hb2
  refine WL.eex rfl (E.boxX) ?_
  rintro _ w3 ⟨rfl, hB3, hb3⟩
  have k3 := Below.step k2 hb3
  refine WL.y rfl (Y.assign) ?_
  refine WL.nil ?_
  refine WC.seqR rfl ?_
  refine WL.y rfl (Y.load1 Try.underlying25 rfl rfl ((hB2.bel hb3).one)) ?_
  refine WL.y rfl (Y.load1 Try.underlying3 rfl rfl (hB3.one)) ?_
  refine WL.y rfl (Y.makeFunc) ?_
  refine WL.call rfl (C.func go30) (with_nil _ i _) ?_
  rintro _ _ ⟨rfl, rfl⟩
  refine WL.y rfl (Y.assign) ?_
  refine WL.nil ?_
  refine WC.ret (endQ.one (.inr rfl) ?_)
  exact ⟨rfl, k3⟩
theorem drop_out (w : World) (M : Nat → Prop) (bn bl : Nat) (ps : List (LS × Value)) (h : NetAt w M bn bl ps) (i : Int) (hi : ¬ (0 ≤ i ∧ i < ps.length)) : Ret Try.prog 11 [.pointer (some ⟨bn, 0, none⟩), .int .i64 i].toArray w fun v w' => v = .int .i64 17 ∧ Below w.heap.size w w' := by
  refine Ret.of (n := 9) (rs := #[.tmp 4]) Try.func11 rfl rfl rfl (by simp) ?_
  refine WC.seqR rfl ?_
  refine WL.eex rfl (E.boxX) ?_
  rintro _ w2 ⟨rfl, hB2, hb2⟩
  have k2 := hb2
  refine WL.eex rfl (E.boxX) ?_
  rintro _ w3 ⟨rfl, hB3, hb3⟩
  have k3 := Below.step k2 hb3
  refine WL.y rfl (Y.assign) ?_
  refine WL.nil ?_
  refine WC.seqR rfl ?_
  refine WL.y rfl (Y.load1 Try.underlying25 rfl rfl ((hB2.bel hb3).one)) ?_
  refine WL.y rfl (Y.load1 Try.underlying3 rfl rfl (hB3.one)) ?_
  refine WL.y rfl (Y.makeFunc) ?_
  refine WL.call rfl (C.func go30) (with_out _ M bn bl ps (h.bel k3) i hi _) ?_
  rintro _ _ ⟨rfl, rfl⟩
  refine WL.y rfl (Y.assign) ?_
  refine WL.nil ?_
  refine WC.ret (endQ.one (.inr rfl) ?_)
  exact ⟨rfl, k3⟩
theorem drop_in (w : World) (M : Nat → Prop) (bn bl : Nat) (ps : List (LS × Value)) (h : NetAt w M bn bl ps) (i : Nat) (hi : i < ps.length) : Ret Try.prog 11 [.pointer (some ⟨bn, 0, none⟩), .int .i64 (i : Int)].toArray w fun v w' => v = .int .i64 0 ∧ NetAt w' M bn bl (ps.eraseIdx i) ∧ Kept (NB bn bl) w w' := by
  refine Ret.of (n := 9) (rs := #[.tmp 4]) Try.func11 rfl rfl rfl (by simp) ?_
  refine WC.seqR rfl ?_
  refine WL.eex rfl (E.boxX) ?_
  rintro _ w2 ⟨rfl, hB2, hb2⟩
  have k2 := hb2
  refine WL.eex rfl (E.boxX) ?_
  rintro _ w3 ⟨rfl, hB3, hb3⟩
  have k3 := Below.step k2 hb3
  refine WL.y rfl (Y.assign) ?_
  refine WL.nil ?_
  refine WC.seqR rfl ?_
  refine WL.y rfl (Y.load1 Try.underlying25 rfl rfl ((hB2.bel hb3).one)) ?_
  refine WL.y rfl (Y.load1 Try.underlying3 rfl rfl (hB3.one)) ?_
  refine WL.y rfl (Y.makeFunc) ?_
  refine WL.call rfl (C.func go30) (with_in _ M bn bl ps (h.bel k3) i hi (fst := []) (cap := [.pointer (some ⟨w.heap.size, 0, none⟩), .pointer (some ⟨w2.heap.size, 0, none⟩)]) go31 (dropFn_ret _ M bn bl ps (h.bel k3) i hi _ _ _ (hB2.bel hb3) hB3)) ?_
  rintro _ w8 ⟨rfl, hN8, hk8⟩
  refine WL.y rfl (Y.assign) ?_
  refine WL.nil ?_
  refine WC.ret (endQ.one (.inr rfl) ?_)
  exact ⟨rfl, hN8, (Kept.of_bel k3).trans hk8⟩
/-! Double -/
theorem doubleFn_ret (w : World) (M : Nat → Prop) (bn bl : Nat) (ps : List (LS × Value)) (h : NetAt w M bn bl ps) (hps : ps.length ≤ 1000000) (i : Nat) (hi : i < ps.length) (b1 : Nat) (h1 : Blk w b1 25 [.pointer (some ⟨bn, 0, none⟩)]) :
    Ret Try.prog 33 [.agg (encL ps[i]).toArray, .pointer (some ⟨b1, 0, none⟩)].toArray w fun v w' => v = .int .i64 0 ∧ NetNew w w' M bn bl (ps ++ [ps[i]]) := by
  have h' := h
  have hqq := h'
  obtain ⟨hMs, v, hB, ho, hm1, hm2, hlt⟩ := hqq
  have hmx : maxLen = 9223372036854775807 := rfl
  have hbnl : bn < w.heap.size := hMs bn hm1
  have hbll : bl < w.heap.size := hMs bl hm2
  have hpo : One ps[i].2 = true := (hlt ps[i] (List.getElem_mem hi)).1.one
  generalize hp : ps[i] = p at *
  have hpos : 0 < ps.length := by omega
  have hown : ∀ b, v.ownBlock = some b → b = bl := by
    have hqq := ho.form hpos
    obtain ⟨o, c, hv, _⟩ := hqq
    rw [hv]
    intro b e
    exact (Option.some.inj e).symm
  have hvb : v.ownBlock = some bl := by
    have hqq := ho.form hpos
    obtain ⟨o, c, hv, _⟩ := hqq
    rw [hv]
    rfl
  have hn1 : ¬ b1 = bl := fun e => ho.other h1 (by decide) (by rw [hvb, e])
  have hnB : ¬ bn = bl := fun e => ho.other hB (by decide) (by rw [hvb, e])
  refine Ret.of (n := 14) (rs := #[.tmp 3]) Try.func33 rfl rfl rfl (by simp) ?_
  refine WC.seqR rfl ?_
  refine WL.eex rfl (E.boxX) ?_
  rintro _ w2 ⟨rfl, hB2, hb2⟩
  have k2 := hb2
  refine WL.y rfl (Y.assign) ?_
  refine WL.nil ?_
  refine WC.seq ?_
  refine WC.regionK ((fun b => b = bl)) (fun i => Nat.beq i 10) [(0, .held), (1, .held), (2, .any), (3, .any), (4, .held), (5, .held), (6, .seq), (7, .seq), (8, .any), (9, .any), (10, .seq)] mixed (by kernel_rfl) (fun wr1 hS1 hheap => ?_)
  have kr1 := Below.step k2 hS1
  refine RL.held rfl rfl (Kept.refl _ _) (fun _ hb9 => Y.load1 Try.underlying25 rfl rfl (((h1.bel kr1).kept hb9 hn1).one)) ?_
  refine RL.held rfl rfl (Kept.refl _ _) (fun _ hb9 => Y.load1 Try.underlying25 rfl rfl (((h1.bel kr1).kept hb9 hn1).one)) ?_
  refine RL.any rfl rfl (fun _ => Y.nilCheck rfl) ?_
  refine RL.any rfl rfl (fun _ => Y.fieldAddr fi28f0 ti26 (by decide) rfl (rfl) _) ?_
  refine RL.held rfl rfl (Kept.refl _ _) (fun _ hb9 => Y.load1 Try.underlying26 rfl rfl (((hB.bel kr1).kept hb9 hnB).one)) ?_
  refine RL.held rfl rfl (Kept.refl _ _) (fun _ hb9 => Y.loadN Try.underlying36 rfl ti36 rfl ((show Cells _ _ _ (encL p) from ((hB2.bel hS1).kept hb9 (by omega)).cells))) ?_
  refine RL.eex rfl rfl (E.buildSliceX (len := 1) (cs := encL p) Try.underlying26 ti36 (by omega) (by omega) (by kernel_rfl) rfl) ?_ ?_
  · exact fun _ _ h9 => .inr (fun h => h.bel h9.2.2.1)
  rintro _ w10 ⟨rfl, ho10, hb10, -⟩ 
  have k10 := Below.step kr1 hb10
  refine RL.eex rfl rfl (E.appendK Try.underlying26 Try.underlying26 ti36 rfl (by decide) (ho.bel k10) (ownsRow_sl ho10) (one_enc hpo) (by omega) (by omega)) ?_ ?_
  · exact fun _ _ h9 => .inr (fun h => h.trans (Kept.of_grownR h9.2 hown))
  rintro v11 w11 ⟨⟨bl', ho11, hbl'⟩, hg11⟩ 
  have hB11 : Blk w11 bn 28 [v] := (hB.bel k10).grownR hg11 (fun r e e2 => by subst e2; exact (ho.bel k10).other (hB.bel k10) (by decide) e)
  refine RL.any rfl rfl (fun _ => Y.nilCheck rfl) ?_
  refine RL.any rfl rfl (fun _ => Y.fieldAddr fi28f0 ti26 (by decide) rfl (rfl) _) ?_
  refine RL.eex rfl rfl (E.storeX (u := v11) ti26 rfl rfl ho11.sl.one hB11 (by simp)) ?_ ?_
  · exact fun _ _ _ => .inl rfl
  rintro _ w12 ⟨hB12, hg12, -⟩
  refine RL.nil (thenQ.normal ?_)
  refine WC.seqR rfl ?_
  refine WL.y rfl (Y.assign) ?_
  refine WL.nil ?_
  refine WC.ret (endQ.one (.inr rfl) ?_)
  have kk := k10
  have hmem : ∀ q ∈ [p], q ∈ ps := by
    intro q hq
    obtain rfl : q = p := by simpa using hq
    rw [← hp]
    exact List.getElem_mem hi
  have hks := kk.size
  have h11s := hg11.size
  have h12s := hg12.size
  have ho11' : OwnK w11 bl' 36 3 v11 (ps.length + 1) (flat (ps ++ [p])) := by rw [flat_app]; exact ho11
  have hbl2 : bl' < w12.heap.size := by
    have hqq := ho11'.form (by omega)
    obtain ⟨_, _, _, _, _, h9⟩ := hqq
    omega
  refine ⟨rfl, netNew_of h kk (hB.bel kk) (ho.bel kk) hg11 ho11' (by simp) hbl' hB12 hg12 hbl2 (((Lts.append hlt (hlt.sub hmem)).kept (Kept.of_bel (M := M) kk) (fun _ m _ => m)).mono ?_)⟩
  intro b hb hbs
  rcases hb with hb | rfl
  · exact hb
  · rcases hbl' with rfl | h9
    · exact hm2
    · omega
theorem double_nil (w : World) (i : Int) : Ret Try.prog 14 [.pointer none, .int .i64 i].toArray w fun v w' => v = .int .i64 1 ∧ Below w.heap.size w w' := by
  refine Ret.of (n := 9) (rs := #[.tmp 4]) Try.func14 rfl rfl rfl (by simp) ?_
  refine WC.seqR rfl ?_
  refine WL.eex rfl (E.boxX) ?_
  rintro _ w2 ⟨rfl, hB2, hb2⟩
  have k2 := hb2
  refine WL.y rfl (Y.assign) ?_
  refine WL.nil ?_
  refine WC.seqR rfl ?_
  refine WL.y rfl (Y.load1 Try.underlying25 rfl rfl (hB2.one)) ?_
  refine WL.y rfl (Y.move) ?_
  refine WL.y rfl (Y.makeFunc) ?_
  refine WL.call rfl (C.func go30) (with_nil _ i _) ?_
  rintro _ _ ⟨rfl, rfl⟩
  refine WL.y rfl (Y.assign) ?_
  refine WL.nil ?_
  refine WC.ret (endQ.one (.inr rfl) ?_)
  exact ⟨rfl, k2⟩
theorem double_out (w : World) (M : Nat → Prop) (bn bl : Nat) (ps : List (LS × Value)) (h : NetAt w M bn bl ps) (i : Int) (hi : ¬ (0 ≤ i ∧ i < ps.length)) : Ret Try.prog 14 [.pointer (some ⟨bn, 0, none⟩), .int .i64 i].toArray w fun v w' => v = .int .i64 17 ∧ Below w.heap.size w w' := by
  refine Ret.of (n := 9) (rs := #[.tmp 4]) Try.func14 rfl rfl rfl (by simp) ?_
  refine WC.seqR rfl ?_
  refine WL.eex rfl (E.boxX) ?_
  rintro _ w2 ⟨rfl, hB2, hb2⟩
  have k2 := hb2
  refine WL.y rfl (Y.assign) ?_
  refine WL.nil ?_
  refine WC.seqR rfl ?_
  refine WL.y rfl (Y.load1 Try.underlying25 rfl rfl (hB2.one)) ?_
  refine WL.y rfl (Y.move) ?_
  refine WL.y rfl (Y.makeFunc) ?_
  refine WL.call rfl (C.func go30) (with_out _ M bn bl ps (h.bel k2) i hi _) ?_
  rintro _ _ ⟨rfl, rfl⟩
  refine WL.y rfl (Y.assign) ?_
  refine WL.nil ?_
  refine WC.ret (endQ.one (.inr rfl) ?_)
  exact ⟨rfl, k2⟩
theorem double_in (w : World) (M : Nat → Prop) (bn bl : Nat) (ps : List (LS × Value)) (h : NetAt w M bn bl ps) (hps : ps.length ≤ 1000000) (i : Nat) (hi : i < ps.length) : Ret Try.prog 14 [.pointer (some ⟨bn, 0, none⟩), .int .i64 (i : Int)].toArray w fun v w' => v = .int .i64 0 ∧ NetNew w w' M bn bl (ps ++ [ps[i]]) := by
  refine Ret.of (n := 9) (rs := #[.tmp 4]) Try.func14 rfl rfl rfl (by simp) ?_
  refine WC.seqR rfl ?_
  refine WL.eex rfl (E.boxX) ?_
  rintro _ w2 ⟨rfl, hB2, hb2⟩
  have k2 := hb2
  refine WL.y rfl (Y.assign) ?_
  refine WL.nil ?_
  refine WC.seqR rfl ?_
  refine WL.y rfl (Y.load1 Try.underlying25 rfl rfl (hB2.one)) ?_
  refine WL.y rfl (Y.move) ?_
  refine WL.y rfl (Y.makeFunc) ?_
  refine WL.call rfl (C.func go30) (with_in _ M bn bl ps (h.bel k2) i hi (fst := []) (cap := [.pointer (some ⟨w.heap.size, 0, none⟩)]) go33 (doubleFn_ret _ M bn bl ps (h.bel k2) hps i hi _ hB2)) ?_
  rintro _ w8 ⟨rfl, hN8⟩
  refine WL.y rfl (Y.assign) ?_
  refine WL.nil ?_
  refine WC.ret (endQ.one (.inr rfl) ?_)
  exact ⟨rfl, hN8.mono k2⟩
end Go.Proofs.Ytjlclaimpepgiaa
