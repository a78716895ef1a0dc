/-
  A net beside the document's: each call on one of both.
-/
import Derived.Test.YtjlclaimpepgiaaNet8
namespace Go.Proofs.Ytjlclaimpepgiaa
open Go Go.RowKit Go.Cx
set_option linter.unusedVariables false
open Crc
theorem map_erase {α β : Type} (f : α → β) (l : List α) (i : Nat) : (l.eraseIdx i).map f = (l.map f).eraseIdx i := by
  rw [List.eraseIdx_eq_take_drop_succ, List.eraseIdx_eq_take_drop_succ, List.map_append, List.map_take, List.map_drop]
def PairAt (w : World) (M : Nat → Prop) (B bn bw : Nat) (lsN lsR : List LS) : Prop :=
  ∃ bl psN psR, (∀ b, M b → B ≤ b) ∧ bw ≠ bn ∧ bw ≠ bl ∧ NetAt w M bn bl psN ∧ RefAt w M bw psR ∧ psN.map Prod.fst = lsN ∧ psR.map Prod.fst = lsR
def PairStep (w w' : World) (M : Nat → Prop) (B bn bw : Nat) (lsN lsR : List LS) : Prop :=
  ∃ M', PairAt w' M' B bn bw lsN lsR ∧ Kept M w w' ∧ ∀ b, M' b → M b ∨ w.heap.size ≤ b
section
variable {w w' : World} {M : Nat → Prop} {B bn bw : Nat} {lsN lsR : List LS}
theorem PairAt.ms (h : PairAt w M B bn bw lsN lsR) : ∀ b, M b → b < w.heap.size := by
  obtain ⟨bl, psN, psR, h1, h2, h3, h4, h5, h6, h7⟩ := h
  exact h4.1
theorem PairAt.mbn (h : PairAt w M B bn bw lsN lsR) : M bn ∧ M bw := by
  obtain ⟨bl, psN, psR, h1, h2, h3, h4, h5, h6, h7⟩ := h
  exact ⟨h4.2.choose_spec.2.2.1, h5.2.choose_spec.2.1⟩
theorem PairAt.bel (h : PairAt w M B bn bw lsN lsR) (hb : Below w.heap.size w w') : PairAt w' M B bn bw lsN lsR := by
  obtain ⟨bl, psN, psR, h1, h2, h3, h4, h5, h6, h7⟩ := h
  exact ⟨bl, psN, psR, h1, h2, h3, h4.bel hb, h5.bel hb, h6, h7⟩
theorem PairStep.of_bel (h : PairAt w M B bn bw lsN lsR) (hb : Below w.heap.size w w') : PairStep w w' M B bn bw lsN lsR :=
  ⟨M, h.bel hb, Kept.of_bel hb, fun b hb => .inl hb⟩
theorem PairStep.below (h : PairStep w w' M B bn bw lsN lsR) (hM : ∀ b, M b → B ≤ b) (hB : B ≤ w.heap.size) : Below B w w' := by
  obtain ⟨M', h1, h2, h3⟩ := h
  exact h2.below hM hB
theorem PairAt.from_ (h : PairAt w M B bn bw lsN lsR) : ∀ b, M b → B ≤ b := by
  obtain ⟨bl, psN, psR, h1, h2, h3, h4, h5, h6, h7⟩ := h
  exact h1
theorem PairAt.low (h : PairAt w M B bn bw lsN lsR) : B ≤ w.heap.size := by
  have h1 := h.from_ bn h.mbn.1
  have h2 := h.ms bn h.mbn.1
  omega
theorem PairStep.pre {w0 : World} (hb : Below w0.heap.size w0 w) (h : PairStep w w' M B bn bw lsN lsR) : PairStep w0 w' M B bn bw lsN lsR := by
  obtain ⟨M', h1, h2, h3⟩ := h
  exact ⟨M', h1, (Kept.of_bel hb).trans h2, fun b hb' => (h3 b hb').imp_right (fun h => Nat.le_trans hb.size h)⟩
theorem pair_of_net {bl : Nat} {psN psR psN' : List (LS × Value)} (h1 : ∀ b, M b → B ≤ b) (h2 : bw ≠ bn) (h3 : bw ≠ bl) (h4 : NetAt w M bn bl psN) (h5 : RefAt w M bw psR) (h6 : NetAt w' M bn bl psN') (hk : Kept (NB bn bl) w w') :
    PairStep w w' M B bn bw (psN'.map Prod.fst) (psR.map Prod.fst) := by
  have hmn := h4.2.choose_spec.2.2.1
  have hml := h4.2.choose_spec.2.2.2.1
  exact ⟨M, ⟨bl, psN', psR, h1, h2, h3, h6, h5.kept hk (NB_lt hmn hml) (fun h => by rcases h with h | h; exact h2 h; exact h3 h), rfl, rfl⟩, hk.mono (NB_lt hmn hml), fun b hb => .inl hb⟩
theorem pair_of_new {bl : Nat} {psN psR psN' : List (LS × Value)} (h1 : ∀ b, M b → B ≤ b) (hB : B ≤ w.heap.size) (h2 : bw ≠ bn) (h3 : bw ≠ bl) (h4 : NetAt w M bn bl psN) (h5 : RefAt w M bw psR) (h6 : NetNew w w' M bn bl psN') :
    PairStep w w' M B bn bw (psN'.map Prod.fst) (psR.map Prod.fst) := by
  have hmn := h4.2.choose_spec.2.2.1
  have hml := h4.2.choose_spec.2.2.2.1
  have hmw := h5.2.choose_spec.2.1
  have hww := h5.1 bw hmw
  obtain ⟨bl', hb', hN, hk⟩ := h6
  have hMl : ∀ b, (M b ∨ b = bl') → M b ∨ w.heap.size ≤ b := fun b hb => by
    rcases hb with hb | rfl
    · exact .inl hb
    · rcases hb' with rfl | h
      · exact .inl hml
      · exact .inr h
  have hR : RefAt w' (fun b => M b ∨ b = bl') bw psR := by
    have h6 := h5.kept hk (NB_lt hmn hml) (fun h => by rcases h with h | h; exact h2 h; exact h3 h)
    obtain ⟨hMs, v, hBl, hm1, hs, hl⟩ := h5
    obtain ⟨hMs', v', hBl', hm1', hs', hl'⟩ := h6
    have hv : v' = v := by
      have hB1 := hBl.kept hk (fun h => by rcases h with h | h; exact h2 h; exact h3 h)
      have := hBl'.symm.trans hB1
      simpa using this
    subst hv
    have hsub : ∀ b, (M b ∨ b = bl') → b < w.heap.size → M b := fun b hb hs => (hMl b hb).elim id (fun h => by omega)
    refine ⟨hN.1, v', hBl', .inl hm1, ((hs.mono hsub).kept hk ?_), ((hl.mono hsub).kept hk ?_)⟩
    · exact fun b hb hs => .inl (NB_lt (w := w) hmn hml b hb hs)
    · exact fun b hb hs => .inl (NB_lt (w := w) hmn hml b hb hs)
  refine ⟨_, ⟨bl', psN', psR, fun b hb => ?_, h2, ?_, hN, hR, rfl, rfl⟩, hk.mono (NB_lt hmn hml), hMl⟩
  · rcases hMl b hb with h | h
    · exact h1 b h
    · omega
  · rintro rfl
    rcases hb' with h | h
    · exact h3 h
    · omega
theorem pair_of_ref {bl : Nat} {psN psR psR' : List (LS × Value)} (h1 : ∀ b, M b → B ≤ b) (h2 : bw ≠ bn) (h3 : bw ≠ bl) (h4 : NetAt w M bn bl psN) (h5 : RefAt w M bw psR) (h6 : RefAt w' M bw psR') (hk : Kept (fun b => b = bw) w w') :
    PairStep w w' M B bn bw (psN.map Prod.fst) (psR'.map Prod.fst) := by
  have hmw := h5.2.choose_spec.2.1
  exact ⟨M, ⟨bl, psN, psR', h1, h2, h3, h4.kept hk (fun b hb _ => hb ▸ hmw) (fun h => h2 h.symm) (fun h => h3 h.symm), h6, rfl, rfl⟩, hk.mono (fun b hb _ => hb ▸ hmw), fun b hb => .inl hb⟩
theorem pair_new (hB : Blk w bn 28 [.slice none 0 0]) (hW : Blk w bw 46 [.slice none 0 0]) (h1 : B ≤ bn) (h2 : B ≤ bw) : ∃ M, PairAt w M B bn bw [] [] := by
  have hne : bw ≠ bn := by
    rintro rfl
    have := hB.symm.trans hW
    simp at this
  refine ⟨fun b => b = bn ∨ b = bw, bn, [], [], fun b hb => by rcases hb with rfl | rfl <;> assumption, hne, hne, ⟨fun b hb => ?_, _, hB, OwnK.nil, .inl rfl, .inl rfl, fun p hp => by cases hp⟩, ⟨fun b hb => ?_, _, hW, .inr rfl, SlA.nil, fun p hp => by cases hp⟩, rfl, rfl⟩
  · rcases hb with rfl | rfl
    · exact hB.lt
    · exact hW.lt
  · rcases hb with rfl | rfl
    · exact hB.lt
    · exact hW.lt
/-! the calls -/
theorem psend (h : PairAt w M B bn bw lsN lsR) (hps : lsN.length ≤ 1000000) (to : Int) (bv : Value) (l : List UInt8) (hs : Bs w bv l) (hl : l.length ≤ 140737488355328) :
    Ret Try.prog 10 [.pointer (some ⟨bn, 0, none⟩), .int .u64 to, bv].toArray w fun v w' => v = .int .i64 0 ∧ PairStep w w' M B bn bw (lsN ++ [⟨to, l, false⟩]) lsR := by
  have hlow := h.low
  obtain ⟨bl, psN, psR, h1, h2, h3, h4, h5, rfl, rfl⟩ := h
  refine (send_ret w M bn bl psN h4 (by simpa using hps) to bv l hs hl).mono ?_
  rintro v w' ⟨rfl, fv, hn⟩
  have := pair_of_new h1 hlow h2 h3 h4 h5 hn
  exact ⟨rfl, by simpa using this⟩
theorem psendR (h : PairAt w M B bn bw lsN lsR) (hps : lsR.length ≤ 1000000) (to : Int) (bv : Value) (l : List UInt8) (hs : Bs w bv l) (hl : l.length ≤ 140737488355328) :
    Ret Try.prog 18 [.pointer (some ⟨bw, 0, none⟩), .int .u64 to, bv].toArray w fun v w' => v = .tuple #[] ∧ PairStep w w' M B bn bw lsN (lsR ++ [⟨to, l, false⟩]) := by
  obtain ⟨bl, psN, psR, h1, h2, h3, h4, h5, rfl, rfl⟩ := h
  refine (rsend_ret w M bw psR h5 (by simpa using hps) to bv l hs hl).mono ?_
  rintro v w' ⟨rfl, fv, hn, hk⟩
  have := pair_of_ref h1 h2 h3 h4 h5 hn hk
  exact ⟨rfl, by simpa using this⟩
theorem pdrop_out (h : PairAt w M B bn bw lsN lsR) (i : Int) (hi : ¬ (0 ≤ i ∧ i < lsN.length)) : Ret Try.prog 11 [.pointer (some ⟨bn, 0, none⟩), .int .i64 i].toArray w fun v w' => v = .int .i64 17 ∧ Below w.heap.size w w' := by
  obtain ⟨bl, psN, psR, h1, h2, h3, h4, h5, rfl, rfl⟩ := h
  exact drop_out w M bn bl psN h4 i (by simpa using hi)
theorem pdrop_in (h : PairAt w M B bn bw lsN lsR) (i : Nat) (hi : i < lsN.length) : Ret Try.prog 11 [.pointer (some ⟨bn, 0, none⟩), .int .i64 (i : Int)].toArray w fun v w' => v = .int .i64 0 ∧ PairStep w w' M B bn bw (lsN.eraseIdx i) lsR := by
  obtain ⟨bl, psN, psR, h1, h2, h3, h4, h5, rfl, rfl⟩ := h
  refine (drop_in w M bn bl psN h4 i (by simpa using hi)).mono ?_
  rintro v w' ⟨rfl, hn, hk⟩
  have := pair_of_net h1 h2 h3 h4 h5 hn hk
  exact ⟨rfl, by rw [map_erase] at this; exact this⟩
theorem pdropR_out (h : PairAt w M B bn bw lsN lsR) (i : Int) (hi : ¬ (0 ≤ i ∧ i < lsR.length)) : Ret Try.prog 38 [.pointer (some ⟨bw, 0, none⟩), .int .i64 i].toArray w fun v w' => v = .int .i64 17 ∧ w = w' := by
  obtain ⟨bl, psN, psR, h1, h2, h3, h4, h5, rfl, rfl⟩ := h
  exact rdrop_out w M bw psR h5 i (by simpa using hi)
theorem pdropR_in (h : PairAt w M B bn bw lsN lsR) (hps : lsR.length ≤ 1000000) (i : Nat) (hi : i < lsR.length) : Ret Try.prog 38 [.pointer (some ⟨bw, 0, none⟩), .int .i64 (i : Int)].toArray w fun v w' => v = .int .i64 0 ∧ PairStep w w' M B bn bw lsN (lsR.eraseIdx i) := by
  obtain ⟨bl, psN, psR, h1, h2, h3, h4, h5, rfl, rfl⟩ := h
  refine (rdrop_in w M bw psR h5 (by simpa using hps) i (by simpa using hi)).mono ?_
  rintro v w' ⟨rfl, hn, hk⟩
  have := pair_of_ref h1 h2 h3 h4 h5 hn hk
  exact ⟨rfl, by rw [map_erase] at this; exact this⟩
theorem pdouble_out (h : PairAt w M B bn bw lsN lsR) (i : Int) (hi : ¬ (0 ≤ i ∧ i < lsN.length)) : Ret Try.prog 14 [.pointer (some ⟨bn, 0, none⟩), .int .i64 i].toArray w fun v w' => v = .int .i64 17 ∧ Below w.heap.size w w' := by
  obtain ⟨bl, psN, psR, h1, h2, h3, h4, h5, rfl, rfl⟩ := h
  exact double_out w M bn bl psN h4 i (by simpa using hi)
theorem pdouble_in (h : PairAt w M B bn bw lsN lsR) (hps : lsN.length ≤ 1000000) (i : Nat) (hi : i < lsN.length) : Ret Try.prog 14 [.pointer (some ⟨bn, 0, none⟩), .int .i64 (i : Int)].toArray w fun v w' => v = .int .i64 0 ∧ PairStep w w' M B bn bw (lsN ++ [lsN[i]]) lsR := by
  have hlow := h.low
  obtain ⟨bl, psN, psR, h1, h2, h3, h4, h5, rfl, rfl⟩ := h
  refine (double_in w M bn bl psN h4 (by simpa using hps) i (by simpa using hi)).mono ?_
  rintro v w' ⟨rfl, hn⟩
  have := pair_of_new h1 hlow h2 h3 h4 h5 hn
  exact ⟨rfl, by simpa using this⟩
theorem pdoubleR_out (h : PairAt w M B bn bw lsN lsR) (i : Int) (hi : ¬ (0 ≤ i ∧ i < lsR.length)) : Ret Try.prog 39 [.pointer (some ⟨bw, 0, none⟩), .int .i64 i].toArray w fun v w' => v = .int .i64 17 ∧ w = w' := by
  obtain ⟨bl, psN, psR, h1, h2, h3, h4, h5, rfl, rfl⟩ := h
  exact rdouble_out w M bw psR h5 i (by simpa using hi)
theorem pdoubleR_in (h : PairAt w M B bn bw lsN lsR) (hps : lsR.length ≤ 1000000) (i : Nat) (hi : i < lsR.length) : Ret Try.prog 39 [.pointer (some ⟨bw, 0, none⟩), .int .i64 (i : Int)].toArray w fun v w' => v = .int .i64 0 ∧ PairStep w w' M B bn bw lsN (lsR ++ [lsR[i]]) := by
  obtain ⟨bl, psN, psR, h1, h2, h3, h4, h5, rfl, rfl⟩ := h
  refine (rdouble_in w M bw psR h5 (by simpa using hps) i (by simpa using hi)).mono ?_
  rintro v w' ⟨rfl, hn, hk⟩
  have := pair_of_ref h1 h2 h3 h4 h5 hn hk
  exact ⟨rfl, by simpa using this⟩
theorem pat_out (h : PairAt w M B bn bw lsN lsR) (i : Int) (hi : ¬ (0 ≤ i ∧ i < lsN.length)) : Ret Try.prog 15 [.pointer (some ⟨bn, 0, none⟩), .int .i64 i].toArray w fun v w' => v = .tuple #[.agg (encL zeroL).toArray, .int .i64 17] ∧ Below w.heap.size w w' := by
  obtain ⟨bl, psN, psR, h1, h2, h3, h4, h5, rfl, rfl⟩ := h
  exact at_out w M bn bl psN h4 i (by simpa using hi)
theorem pat_in (h : PairAt w M B bn bw lsN lsR) (i : Nat) (hi : i < lsN.length) : Ret Try.prog 15 [.pointer (some ⟨bn, 0, none⟩), .int .i64 (i : Int)].toArray w fun v w' => (∃ fv, v = .tuple #[.agg (encL (lsN[i], fv)).toArray, .int .i64 0] ∧ Own w' w.heap.size fv lsN[i].bs) ∧ Below w.heap.size w w' := by
  obtain ⟨bl, psN, psR, h1, h2, h3, h4, h5, rfl, rfl⟩ := h
  have := at_in w M bn bl psN h4 i (by simpa using hi)
  simpa using this
theorem ptake_out (h : PairAt w M B bn bw lsN lsR) (i : Int) (hi : ¬ (0 ≤ i ∧ i < lsN.length)) : Ret Try.prog 23 [.pointer (some ⟨bn, 0, none⟩), .int .i64 i].toArray w fun v w' => v = .tuple #[.agg (encL zeroL).toArray, .int .i64 17] ∧ Below w.heap.size w w' := by
  obtain ⟨bl, psN, psR, h1, h2, h3, h4, h5, rfl, rfl⟩ := h
  exact take_out w M bn bl psN h4 i (by simpa using hi)
theorem ptake_in (h : PairAt w M B bn bw lsN lsR) (i : Nat) (hi : i < lsN.length) : Ret Try.prog 23 [.pointer (some ⟨bn, 0, none⟩), .int .i64 (i : Int)].toArray w fun v w' => (∃ fv, v = .tuple #[.agg (encL (lsN[i], fv)).toArray, .int .i64 0] ∧ Own w' w.heap.size fv lsN[i].bs) ∧ PairStep w w' M B bn bw (lsN.eraseIdx i) lsR := by
  obtain ⟨bl, psN, psR, h1, h2, h3, h4, h5, rfl, rfl⟩ := h
  refine (take_in w M bn bl psN h4 i (by simpa using hi)).mono ?_
  rintro v w' ⟨⟨fv, rfl, ho⟩, hn, hk⟩
  have := pair_of_net h1 h2 h3 h4 h5 hn hk
  exact ⟨⟨fv, by simp, by simpa using ho⟩, by rw [map_erase] at this; exact this⟩
theorem plen (h : PairAt w M B bn bw lsN lsR) : Ret Try.prog 24 [.pointer (some ⟨bn, 0, none⟩)].toArray w fun v w' => v = .int .i64 (lsN.length : Int) ∧ w = w' := by
  obtain ⟨bl, psN, psR, h1, h2, h3, h4, h5, rfl, rfl⟩ := h
  have := len_ret w M bn bl psN h4
  simpa using this
theorem pcount (h : PairAt w M B bn bw lsN lsR) (x : Int) : Ret Try.prog 25 [.pointer (some ⟨bn, 0, none⟩), .int .u64 x].toArray w fun v w' => v = .int .i64 (cntS x lsN : Int) ∧ Below w.heap.size w w' := by
  obtain ⟨bl, psN, psR, h1, h2, h3, h4, h5, rfl, rfl⟩ := h
  exact count_ret w M bn bl psN h4 x
theorem pcountR (h : PairAt w M B bn bw lsN lsR) (x : Int) : Ret Try.prog 40 [.pointer (some ⟨bw, 0, none⟩), .int .u64 x].toArray w fun v w' => v = .int .i64 (cntS x lsR : Int) ∧ w = w' := by
  obtain ⟨bl, psN, psR, h1, h2, h3, h4, h5, rfl, rfl⟩ := h
  exact rcount_ret w M bw psR h5 x
theorem pis (h : PairAt w M B bn bw lsN lsR) (i : Int) : Ret Try.prog 37 [.pointer (some ⟨bw, 0, none⟩), .int .i64 i].toArray w fun v w' => v = .bool (decide (0 ≤ i ∧ i < lsR.length)) ∧ w = w' := by
  obtain ⟨bl, psN, psR, h1, h2, h3, h4, h5, rfl, rfl⟩ := h
  have := is_ret w M bw psR h5 i
  simpa using this
/-- the list of the document's net, read -/
theorem PairAt.ref (h : PairAt w M B bn bw lsN lsR) : ∃ v psR, Blk w bw 46 [v] ∧ SlK w 3 v psR.length (flat psR) ∧ psR.map Prod.fst = lsR ∧ ∀ k, k < psR.length → Bs w (psR.getD k zeroL).2 (psR.getD k zeroL).1.bs := by
  obtain ⟨bl, psN, psR, h1, h2, h3, h4, h5, rfl, rfl⟩ := h
  obtain ⟨hMs, v, hBl, hm1, hs, hl⟩ := h5
  exact ⟨v, psR, hBl, hs.sl, rfl, lts_of_getD hl⟩
theorem pall (h : PairAt w M B bn bw lsN lsR) (hps : lsN.length ≤ 1000000) : Ret Try.prog 12 [.pointer (some ⟨bn, 0, none⟩)].toArray w fun v w' => (∃ qs, SlK w' 3 v qs.length (flat qs) ∧ qs.map Prod.fst = lsN ∧ ∀ k, k < qs.length → Bs w' (qs.getD k zeroL).2 (qs.getD k zeroL).1.bs) ∧ Below w.heap.size w w' := by
  obtain ⟨bl, psN, psR, h1, h2, h3, h4, h5, rfl, rfl⟩ := h
  refine (all_ret w M bn bl psN h4 (by simpa using hps)).mono ?_
  rintro v w' ⟨⟨b, qs, hb, ho, hm, hq⟩, hbel⟩
  have hl : qs.length = psN.length := by have := congrArg List.length hm; simpa using this
  refine ⟨⟨qs, by rw [hl]; exact ho.sl, hm, fun k hk => ?_⟩, hbel⟩
  have hqq := hq qs[k] (List.getElem_mem hk)
  obtain ⟨B', _, hO⟩ := hqq
  simp only [List.getD_eq_getElem?_getD, List.getElem?_eq_getElem hk, Option.getD_some]
  exact hO.bs
/-! what becomes of the list -/
def inS (ls : List LS) (i : Int) : Prop := 0 ≤ i ∧ i < ls.length
instance (ls : List LS) (i : Int) : Decidable (inS ls i) := inferInstanceAs (Decidable (_ ∧ _))
def zeroS : LS := ⟨0, [], false⟩
def dropS (ls : List LS) (i : Int) : List LS × Int := if inS ls i then (ls.eraseIdx i.toNat, 0) else (ls, 17)
def doubleS (ls : List LS) (i : Int) : List LS × Int := if inS ls i then (ls ++ [ls.getD i.toNat zeroS], 0) else (ls, 17)
def spoil1 (l : LS) (at' : Int) (m : UInt8) : LS × Int := if (spoilOf l.bs at' m).2 = 0 then (if l.sp then (l, 13) else (⟨l.to, (spoilOf l.bs at' m).1, true⟩, 0)) else (l, (spoilOf l.bs at' m).2)
def spoilS (ls : List LS) (i at' : Int) (m : UInt8) : List LS × Int := if inS ls i then (if (spoil1 (ls.getD i.toNat zeroS) at' m).2 = 0 then (ls.set i.toNat (spoil1 (ls.getD i.toNat zeroS) at' m).1, 0) else (ls, (spoil1 (ls.getD i.toNat zeroS) at' m).2)) else (ls, 17)
theorem inS_nat {ls : List LS} {i : Int} (h : inS ls i) : ∃ j : Nat, i = (j : Int) ∧ j < ls.length := ⟨i.toNat, (Int.toNat_of_nonneg h.1).symm, by have := h.2; have := h.1; omega⟩
theorem getS {ls : List LS} {j : Nat} (h : j < ls.length) : ls.getD j zeroS = ls[j] := by simp [h]
theorem spoilOf_code (l : List UInt8) (at' : Int) (m : UInt8) : (spoilOf l at' m).2 = 0 ∨ (spoilOf l at' m).2 = 2 ∨ (spoilOf l at' m).2 = 17 := by
  rcases spoil_cases l at' m with ⟨-, h2⟩ | ⟨-, -, h2⟩ | ⟨j, -, -, -, h2⟩ <;> rw [h2] <;> simp
theorem pdrop (h : PairAt w M B bn bw lsN lsR) (i : Int) : Ret Try.prog 11 [.pointer (some ⟨bn, 0, none⟩), .int .i64 i].toArray w fun v w' => v = .int .i64 (dropS lsN i).2 ∧ PairStep w w' M B bn bw (dropS lsN i).1 lsR := by
  unfold dropS
  by_cases hi : inS lsN i
  · rw [if_pos hi]
    have hqq := inS_nat hi
    obtain ⟨j, rfl, hj⟩ := hqq
    exact pdrop_in h j hj
  · rw [if_neg hi]
    exact (pdrop_out h i hi).mono fun v w' ⟨h1, h2⟩ => ⟨h1, .of_bel h h2⟩
theorem pdropR (h : PairAt w M B bn bw lsN lsR) (hps : lsR.length ≤ 1000000) (i : Int) : Ret Try.prog 38 [.pointer (some ⟨bw, 0, none⟩), .int .i64 i].toArray w fun v w' => v = .int .i64 (dropS lsR i).2 ∧ PairStep w w' M B bn bw lsN (dropS lsR i).1 := by
  unfold dropS
  by_cases hi : inS lsR i
  · rw [if_pos hi]
    have hqq := inS_nat hi
    obtain ⟨j, rfl, hj⟩ := hqq
    exact pdropR_in h hps j hj
  · rw [if_neg hi]
    refine (pdropR_out h i hi).mono ?_
    rintro v w' ⟨rfl, rfl⟩
    exact ⟨rfl, .of_bel h (Below.refl _ _)⟩
theorem pdouble (h : PairAt w M B bn bw lsN lsR) (hps : lsN.length ≤ 1000000) (i : Int) : Ret Try.prog 14 [.pointer (some ⟨bn, 0, none⟩), .int .i64 i].toArray w fun v w' => v = .int .i64 (doubleS lsN i).2 ∧ PairStep w w' M B bn bw (doubleS lsN i).1 lsR := by
  unfold doubleS
  by_cases hi : inS lsN i
  · rw [if_pos hi]
    have hqq := inS_nat hi
    obtain ⟨j, rfl, hj⟩ := hqq
    rw [Int.toNat_natCast, getS hj]
    exact pdouble_in h hps j hj
  · rw [if_neg hi]
    exact (pdouble_out h i hi).mono fun v w' ⟨h1, h2⟩ => ⟨h1, .of_bel h h2⟩
theorem pdoubleR (h : PairAt w M B bn bw lsN lsR) (hps : lsR.length ≤ 1000000) (i : Int) : Ret Try.prog 39 [.pointer (some ⟨bw, 0, none⟩), .int .i64 i].toArray w fun v w' => v = .int .i64 (doubleS lsR i).2 ∧ PairStep w w' M B bn bw lsN (doubleS lsR i).1 := by
  unfold doubleS
  by_cases hi : inS lsR i
  · rw [if_pos hi]
    have hqq := inS_nat hi
    obtain ⟨j, rfl, hj⟩ := hqq
    rw [Int.toNat_natCast, getS hj]
    exact pdoubleR_in h hps j hj
  · rw [if_neg hi]
    refine (pdoubleR_out h i hi).mono ?_
    rintro v w' ⟨rfl, rfl⟩
    exact ⟨rfl, .of_bel h (Below.refl _ _)⟩
theorem pspoil (h : PairAt w M B bn bw lsN lsR) (i at' : Int) (m : UInt8) : Ret Try.prog 16 [.pointer (some ⟨bn, 0, none⟩), .int .i64 i, .int .i64 at', u8v m].toArray w fun v w' => v = .int .i64 (spoilS lsN i at' m).2 ∧ PairStep w w' M B bn bw (spoilS lsN i at' m).1 lsR := by
  have h' := h
  have hqq := h'
  obtain ⟨bl, psN, psR, h1, h2, h3, h4, h5, rfl, rfl⟩ := hqq
  unfold spoilS
  by_cases hi : inS (psN.map Prod.fst) i
  · rw [if_pos hi]
    have hqq := inS_nat hi
    obtain ⟨j, rfl, hj⟩ := hqq
    have hj' : j < psN.length := by simpa using hj
    rw [Int.toNat_natCast, getS hj, List.getElem_map]
    have hlen := (h4.2.choose_spec.2.2.2.2 psN[j] (List.getElem_mem hj')).2
    unfold spoil1
    rcases hsp : spoilOf psN[j].1.bs at' m with ⟨xs, c⟩
    by_cases hc : c = 0
    · subst hc
      by_cases hs : psN[j].1.sp = true
      · simp only [hs, if_true]
        exact (nspoil_spoilt w M bn bl psN h4 j hj' hs at' m hsp).mono fun v w' ⟨h1, h2⟩ => ⟨h1, .of_bel h h2⟩
      · have hs' : psN[j].1.sp = false := by simpa using hs
        have hxl := spoilOf_len hsp
        simp only [hs', if_true, Bool.false_eq_true, if_false]
        refine (nspoil_ok w M bn bl psN h4 j hj' hs' at' m hsp (by omega)).mono ?_
        rintro v w' ⟨rfl, fv, hn, hk⟩
        have := pair_of_net h1 h2 h3 h4 h5 hn hk
        rw [List.map_set] at this
        exact ⟨rfl, this⟩
    · simp only [hc, if_false]
      exact (nspoil_err hc w M bn bl psN h4 j hj' at' m hsp).mono fun v w' ⟨h1, h2⟩ => ⟨h1, .of_bel h h2⟩
  · rw [if_neg hi]
    exact (nspoil_out w M bn bl psN h4 i (by simpa [inS] using hi) at' m).mono fun v w' ⟨h1, h2⟩ => ⟨h1, .of_bel h h2⟩
theorem pspoilR (h : PairAt w M B bn bw lsN lsR) (hps : lsR.length ≤ 1000000) (i at' : Int) (m : UInt8) : Ret Try.prog 19 [.pointer (some ⟨bw, 0, none⟩), .int .i64 i, .int .i64 at', u8v m].toArray w fun v w' => v = .int .i64 (spoilS lsR i at' m).2 ∧ PairStep w w' M B bn bw lsN (spoilS lsR i at' m).1 := by
  have h' := h
  have hqq := h'
  obtain ⟨bl, psN, psR, h1, h2, h3, h4, h5, rfl, rfl⟩ := hqq
  unfold spoilS
  by_cases hi : inS (psR.map Prod.fst) i
  · rw [if_pos hi]
    have hqq := inS_nat hi
    obtain ⟨j, rfl, hj⟩ := hqq
    have hj' : j < psR.length := by simpa using hj
    rw [Int.toNat_natCast, getS hj, List.getElem_map]
    unfold spoil1
    rcases hsp : spoilOf psR[j].1.bs at' m with ⟨xs, c⟩
    by_cases hc : c = 0
    · subst hc
      by_cases hs : psR[j].1.sp = true
      · simp only [hs, if_true]
        refine (rspoil_spoilt w M bw psR h5 j hj' hs at' m hsp).mono ?_
        rintro v w' ⟨rfl, rfl⟩
        exact ⟨rfl, .of_bel h (Below.refl _ _)⟩
      · have hs' : psR[j].1.sp = false := by simpa using hs
        simp only [hs', if_true, Bool.false_eq_true, if_false]
        refine (rspoil_ok w M bw psR h5 (by simpa using hps) j hj' hs' at' m hsp).mono ?_
        rintro v w' ⟨rfl, fv, hn, hk⟩
        have := pair_of_ref h1 h2 h3 h4 h5 hn hk
        rw [List.map_set] at this
        exact ⟨rfl, this⟩
    · simp only [hc, if_false]
      refine (rspoil_err hc w M bw psR h5 j hj' at' m hsp).mono ?_
      rintro v w' ⟨rfl, rfl⟩
      exact ⟨rfl, .of_bel h (Below.refl _ _)⟩
  · rw [if_neg hi]
    refine (rspoil_out w M bw psR h5 i (by simpa [inS] using hi) at' m).mono ?_
    rintro v w' ⟨rfl, rfl⟩
    exact ⟨rfl, .of_bel h (Below.refl _ _)⟩
end
end Go.Proofs.Ytjlclaimpepgiaa
