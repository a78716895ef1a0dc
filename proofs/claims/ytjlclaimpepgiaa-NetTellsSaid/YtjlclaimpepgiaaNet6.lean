/-
  The document's net: Drop, Double, Spoil, Count.
-/
import Derived.Test.YtjlclaimpepgiaaNet5
import Derived.Test.YtjlclaimpepgiaaBase11
namespace Go.Proofs.Ytjlclaimpepgiaa
open Go Go.RowKit Go.Cx
set_option linter.unusedVariables false
open Crc
theorem lts_of_getD {w : World} {M : Nat → Prop} {ps : List (LS × Value)} (h : Lts w M ps) : ∀ k, k < ps.length → Bs w (ps.getD k zeroL).2 (ps.getD k zeroL).1.bs := fun k hk => lts_getD h hk
theorem erase_step (ps : List (LS × Value)) (i k : Nat) (hk : k < ps.length) : (ps.take (k + 1)).eraseIdx i = if k = i then (ps.take k).eraseIdx i else (ps.take k).eraseIdx i ++ [ps[k]] := by
  rw [List.take_succ_eq_append_getElem hk]
  have hl : (ps.take k).length = k := by simp; omega
  by_cases h : k = i
  · subst h
    rw [if_pos rfl, List.eraseIdx_append_of_length_le (by omega), hl, Nat.sub_self, List.eraseIdx_of_length_le (l := ps.take k) (by omega)]
    simp
  · rw [if_neg h]
    rcases Nat.lt_or_gt_of_ne h with h1 | h1
    · rw [List.eraseIdx_append_of_length_le (by omega), List.eraseIdx_of_length_le (l := ps.take k) (by omega), List.eraseIdx_of_length_le (by simp; omega)]
    · rw [List.eraseIdx_append_of_lt_length (by omega)]
theorem rdrop_out (w : World) (M : Nat → Prop) (bw : Nat) (ps : List (LS × Value)) (h : RefAt w M bw ps) (i : Int) (hi : ¬ (0 ≤ i ∧ i < ps.length)) : Ret Try.prog 38 [.pointer (some ⟨bw, 0, none⟩), .int .i64 i].toArray w fun v w' => v = .int .i64 17 ∧ w = w' := by
  refine Ret.of (n := 37) (rs := #[.tmp 4]) Try.func38 rfl rfl rfl (by simp) ?_
  refine WC.seqR rfl ?_
  refine WL.y rfl (Y.assign) ?_
  refine WL.nil ?_
  refine WC.seq ?_
  refine WC.seqR rfl ?_
  refine WL.y rfl (Y.move) ?_
  refine WL.y rfl (Y.move) ?_
  refine WL.call rfl (C.func go37) (is_no _ M bw ps h i hi) ?_
  rintro _ _ ⟨rfl, rfl⟩
  refine WL.y rfl (Y.not rfl) ?_
  refine WL.nil ?_
  refine WC.condT (rfl) ?_
  refine WC.seqR rfl ?_
  refine WL.y rfl (Y.assign) ?_
  refine WL.nil ?_
  refine WC.ret (thenQ.ret (endQ.one (.inr rfl) ?_))
  exact ⟨rfl, rfl⟩
theorem rdrop_in (w : World) (M : Nat → Prop) (bw : Nat) (ps : List (LS × Value)) (h : RefAt w M bw ps) (hps : ps.length ≤ 1000000) (i : Nat) (hi : i < ps.length) : Ret Try.prog 38 [.pointer (some ⟨bw, 0, none⟩), .int .i64 (i : Int)].toArray w fun v w' => v = .int .i64 0 ∧ RefAt w' M bw (ps.eraseIdx i) ∧ Kept (fun b => b = bw) w w' := by
  have h' := h
  have hqq := h'
  obtain ⟨hMs, u, hB, hm1, hsu, hl0⟩ := hqq
  have hmx : maxLen = 9223372036854775807 := rfl
  have hwb := hMs bw hm1
  refine Ret.of (n := 37) (rs := #[.tmp 4]) Try.func38 rfl rfl rfl (by simp) ?_
  refine WC.seqR rfl ?_
  refine WL.y rfl (Y.assign) ?_
  refine WL.nil ?_
  refine WC.seq ?_
  refine WC.seqR rfl ?_
  refine WL.y rfl (Y.move) ?_
  refine WL.y rfl (Y.move) ?_
  refine WL.call rfl (C.func go37) (is_yes _ M bw ps h (i : Int) ⟨by omega, by omega⟩) ?_
  rintro _ _ ⟨rfl, rfl⟩
  refine WL.y rfl (Y.not rfl) ?_
  refine WL.nil ?_
  refine WC.condF (rfl) ?_
  refine WC.skip (thenQ.normal ?_)
  refine WC.seqR rfl ?_
  refine WL.y rfl (Y.assign) ?_
  refine WL.nil ?_
  refine WC.seq ?_
  refine WC.seqR rfl ?_
  refine WL.y rfl (Y.assign) ?_
  refine WL.nil ?_
  refine WC.block ?_
  refine WC.loop (fun k => ps.length - k) (fun k f ds w' => k ≤ ps.length ∧ ds = [] ∧ Below w.heap.size w w' ∧ (∃ v, f 5 = v ∧ w'.ownsRow w.heap.size 36 3 v ((ps.take k).eraseIdx i).length (flat ((ps.take k).eraseIdx i))) ∧ ∃ J, f = ov J [(0, .pointer (some ⟨bw, 0, none⟩)), (1, .int .i64 (i : Int)), (6, .int .i64 (k : Int))]) 0 ?_ ?_
  · exact ⟨by omega, rfl, Below.refl _ _, ⟨_, rfl, World.ownsRow_nil _ _ _ _⟩, _, ov_mk ⟨rfl, rfl, rfl, trivial⟩⟩
  · rintro k f _ w1 ⟨hk, rfl, hb1, ⟨v, hv, ho1⟩, J, rfl⟩
    have hv : J 5 = v := hv
    have hone : ∀ u ∈ flat ((ps.take k).eraseIdx i), One u = true := encL_one (hl0.sub (fun q hq => List.take_subset _ _ ((List.eraseIdx_sublist _ _).subset hq)))
    have hlk : ((ps.take k).eraseIdx i).length ≤ 1000000 := by
      have := (List.eraseIdx_sublist (ps.take k) i).length_le
      rw [List.length_take] at this
      omega
    refine WC.seq ?_
    refine WC.seqR rfl ?_
    refine WL.y rfl (Y.move) ?_
    refine WL.y rfl (Y.move) ?_
    refine WL.y rfl (Y.nilCheck rfl) ?_
    refine WL.y rfl (Y.fieldAddr fi46f0 ti26 (by decide) rfl (rfl) _) ?_
    refine WL.y rfl (Y.load1 Try.underlying26 rfl rfl ((hB.bel hb1).one)) ?_
    refine WL.y rfl (Y.lenSl Try.underlying26 ((hsu.sl.bel hb1)) _) ?_
    refine WL.y rfl (Y.lss rfl rfl) ?_
    refine WL.nil ?_
    refine WC.condD rfl (fun hlt => ?_) (fun hlt => ?_)
    · have hkl : k < ps.length := by omega
      have hst := erase_step ps i k hkl
      have hlp := hl0 ps[k] (List.getElem_mem hkl)
      have hgd : ps.getD k zeroL = ps[k] := by simp [hkl]
      refine WC.skip (thenQ.normal ?_)
      refine WC.seq ?_
      refine WC.block ?_
      refine WC.seqR rfl ?_
      refine WL.y rfl (Y.move) ?_
      refine WL.y rfl (Y.move) ?_
      refine WL.y rfl (Y.nei rfl rfl) ?_
      refine WL.nil ?_
      refine WC.condD rfl (fun hne => ?_) (fun hne => ?_)
      · have hki : ¬ k = i := by omega
        rw [if_neg hki] at hst
        refine WC.region rfl ?_
        refine WL.y rfl (Y.move) ?_
        refine WL.y rfl (Y.move) ?_
        refine WL.y rfl (Y.nilCheck rfl) ?_
        refine WL.y rfl (Y.fieldAddr fi46f0 ti26 (by decide) rfl (rfl) _) ?_
        refine WL.y rfl (Y.load1 Try.underlying26 rfl rfl ((hB.bel hb1).one)) ?_
        refine WL.y rfl (Y.move) ?_
        refine WL.yex rfl (Y.idxF (enc := encL) zeroL encL_len (by decide) Try.underlying26 ti36 (hsu.sl.bel hb1) rfl (by omega) (by omega)) ?_
        rintro _ ⟨b29, o29, rfl, hc29⟩
        simp only [Int.toNat_natCast, hgd] at hc29
        refine WL.y rfl (Y.loadN Try.underlying36 rfl ti36 rfl (hc29)) ?_
        refine WL.eex rfl (E.buildSliceX (len := 1) (cs := encL ps[k]) Try.underlying26 ti36 (by omega) (by omega) (by kernel_rfl) rfl) ?_
        rintro _ w31 ⟨rfl, ho31, hb31, -⟩
        have k31 := Below.step hb1 hb31
        refine WL.eex rfl (E.append (n := ((ps.take k).eraseIdx i).length) Try.underlying26 ti36 rfl (by decide) (show World.ownsRow _ _ _ _ (J 5) _ _ from hv ▸ (ownsRow_bel ho1 hb31)) (ownsRow_sl ho31) (one_enc hlp.1.one) (by omega) (by omega) (Nat.le_trans hb1.size hb31.size)) ?_
        rintro v32 w32 ⟨ho32, hb32, -⟩
        have k32 := k31.trans hb32
        refine WL.y rfl (Y.assign) ?_
        refine WL.nil (inBlockQ.normal (thenQ.normal ?_))
        refine WC.region rfl ?_
        refine WL.y rfl (Y.move) ?_
        refine WL.y rfl (Y.add64 rfl rfl (by omega)) ?_
        refine WL.y rfl (Y.assign) ?_
        refine WL.nil (thenQ.normal ?_)
        refine ⟨k + 1, by omega, by omega, rfl, (hb1.trans (hb31.mono hb1.size)).trans hb32, ⟨_, rfl, ?_⟩, _, ov_mk ⟨rfl, rfl, rfl, trivial⟩⟩
        rw [hst, List.length_append, flat_app]
        exact ho32
      · have hki : k = i := by omega
        rw [if_pos hki] at hst
        refine WC.skip (inBlockQ.normal (thenQ.normal ?_))
        refine WC.region rfl ?_
        refine WL.y rfl (Y.move) ?_
        refine WL.y rfl (Y.add64 rfl rfl (by omega)) ?_
        refine WL.y rfl (Y.assign) ?_
        refine WL.nil (thenQ.normal ?_)
        refine ⟨k + 1, by omega, by omega, rfl, hb1, ⟨_, rfl, ?_⟩, _, ov_mk ⟨rfl, rfl, rfl, trivial⟩⟩
        rw [hst]
        subst hv
        exact ho1
    · have hkl : k = ps.length := by omega
      subst hkl
      rw [List.take_length] at ho1
      subst hv
      refine WC.exit (thenQ.exit (thenQ.exit (inBlockQ.hit (thenQ.normal ?_))))
      refine WC.seqR rfl ?_
      refine WL.y rfl (Y.move) ?_
      refine WL.y rfl (Y.move) ?_
      refine WL.y rfl (Y.nilCheck rfl) ?_
      refine WL.y rfl (Y.fieldAddr fi46f0 ti26 (by decide) rfl (rfl) _) ?_
      refine WL.eex rfl (E.storeX (u := J 5) ti26 rfl rfl (ownsRow_sl ho1).one (hB.bel hb1) (by simp)) ?_
      rintro _ w34 ⟨hB34, hg34, -⟩
      refine WL.nil ?_
      refine WC.seqR rfl ?_
      refine WL.y rfl (Y.assign) ?_
      refine WL.nil ?_
      refine WC.ret (endQ.one (.inr rfl) ?_)
      have hk34 : Kept (fun b => b = bw) w w34 := (Kept.of_bel hb1).trans (Kept.of_grown hg34 rfl)
      exact ⟨rfl, ⟨fun b hb => Nat.lt_of_lt_of_le (hMs b hb) hk34.size, _, hB34, hm1, SlA.of_own (own_grown ho1 hg34 hwb) (fun b hb _ => hMs b hb), (hl0.sub (fun q hq => (List.eraseIdx_sublist _ _).subset hq)).kept hk34 (fun b hb _ => hb ▸ hm1)⟩, hk34⟩
theorem rdouble_out (w : World) (M : Nat → Prop) (bw : Nat) (ps : List (LS × Value)) (h : RefAt w M bw ps) (i : Int) (hi : ¬ (0 ≤ i ∧ i < ps.length)) : Ret Try.prog 39 [.pointer (some ⟨bw, 0, none⟩), .int .i64 i].toArray w fun v w' => v = .int .i64 17 ∧ w = w' := by
  refine Ret.of (n := 26) (rs := #[.tmp 4]) Try.func39 rfl rfl rfl (by simp) ?_
  refine WC.seqR rfl ?_
  refine WL.y rfl (Y.assign) ?_
  refine WL.nil ?_
  refine WC.seq ?_
  refine WC.seqR rfl ?_
  refine WL.y rfl (Y.move) ?_
  refine WL.y rfl (Y.move) ?_
  refine WL.call rfl (C.func go37) (is_no _ M bw ps h i hi) ?_
  rintro _ _ ⟨rfl, rfl⟩
  refine WL.y rfl (Y.not rfl) ?_
  refine WL.nil ?_
  refine WC.condT (rfl) ?_
  refine WC.seqR rfl ?_
  refine WL.y rfl (Y.assign) ?_
  refine WL.nil ?_
  refine WC.ret (thenQ.ret (endQ.one (.inr rfl) ?_))
  exact ⟨rfl, rfl⟩
theorem rdouble_in (w : World) (M : Nat → Prop) (bw : Nat) (ps : List (LS × Value)) (h : RefAt w M bw ps) (hps : ps.length ≤ 1000000) (i : Nat) (hi : i < ps.length) : Ret Try.prog 39 [.pointer (some ⟨bw, 0, none⟩), .int .i64 (i : Int)].toArray w fun v w' => v = .int .i64 0 ∧ RefAt w' M bw (ps ++ [ps[i]]) ∧ Kept (fun b => b = bw) w w' := by
  have h' := h
  have hqq := h'
  obtain ⟨hMs, u, hB, hm1, hsu, hl0⟩ := hqq
  have hmx : maxLen = 9223372036854775807 := rfl
  have hwb := hMs bw hm1
  have hlp := hl0 ps[i] (List.getElem_mem hi)
  have hgd : ps.getD i zeroL = ps[i] := by simp [hi]
  have e : flat ps ++ encL ps[i] = flat (ps ++ [ps[i]]) := by rw [flat_app]; simp [flat]
  have fin : ∀ (w23 w24 : World) (v23 : Value), Below w.heap.size w w23 → w23.grownBy w24 (some bw) → Blk w24 bw 46 [v23] → w23.ownsRow w.heap.size 36 3 v23 (ps.length + 1) (flat ps ++ encL ps[i]) → RefAt w24 M bw (ps ++ [ps[i]]) ∧ Kept (fun b => b = bw) w w24 := by
    intro w23 w24 v23 k23 hg24 hB24 ho23
    have hk24 : Kept (fun b => b = bw) w w24 := (Kept.of_bel k23).trans (Kept.of_grown hg24 rfl)
    rw [e] at ho23
    refine ⟨⟨fun b hb => Nat.lt_of_lt_of_le (hMs b hb) hk24.size, v23, hB24, hm1, ?_, (Lts.append hl0 (hl0.sub (fun q hq => ?_))).kept hk24 (fun b hb _ => hb ▸ hm1)⟩, hk24⟩
    · have := SlA.of_own (M := M) (own_grown ho23 hg24 hwb) (fun b hb _ => hMs b hb)
      simpa using this
    · obtain rfl : q = ps[i] := by simpa using hq
      exact List.getElem_mem hi
  refine Ret.of (n := 26) (rs := #[.tmp 4]) Try.func39 rfl rfl rfl (by simp) ?_
  refine WC.seqR rfl ?_
  refine WL.y rfl (Y.assign) ?_
  refine WL.nil ?_
  refine WC.seq ?_
  refine WC.seqR rfl ?_
  refine WL.y rfl (Y.move) ?_
  refine WL.y rfl (Y.move) ?_
  refine WL.call rfl (C.func go37) (is_yes _ M bw ps h (i : Int) ⟨by omega, by omega⟩) ?_
  rintro _ _ ⟨rfl, rfl⟩
  refine WL.y rfl (Y.not rfl) ?_
  refine WL.nil ?_
  refine WC.condF (rfl) ?_
  refine WC.skip (thenQ.normal ?_)
  refine WC.seq ?_
  refine WC.regionTB (fun i => Nat.beq i 14 || Nat.beq i 17) (.one 0 .any (.one 1 .any (.one 2 .any (.one 3 .any (.one 4 .held (.one 6 .any (.one 7 .any (.one 8 .any (.one 9 .held (.one 10 .any (.one 11 .any (.one 12 .held (.two 5 13 (.one 13 .seq (.one 14 .seq (.one 15 .any (.one 16 .any (.one 17 .seq .nil))))) (.one 5 .seq (.one 14 .seq (.one 15 .any (.one 16 .any (.one 17 .seq .nil)))))))))))))))))) mixed (by kernel_rfl) (fun wr3 hS3 hheap => ?_)
  have kr3 := hS3
  refine RT.any rfl rfl (fun _ => Y.move) ?_
  refine RT.any rfl rfl (fun _ => Y.move) ?_
  refine RT.any rfl rfl (fun _ => Y.nilCheck rfl) ?_
  refine RT.any rfl rfl (fun _ => Y.fieldAddr fi46f0 ti26 (by decide) rfl (rfl) _) ?_
  refine RT.held rfl rfl hS3 (fun _ hb9 => Y.load1 Try.underlying26 rfl rfl (cell_bel hB.one hb9)) ?_
  refine RT.any rfl rfl (fun _ => Y.move) ?_
  refine RT.any rfl rfl (fun _ => Y.nilCheck rfl) ?_
  refine RT.any rfl rfl (fun _ => Y.fieldAddr fi46f0 ti26 (by decide) rfl (rfl) _) ?_
  refine RT.held rfl rfl hS3 (fun _ hb9 => Y.load1 Try.underlying26 rfl rfl (cell_bel hB.one hb9)) ?_
  refine RT.any rfl rfl (fun _ => Y.move) ?_
  refine RT.yex rfl rfl (Y.idxF (enc := encL) zeroL encL_len (by decide) Try.underlying26 ti36 hsu.sl rfl (by omega) (by omega)) ?_
  rintro _ ⟨b20, o20, rfl, hc20⟩
  simp only [Int.toNat_natCast, hgd] at hc20
  refine RT.held rfl rfl hS3 (fun _ hb9 => Y.loadN Try.underlying36 rfl ti36 rfl (hc20.bel hb9)) ?_
  refine RT.two ?_ ?_
  · refine RT.eex rfl rfl (E.append Try.underlying26 ti36 rfl (by decide) (World.ownsRow_nil _ w.heap.size _ 3) (hsu.sl.bel kr3) (encL_one hl0) (by omega) (by omega) (kr3).size) ?_ ?_
    · exact fun _ _ h9 => .inr (fun h => h.trans h9.2.1)
    rintro v14 w14 ⟨ho14, hb14, hg14⟩ 
    have k14 := kr3.trans hb14
    have hb14' := below_of_grown hg14 (Nat.le_refl _) (fun k e => by cases e)
    rw [Nat.zero_add, List.nil_append] at ho14
    refine RT.eex rfl rfl (E.buildSliceX (len := 1) (cs := encL ps[i]) Try.underlying26 ti36 (by omega) (by omega) (by kernel_rfl) rfl) ?_ ?_
    · exact fun _ _ h9 => .inr (fun h => Below.step h h9.2.2.1)
    rintro _ w22 ⟨rfl, ho22, hb22, -⟩ 
    have k22 := Below.step k14 hb22
    refine RT.eex rfl rfl (E.append Try.underlying26 ti36 rfl (by decide) (by first | exact ho14 | exact ownsRow_bel ho14 hb22) (by first | exact ownsRow_sl ho22 | exact (ownsRow_sl ho22).bel hb14') (one_enc hlp.1.one) (by omega) (by omega) (k22).size) ?_ ?_
    · exact fun _ _ _ => .inl rfl
    rintro v23 w23 ⟨ho23, hb23, -⟩
    have k23 := k22.trans hb23
    refine RT.any rfl rfl (fun _ => Y.nilCheck rfl) ?_
    refine RT.any rfl rfl (fun _ => Y.fieldAddr fi46f0 ti26 (by decide) rfl (rfl) _) ?_
    refine RT.eex rfl rfl (E.storeX (u := v23) ti26 rfl rfl (ownsRow_sl ho23).one (hB.belB k23 hwb) (by simp)) ?_ ?_
    · exact fun _ _ _ => .inl rfl
    rintro _ w24 ⟨hB24, hg24, -⟩
    refine RT.nil (thenQ.normal ?_)
    refine WC.seqR rfl ?_
    refine WL.y rfl (Y.assign) ?_
    refine WL.nil ?_
    refine WC.ret (endQ.one (.inr rfl) ?_)
    exact ⟨rfl, fin _ _ _ k23 hg24 hB24 ho23⟩
  · refine RT.eex rfl rfl (E.buildSliceX (len := 1) (cs := encL ps[i]) Try.underlying26 ti36 (by omega) (by omega) (by kernel_rfl) rfl) ?_ ?_
    · exact fun _ _ h9 => .inr (fun h => Below.step h h9.2.2.1)
    rintro _ w22 ⟨rfl, ho22, hb22, -⟩ 
    have k22 := Below.step kr3 hb22
    refine RT.eex rfl rfl (E.append Try.underlying26 ti36 rfl (by decide) (World.ownsRow_nil _ w.heap.size _ 3) (hsu.sl.bel k22) (encL_one hl0) (by omega) (by omega) (k22).size) ?_ ?_
    · exact fun _ _ h9 => .inr (fun h => h.trans h9.2.1)
    rintro v14 w14 ⟨ho14, hb14, hg14⟩ 
    have k14 := k22.trans hb14
    have hb14' := below_of_grown hg14 (Nat.le_refl _) (fun k e => by cases e)
    rw [Nat.zero_add, List.nil_append] at ho14
    refine RT.eex rfl rfl (E.append Try.underlying26 ti36 rfl (by decide) (by first | exact ho14 | exact ownsRow_bel ho14 hb22) (by first | exact ownsRow_sl ho22 | exact (ownsRow_sl ho22).bel hb14') (one_enc hlp.1.one) (by omega) (by omega) (k14).size) ?_ ?_
    · exact fun _ _ _ => .inl rfl
    rintro v23 w23 ⟨ho23, hb23, -⟩
    have k23 := k14.trans hb23
    refine RT.any rfl rfl (fun _ => Y.nilCheck rfl) ?_
    refine RT.any rfl rfl (fun _ => Y.fieldAddr fi46f0 ti26 (by decide) rfl (rfl) _) ?_
    refine RT.eex rfl rfl (E.storeX (u := v23) ti26 rfl rfl (ownsRow_sl ho23).one (hB.belB k23 hwb) (by simp)) ?_ ?_
    · exact fun _ _ _ => .inl rfl
    rintro _ w24 ⟨hB24, hg24, -⟩
    refine RT.nil (thenQ.normal ?_)
    refine WC.seqR rfl ?_
    refine WL.y rfl (Y.assign) ?_
    refine WL.nil ?_
    refine WC.ret (endQ.one (.inr rfl) ?_)
    exact ⟨rfl, fin _ _ _ k23 hg24 hB24 ho23⟩
theorem rcount_ret (w : World) (M : Nat → Prop) (bw : Nat) (ps : List (LS × Value)) (h : RefAt w M bw ps) (x : Int) : Ret Try.prog 40 [.pointer (some ⟨bw, 0, none⟩), .int .u64 x].toArray w fun v w' => v = .int .i64 (cntS x (ps.map Prod.fst) : Int) ∧ w = w' := by
  obtain ⟨hMs, u, hB, hm1, hsu, hl0⟩ := h
  have hln := hsu.sl.len
  refine Ret.of (n := 29) (rs := #[.tmp 4]) Try.func40 rfl rfl rfl (by simp) ?_
  refine WC.seqR rfl ?_
  refine WL.y rfl (Y.assign) ?_
  refine WL.nil ?_
  refine WC.seqR rfl ?_
  refine WL.y rfl (Y.assign) ?_
  refine WL.nil ?_
  refine WC.seq ?_
  refine WC.seqR rfl ?_
  refine WL.y rfl (Y.assign) ?_
  refine WL.nil ?_
  refine WC.block ?_
  refine WC.loop (fun k => ps.length - k) (fun k f ds w' => k ≤ ps.length ∧ ds = [] ∧ w = w' ∧ ∃ J, f = ov J [(0, .pointer (some ⟨bw, 0, none⟩)), (1, .int .u64 x), (5, .int .i64 (cntS x ((ps.take k).map Prod.fst) : Int)), (6, .int .i64 (k : Int))]) 0 ?_ ?_
  · exact ⟨by omega, rfl, rfl, _, ov_mk ⟨rfl, rfl, rfl, rfl, trivial⟩⟩
  · rintro k _ _ _ ⟨hk, rfl, rfl, J, rfl⟩
    have hcl := cntS_le x ((ps.take k).map Prod.fst)
    rw [List.length_map, List.length_take] at hcl
    refine WC.seq ?_
    refine WC.seqR rfl ?_
    refine WL.y rfl (Y.move) ?_
    refine WL.y rfl (Y.move) ?_
    refine WL.y rfl (Y.nilCheck rfl) ?_
    refine WL.y rfl (Y.fieldAddr fi46f0 ti26 (by decide) rfl (rfl) _) ?_
    refine WL.y rfl (Y.load1 Try.underlying26 rfl rfl (hB.one)) ?_
    refine WL.y rfl (Y.lenSl Try.underlying26 (hsu.sl) _) ?_
    refine WL.y rfl (Y.lss rfl rfl) ?_
    refine WL.nil ?_
    refine WC.condD rfl (fun hlt => ?_) (fun hlt => ?_)
    · have hkl : k < ps.length := by omega
      have hct := cntS_take x ps k hkl
      refine WC.skip (thenQ.normal ?_)
      refine WC.seq ?_
      refine WC.block ?_
      refine WC.seqR rfl ?_
      refine WL.y rfl (Y.move) ?_
      refine WL.y rfl (Y.nilCheck rfl) ?_
      refine WL.y rfl (Y.fieldAddr fi46f0 ti26 (by decide) rfl (rfl) _) ?_
      refine WL.y rfl (Y.load1 Try.underlying26 rfl rfl (hB.one)) ?_
      refine WL.y rfl (Y.move) ?_
      refine WL.yex rfl (Y.idxF (enc := encL) zeroL encL_len (by decide) Try.underlying26 ti36 hsu.sl rfl (by omega) (by omega)) ?_
      rintro _ ⟨b21, o21, rfl, hc21⟩
      refine WL.y rfl (Y.fieldAddr fi36f0 ti31 (by decide) rfl (rfl) _) ?_
      refine WL.y rfl (Y.load1 Try.underlying31 rfl rfl (hc21 0 (.int .u64 (ps.getD k zeroL).1.to) rfl)) ?_
      refine WL.y rfl (Y.move) ?_
      refine WL.y rfl (Y.eqi rfl rfl) ?_
      refine WL.nil ?_
      refine WC.condD rfl (fun hc => ?_) (fun hc => ?_)
      · refine WC.region rfl ?_
        refine WL.y rfl (Y.move) ?_
        refine WL.y rfl (Y.add64 rfl rfl (by omega)) ?_
        refine WL.y rfl (Y.assign) ?_
        refine WL.nil (inBlockQ.normal (thenQ.normal ?_))
        refine WC.region rfl ?_
        refine WL.y rfl (Y.move) ?_
        refine WL.y rfl (Y.add64 rfl rfl (by omega)) ?_
        refine WL.y rfl (Y.assign) ?_
        refine WL.nil (thenQ.normal ?_)
        refine ⟨k + 1, by omega, by omega, rfl, rfl, _, ov_mk ⟨rfl, rfl, ?_, rfl, trivial⟩⟩
        rw [hct, if_pos hc]; rfl
      · refine WC.skip (inBlockQ.normal (thenQ.normal ?_))
        refine WC.region rfl ?_
        refine WL.y rfl (Y.move) ?_
        refine WL.y rfl (Y.add64 rfl rfl (by omega)) ?_
        refine WL.y rfl (Y.assign) ?_
        refine WL.nil (thenQ.normal ?_)
        refine ⟨k + 1, by omega, by omega, rfl, rfl, _, ov_mk ⟨rfl, rfl, ?_, rfl, trivial⟩⟩
        rw [hct, if_neg hc]; rfl
    · have hkl : k = ps.length := by omega
      subst hkl
      refine WC.exit (thenQ.exit (thenQ.exit (inBlockQ.hit (thenQ.normal ?_))))
      refine WC.seqR rfl ?_
      refine WL.y rfl (Y.move) ?_
      refine WL.y rfl (Y.assign) ?_
      refine WL.nil ?_
      refine WC.ret (endQ.one (.inr rfl) ?_)
      exact ⟨(show Value.int .i64 (cntS x ((ps.take ps.length).map Prod.fst) : Int) = _ by rw [List.take_length]), rfl⟩
end Go.Proofs.Ytjlclaimpepgiaa
