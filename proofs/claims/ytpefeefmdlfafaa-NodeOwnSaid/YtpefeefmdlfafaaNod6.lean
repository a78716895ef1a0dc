/-
  node: Entry, Kids, Shape: walks.
-/
import Derived.Test.YtpefeefmdlfafaaNod5
namespace Go.Proofs.Ytpefeefmdlfafaa
open Go Go.RowKit Go.Cx
set_option linter.unusedVariables false
set_option maxHeartbeats 8000000
def zEn : List Value := strv [] :: vcell V.nil (.slice none 0 0) (.slice none 0 0)
theorem zEn_one : ∀ u ∈ zEn, One u = true := one_strv (one_vcell rfl rfl)
theorem nentry_in {w : World} {M : Nat → Prop} {s : Sh} {b : Nat} (h : NdR w M s b) (i : Nat) (hi : i < s.es.length) : Ret Try.prog 18 [ptr b, .int .i64 (i : Int)].toArray w fun v w' => ∃ c, v = .tuple #[.agg (strv s.es[i].1 :: c).toArray, .bool true] ∧ VW w' (fun b => w.heap.size ≤ b) s.es[i].2 c ∧ Below w.heap.size w w' := by
  have hok := okS_len h.ok
  cases h with
  | @mk _ _ ev kv bs bl hB hm he h1 hkv hs h2 ok =>
  have hqq := he.at
  obtain ⟨lc, a1, a2, a3⟩ := hqq
  have hic : i < lc.length := by omega
  have hml : (strv s.es[i].1 :: lc[i].c).length = 7 := by rw [List.length_cons, lc[i].h]
  have hmo : ∀ u ∈ strv s.es[i].1 :: lc[i].c, One u = true := one_strv (a3 i hi hic).one
  refine Ret.of (n := 36) (rs := #[.cell 4 42, .tmp 5]) Try.func18 rfl rfl rfl (by simp) ?_
  refine WC.seqR rfl ?_
  refine WL.eex rfl (E.allocX ti42) ?_
  rintro _ w4 ⟨rfl, hB4, hb4⟩
  refine WL.y rfl (Y.assign) ?_
  refine WL.nil ?_
  refine WC.seq ?_
  have hx4 : Blk w4 w.heap.size 42 zEn := hB4
  have l4 := hx4.lt
  have hB' := hB.bel hb4
  clear hB4
  refine WC.seqR rfl ?_
  refine WL.y rfl (Y.move) ?_
  refine WL.y rfl (Y.bF (Y.eqpn Try.underlying29 rfl rfl) (rfl)) ?_
  refine WL.y rfl (Y.move) ?_
  refine WL.y rfl (Y.move) ?_
  refine WL.y rfl (Y.dF (Y.lss rfl rfl) (by omega)) ?_
  refine WL.y rfl (Y.pickF rfl) ?_
  refine WL.y rfl (Y.move) ?_
  refine WL.y rfl (Y.move) ?_
  refine WL.y rfl (Y.move) ?_
  refine WL.y rfl (Y.nilCheck rfl) ?_
  refine WL.y rfl (Y.fieldAddr fi61f0 ti22 (by decide) rfl (rfl) _) ?_
  refine WL.y rfl (Y.load1 Try.underlying22 rfl rfl (hB'.cell 0)) ?_
  refine WL.y rfl (Y.lenSl Try.underlying22 (a2.bel hb4) _) ?_
  refine WL.y rfl (Y.dF (Y.geq rfl rfl) (by omega)) ?_
  refine WL.y rfl (Y.pickF rfl) ?_
  refine WL.nil ?_
  refine WC.condF (rfl) ?_
  refine WC.skip (thenQ.normal ?_)
  refine WC.seqR rfl ?_
  refine WL.y rfl (Y.move) ?_
  refine WL.y rfl (Y.nilCheck rfl) ?_
  refine WL.y rfl (Y.fieldAddr fi61f0 ti22 (by decide) rfl (rfl) _) ?_
  refine WL.y rfl (Y.load1 Try.underlying22 rfl rfl (hB'.cell 0)) ?_
  refine WL.y rfl (Y.move) ?_
  refine WL.yex rfl (Y.idx Try.underlying22 ti42 (by decide) (a2.bel hb4) rfl (by omega) (by omega)) ?_
  rintro _ ⟨b28, o28, rfl, hc28⟩
  refine WL.y rfl (Y.loadK Try.underlying42 rfl ti42 (hml) rfl (elem_ent hi hic (by omega) hc28)) ?_
  refine WL.eex rfl (E.allocX ti42) ?_
  rintro _ w6 ⟨rfl, hB6, hb6⟩
  refine WL.eex rfl (E.storeAllK (us := strv s.es[i].1 :: lc[i].c) ti42 hml rfl rfl hmo hB6 rfl) ?_
  rintro _ w6s ⟨hB6', hg6⟩
  have b6 : Below w4.heap.size w4 w6s := Below.stepG hb6 hg6 (Nat.le_refl _)
  have hx6 := hx4.bel b6
  have k6 := Below.step hb4 b6
  refine WL.nil ?_
  refine WC.seq ?_
  refine WC.regionB (fun i => Nat.beq i 6) [(0, .any), (1, .held), (2, .any), (3, .held), (4, .seq), (5, .any), (6, .seq), (7, .any)] mixed (by kernel_rfl) (fun w4x hS4 hheap => ?_)
  refine RL.any rfl rfl (fun _ => Y.fieldAddr fi42f0 ti9 (by decide) rfl (rfl) _) ?_
  refine RL.held rfl rfl hS4 (fun _ hb9 => Y.load1 Try.underlying9 rfl rfl (cell_bel (hB6'.cell 0) hb9)) ?_
  refine RL.any rfl rfl (fun _ => Y.fieldAddr fi42f1 ti40 (by decide) rfl (rfl) _) ?_
  refine RL.held rfl rfl hS4 (fun _ hb9 => Y.loadK Try.underlying40 rfl ti40 (lc[i].h) rfl (Cells.bel (Cells.tl hB6'.cells) hb9)) ?_
  refine RL.call rfl rfl (C.func go36) (copy_ret s.es[i].2 _ _ (((a3 i hi hic).bel k6).bel hS4)) ?_
  rintro _ w34 ⟨c34, rfl, h34, hb34⟩
  refine ⟨.inr (fun h => Below.step h hb34), ?_⟩
  have hqq := six h34.len
  obtain ⟨p0, p1, p2, p3, p4, p5, rfl⟩ := hqq
  refine RL.any rfl rfl (fun _ => Y.build (cells := (strv s.es[i].1 :: [p0, p1, p2, p3, p4, p5]).toArray) (by kernel_rfl) _) ?_
  refine RL.eex rfl rfl (E.storeAllK (us := strv s.es[i].1 :: [p0, p1, p2, p3, p4, p5]) ti42 rfl rfl rfl (one_strv h34.one) ((hx6.bel hS4).bel hb34) rfl) ?_ ?_
  · exact fun _ _ _ => .inl rfl
  rintro _ w7 ⟨hB7, hg7⟩
  refine RL.any rfl rfl (fun _ => Y.assign) ?_
  refine RL.nil (thenQ.normal ?_)
  refine WC.ret ?_
  have s6 := b6.size
  have s4 := hS4.size
  have s34 := hb34.size
  have kM : Kept (fun b => b = w.heap.size) w34 w7 := Kept.of_grown hg7 rfl
  exact endQ.cell2 Try.underlying42 rfl ti42 (.inr rfl) rfl hB7.cells ⟨_, rfl, (VW.kept kM (fun b h1 h2 => by omega) h34).mono (fun b _ h => by omega), Below.stepG (Below.step (Below.step k6 hS4) hb34) hg7 (Nat.le_refl _)⟩
theorem nentry_out {w : World} {M : Nat → Prop} {s : Sh} {b : Nat} (h : NdR w M s b) (i : Int) (hi : ¬ (0 ≤ i ∧ i < s.es.length)) : Ret Try.prog 18 [ptr b, .int .i64 i].toArray w fun v w' => v = .tuple #[.agg zEn.toArray, .bool false] ∧ Below w.heap.size w w' := by
  have hok := okS_len h.ok
  cases h with
  | @mk _ _ ev kv bs bl hB hm he h1 hkv hs h2 ok =>
  have hqq := he.at
  obtain ⟨lc, a1, a2, a3⟩ := hqq
  refine Ret.of (n := 36) (rs := #[.cell 4 42, .tmp 5]) Try.func18 rfl rfl rfl (by simp) ?_
  refine WC.seqR rfl ?_
  refine WL.eex rfl (E.allocX ti42) ?_
  rintro _ w4 ⟨rfl, hB4, hb4⟩
  refine WL.y rfl (Y.assign) ?_
  refine WL.nil ?_
  refine WC.seq ?_
  have hx4 : Blk w4 w.heap.size 42 zEn := hB4
  have hB' := hB.bel hb4
  clear hB4
  by_cases c0 : i < 0
  · refine WC.seqR rfl ?_
    refine WL.y rfl (Y.move) ?_
    refine WL.y rfl (Y.bF (Y.eqpn Try.underlying29 rfl rfl) (rfl)) ?_
    refine WL.y rfl (Y.move) ?_
    refine WL.y rfl (Y.move) ?_
    refine WL.y rfl (Y.dT (Y.lss rfl rfl) (by omega)) ?_
    refine WL.y rfl (Y.pickF rfl) ?_
    refine WL.y rfl (Y.move) ?_
    refine WL.off rfl ?_
    refine WL.off rfl ?_
    refine WL.off rfl ?_
    refine WL.off rfl ?_
    refine WL.off rfl ?_
    refine WL.off rfl ?_
    refine WL.off rfl ?_
    refine WL.y rfl (Y.pickT rfl) ?_
    refine WL.nil ?_
    refine WC.condT (rfl) ?_
    refine WC.seqR rfl ?_
    refine WL.y rfl (Y.build (cells := zEn.toArray) (by kernel_rfl) _) ?_
    refine WL.eex rfl (E.storeAllK (us := zEn) ti42 rfl rfl rfl zEn_one hx4 rfl) ?_
    rintro _ w5 ⟨hB5, hg5⟩
    refine WL.y rfl (Y.assign) ?_
    refine WL.nil ?_
    refine WC.ret (thenQ.ret ?_)
    exact endQ.cell2 Try.underlying42 rfl ti42 (.inr rfl) rfl hB5.cells ⟨rfl, Below.stepG hb4 hg5 (Nat.le_refl _)⟩
  · skip
    skip
    refine WC.seqR rfl ?_
    refine WL.y rfl (Y.move) ?_
    refine WL.y rfl (Y.bF (Y.eqpn Try.underlying29 rfl rfl) (rfl)) ?_
    refine WL.y rfl (Y.move) ?_
    refine WL.y rfl (Y.move) ?_
    refine WL.y rfl (Y.dF (Y.lss rfl rfl) (by omega)) ?_
    refine WL.y rfl (Y.pickF rfl) ?_
    refine WL.y rfl (Y.move) ?_
    refine WL.y rfl (Y.move) ?_
    refine WL.y rfl (Y.move) ?_
    refine WL.y rfl (Y.nilCheck rfl) ?_
    refine WL.y rfl (Y.fieldAddr fi61f0 ti22 (by decide) rfl (rfl) _) ?_
    refine WL.y rfl (Y.load1 Try.underlying22 rfl rfl (hB'.cell 0)) ?_
    refine WL.y rfl (Y.lenSl Try.underlying22 (a2.bel hb4) _) ?_
    refine WL.y rfl (Y.dT (Y.geq rfl rfl) (by omega)) ?_
    refine WL.y rfl (Y.pickF rfl) ?_
    refine WL.nil ?_
    refine WC.condT (rfl) ?_
    refine WC.seqR rfl ?_
    refine WL.y rfl (Y.build (cells := zEn.toArray) (by kernel_rfl) _) ?_
    refine WL.eex rfl (E.storeAllK (us := zEn) ti42 rfl rfl rfl zEn_one hx4 rfl) ?_
    rintro _ w5 ⟨hB5, hg5⟩
    refine WL.y rfl (Y.assign) ?_
    refine WL.nil ?_
    refine WC.ret (thenQ.ret ?_)
    exact endQ.cell2 Try.underlying42 rfl ti42 (.inr rfl) rfl hB5.cells ⟨rfl, Below.stepG hb4 hg5 (Nat.le_refl _)⟩
theorem nentry_nil (w : World) (i : Int) : Ret Try.prog 18 [.pointer none, .int .i64 i].toArray w fun v w' => v = .tuple #[.agg zEn.toArray, .bool false] ∧ Below w.heap.size w w' := by
  refine Ret.of (n := 36) (rs := #[.cell 4 42, .tmp 5]) Try.func18 rfl rfl rfl (by simp) ?_
  refine WC.seqR rfl ?_
  refine WL.eex rfl (E.allocX ti42) ?_
  rintro _ w4 ⟨rfl, hB4, hb4⟩
  refine WL.y rfl (Y.assign) ?_
  refine WL.nil ?_
  refine WC.seq ?_
  refine WC.seqR rfl ?_
  refine WL.y rfl (Y.move) ?_
  refine WL.y rfl (Y.bT (Y.eqpn Try.underlying29 rfl rfl) (rfl)) ?_
  refine WL.y rfl (Y.move) ?_
  refine WL.off rfl ?_
  refine WL.off rfl ?_
  refine WL.y rfl (Y.pickT rfl) ?_
  refine WL.y rfl (Y.move) ?_
  refine WL.off rfl ?_
  refine WL.off rfl ?_
  refine WL.off rfl ?_
  refine WL.off rfl ?_
  refine WL.off rfl ?_
  refine WL.off rfl ?_
  refine WL.off rfl ?_
  refine WL.y rfl (Y.pickT rfl) ?_
  refine WL.nil ?_
  refine WC.condT (rfl) ?_
  refine WC.seqR rfl ?_
  refine WL.y rfl (Y.build (cells := zEn.toArray) (by kernel_rfl) _) ?_
  refine WL.eex rfl (E.storeAllK (us := zEn) ti42 rfl rfl rfl zEn_one hB4 rfl) ?_
  rintro _ w5 ⟨hB5, hg5⟩
  refine WL.y rfl (Y.assign) ?_
  refine WL.nil ?_
  refine WC.ret (thenQ.ret ?_)
  exact endQ.cell2 Try.underlying42 rfl ti42 (.inr rfl) rfl hB5.cells ⟨rfl, Below.stepG hb4 hg5 (Nat.le_refl _)⟩
theorem one_two {a b : Value} (ha : One a = true) (hb : One b = true) : ∀ u ∈ [a, b], One u = true := by
  intro u hu
  simp only [List.mem_cons, List.not_mem_nil, or_false] at hu
  rcases hu with rfl | rfl
  · exact ha
  · exact hb
theorem ptr_ones (bs : List Nat) : ∀ u ∈ bs.map ptr, One u = true := by
  intro u hu
  have hqq := List.mem_map.1 hu
  obtain ⟨b, _, rfl⟩ := hqq
  rfl
theorem pclone_ret {w : World} {bl n : Nat} {v : Value} {bs : List Nat} (hs : OwnK w bl 29 1 v n (bs.map ptr)) (hn : n ≤ 1000000) : Ret Try.prog 39 [v].toArray w fun r w' => (∃ bl', (r = .slice none 0 0 ∨ w.heap.size ≤ bl') ∧ OwnK w' bl' 29 1 r n (bs.map ptr)) ∧ Below w.heap.size w w' := by
  have hmx : maxLen = 9223372036854775807 := rfl
  have hs0 := hs
  rcases hs.2 with ⟨rfl, rfl⟩ | ⟨o, cap, cur, rfl, hb, _⟩
  · refine Ret.of (n := 8) (rs := #[.tmp 2]) Try.func39 rfl rfl rfl (by simp) ?_
    refine WC.seqR rfl ?_
    refine WL.y rfl (Y.assign) ?_
    refine WL.nil ?_
    refine WC.seq ?_
    refine WC.seqR rfl ?_
    refine WL.y rfl (Y.move) ?_
    refine WL.y rfl (Y.eqsn Try.underlying49 rfl rfl) ?_
    refine WL.nil ?_
    refine WC.condT (rfl) ?_
    refine WC.seqR rfl ?_
    refine WL.y rfl (Y.assign) ?_
    refine WL.nil ?_
    refine WC.ret (thenQ.ret (endQ.one (.inr rfl) ?_))
    exact ⟨⟨0, .inl rfl, own_nilAny hs0⟩, Below.refl _ _⟩
  · refine Ret.of (n := 8) (rs := #[.tmp 2]) Try.func39 rfl rfl rfl (by simp) ?_
    refine WC.seqR rfl ?_
    refine WL.y rfl (Y.assign) ?_
    refine WL.nil ?_
    refine WC.seq ?_
    refine WC.seqR rfl ?_
    refine WL.y rfl (Y.move) ?_
    refine WL.y rfl (Y.eqsn Try.underlying49 rfl rfl) ?_
    refine WL.nil ?_
    refine WC.condF (rfl) ?_
    refine WC.skip (thenQ.normal ?_)
    refine WC.seqR rfl ?_
    refine WL.eex rfl (E.build0 Try.underlying49 ti29) ?_
    rintro v5 w5 ⟨ho5, hb5⟩
    refine WL.y rfl (Y.move) ?_
    refine WL.eex rfl (E.append Try.underlying49 ti29 rfl (by decide) ho5 (hs0.sl.bel hb5) (ptr_ones bs) (by omega) (by omega) hb5.size) ?_
    rintro v7 w7 ⟨ho7, hb7, -⟩
    refine WL.y rfl (Y.assign) ?_
    refine WL.nil ?_
    refine WC.ret (endQ.one (.inr rfl) ?_)
    rw [Nat.zero_add, List.nil_append] at ho7
    have hqq := OwnK.of_own ho7
    obtain ⟨bl', hB', hO'⟩ := hqq
    exact ⟨⟨bl', .inr hB', hO'⟩, hb5.trans hb7⟩
theorem nkids_ret {w : World} {M : Nat → Prop} {s : Sh} {b : Nat} {ev kv : Value} {bs : List Nat} {bl : Nat} (hB : Blk w b 61 (ndc s ev kv)) (hs : OwnK w bl 29 1 kv s.kids.length (bs.map ptr)) (hn : s.kids.length ≤ 1000000) : Ret Try.prog 21 [ptr b].toArray w fun r w' => (∃ bl', (r = .slice none 0 0 ∨ w.heap.size ≤ bl') ∧ OwnK w' bl' 29 1 r s.kids.length (bs.map ptr)) ∧ Below w.heap.size w w' := by
  refine Ret.of (n := 10) (rs := #[.tmp 2]) Try.func21 rfl rfl rfl (by simp) ?_
  refine WC.seqR rfl ?_
  refine WL.y rfl (Y.assign) ?_
  refine WL.nil ?_
  refine WC.seq ?_
  refine WC.seqR rfl ?_
  refine WL.y rfl (Y.move) ?_
  refine WL.y rfl (Y.eqpn Try.underlying29 rfl rfl) ?_
  refine WL.nil ?_
  refine WC.condF (rfl) ?_
  refine WC.skip (thenQ.normal ?_)
  refine WC.seqR rfl ?_
  refine WL.y rfl (Y.move) ?_
  refine WL.y rfl (Y.nilCheck rfl) ?_
  refine WL.y rfl (Y.fieldAddr fi61f1 ti49 (by decide) rfl (rfl) _) ?_
  refine WL.y rfl (Y.load1 Try.underlying49 rfl rfl (hB.cell 1)) ?_
  refine WL.call rfl (C.func go39) (pclone_ret hs hn) ?_
  rintro v9 w9 ⟨h9, hb9'⟩
  refine WL.y rfl (Y.assign) ?_
  refine WL.nil ?_
  refine WC.ret (endQ.one (.inr rfl) ?_)
  exact ⟨h9, hb9'⟩
theorem nkids_nil (w : World) : Ret Try.prog 21 [.pointer none].toArray w fun v w' => v = .slice none 0 0 ∧ w = w' := by
  refine Ret.of (n := 10) (rs := #[.tmp 2]) Try.func21 rfl rfl rfl (by simp) ?_
  refine WC.seqR rfl ?_
  refine WL.y rfl (Y.assign) ?_
  refine WL.nil ?_
  refine WC.seq ?_
  refine WC.seqR rfl ?_
  refine WL.y rfl (Y.move) ?_
  refine WL.y rfl (Y.eqpn Try.underlying29 rfl rfl) ?_
  refine WL.nil ?_
  refine WC.condT (rfl) ?_
  refine WC.seqR rfl ?_
  refine WL.y rfl (Y.assign) ?_
  refine WL.nil ?_
  refine WC.ret (thenQ.ret (endQ.one (.inr rfl) ?_))
  exact ⟨rfl, rfl⟩
/-- a shape in rows of M -/
inductive ShW (w : World) (M : Nat → Prop) : Sh → List Value → Prop where
  | mk {s : Sh} {ev kv : Value} {lc : List SC} {bl : Nat} (he : EW w M s.es ev) (hb : s.es.length ≤ 1353245080300) (h1 : lc.length = s.kids.length) (h2 : ∀ j (h : j < s.kids.length) (h' : j < lc.length), ShW w M s.kids[j] lc[j].c) (hm : kv = .slice none 0 0 ∨ M bl) (hs : OwnK w bl 25 2 kv s.kids.length (lc.flatMap SC.c)) (hk : s.kids.length ≤ 2932031007402) : ShW w M s [ev, kv]
theorem ShW.at {w : World} {M : Nat → Prop} : ∀ {s : Sh} {c : List Value}, ShW w M s c → ShAt w s c := by
  intro s
  induction s using Sh.ind with
  | h s ih =>
    intro c h
    cases h with
    | mk he hb h1 h2 hm hs hk => exact .mk he.at hb h1 (fun j h h' => ih _ (List.getElem_mem h) (h2 j h h')) hs.sl hk
theorem ShW.kept {w w' : World} {M M' : Nat → Prop} (hk : Kept M' w w') (hM : ∀ b, M b → ¬ M' b) : ∀ {s : Sh} {c : List Value}, ShW w M s c → ShW w' M s c := by
  intro s
  induction s using Sh.ind with
  | h s ih =>
    intro c h
    cases h with
    | mk he hb h1 h2 hm hs hk2 =>
      refine .mk (EW.kept hk hM he) hb h1 (fun j h h' => ih _ (List.getElem_mem h) (h2 j h h')) hm ?_ hk2
      rcases hm with e | e
      · rw [e] at hs ⊢; exact own_nilAny hs
      · exact hs.kept hk (hM _ e)
theorem ShW.bel {w w' : World} {M : Nat → Prop} {s : Sh} {c : List Value} (h : ShW w M s c) (hb : Below w.heap.size w w') : ShW w' M s c := ShW.kept (M' := fun _ => False) (Kept.of_bel hb) (fun _ _ h => h) h
theorem ShW.mono {w : World} {M M' : Nat → Prop} (hM : ∀ b, b < w.heap.size → M b → M' b) : ∀ {s : Sh} {c : List Value}, ShW w M s c → ShW w M' s c := by
  intro s
  induction s using Sh.ind with
  | h s ih =>
    intro c h
    cases h with
    | mk he hb h1 h2 hm hs hk =>
      refine .mk (EW.mono hM he) hb h1 (fun j h h' => ih _ (List.getElem_mem h) (h2 j h h')) ?_ hs hk
      rcases hm with e | e
      · exact .inl e
      · rcases hs.2 with ⟨e2, _⟩ | ⟨o, cap, cur, hv, hb, _⟩
        · exact .inl e2
        · exact .inr (hM _ (Array.getElem?_eq_some_iff.1 hb).1 e)
theorem ShW.len {w : World} {M : Nat → Prop} {s : Sh} {c : List Value} (h : ShW w M s c) : c.length = 2 := by cases h; rfl
theorem ShW.one {w : World} {M : Nat → Prop} {s : Sh} {c : List Value} (h : ShW w M s c) : ∀ u ∈ c, One u = true := h.at.one
def KW (w : World) (M : Nat → Prop) (l : List Sh) (r : Value) : Prop := ∃ (bl : Nat) (lc : List SC), lc.length = l.length ∧ (r = .slice none 0 0 ∨ M bl) ∧ OwnK w bl 25 2 r l.length (lc.flatMap SC.c) ∧ ∀ j (h : j < l.length) (h' : j < lc.length), ShW w M l[j] lc[j].c
/-- shapes appended so far -/
def KB (w : World) (B : Nat) (l : List Sh) (j : Nat) (r : Value) (bl : Nat) (lc : List SC) : Prop := lc.length = j ∧ bl < w.heap.size ∧ (r = .slice none 0 0 ∨ B ≤ bl) ∧ OwnK w bl 25 2 r j (lc.flatMap SC.c) ∧ ∀ i (h : i < l.length) (h' : i < lc.length), ShW w (fun b => B ≤ b ∧ b ≠ bl) l[i] lc[i].c
theorem KB.bel {w w' : World} {B : Nat} {l : List Sh} {j : Nat} {r : Value} {bl : Nat} {lc : List SC} (h : KB w B l j r bl lc) (hb : Below w.heap.size w w') : KB w' B l j r bl lc :=
  ⟨h.1, Nat.lt_of_lt_of_le h.2.1 hb.size, h.2.2.1, h.2.2.2.1.bel hb, fun i h1 h2 => (h.2.2.2.2 i h1 h2).bel hb⟩
theorem KB.kept {w w' : World} {M : Nat → Prop} {B : Nat} {l : List Sh} {j : Nat} {r : Value} {bl : Nat} {lc : List SC} (h : KB w B l j r bl lc) (hk : Kept M w w') (hM : ∀ b, B ≤ b → ¬ M b) : KB w' B l j r bl lc :=
  ⟨h.1, Nat.lt_of_lt_of_le h.2.1 hk.size, h.2.2.1, by
    rcases h.2.2.1 with e | e
    · have := h.2.2.2.1
      rw [e] at this ⊢
      exact own_nilAny this
    · exact h.2.2.2.1.kept hk (hM _ e), fun i h1 h2 => ShW.kept hk (fun b hb => hM b hb.1) (h.2.2.2.2 i h1 h2)⟩
theorem KB.zero {w : World} {B : Nat} {l : List Sh} (h : 0 < w.heap.size) : KB w B l 0 (.slice none 0 0) 0 [] := ⟨rfl, h, .inl rfl, OwnK.nil, fun i _ h => absurd h (by simp)⟩
theorem KB.done {w : World} {B : Nat} {l : List Sh} {r : Value} {bl : Nat} {lc : List SC} (h : KB w B l l.length r bl lc) : KW w (fun b => B ≤ b) l r :=
  ⟨bl, lc, h.1, h.2.2.1, h.2.2.2.1, fun i h1 h2 => (h.2.2.2.2 i h1 h2).mono (fun _ _ h => h.1)⟩
theorem KB.apart {w : World} {B : Nat} {l : List Sh} {j : Nat} {r : Value} {bl : Nat} {lc : List SC} (h : KB w B l j r bl lc) : ∀ b, r.ownBlock = some b → B ≤ b := by
  intro b hb
  rcases h.2.2.1 with e | e
  · rw [e] at hb; cases hb
  · rcases h.2.2.2.1.own with e2 | e2 <;> rw [e2] at hb <;> cases hb
    exact e
theorem ShW.append {w w' : World} {B bl bl' : Nat} {v : Sh} {c : List Value} {r : Value} (he : ShW w (fun b => B ≤ b ∧ b ≠ bl) v c) (hbl : (bl' = bl ∧ r ≠ .slice none 0 0) ∨ w.heap.size ≤ bl') (hk : Kept (fun b => b = bl) w w') : ShW w' (fun b => B ≤ b ∧ b ≠ bl') v c := by
  have h1 : ShW w (fun b => B ≤ b ∧ b ≠ bl ∧ b ≠ bl') v c := he.mono (fun b hb h => ⟨h.1, h.2, by rcases hbl with ⟨rfl, _⟩ | e; exact h.2; omega⟩)
  have h2 : ShW w' (fun b => B ≤ b ∧ b ≠ bl ∧ b ≠ bl') v c := ShW.kept hk (fun b h => h.2.1) h1
  exact h2.mono (fun b _ h => ⟨h.1, h.2.2⟩)
theorem KB.append {w w' : World} {B bl bl' j : Nat} {l : List Sh} {r r' : Value} {lc : List SC} {c : SC} (h : KB w B l j r bl lc) (hB : B ≤ w.heap.size) (hj : j < l.length) (hx : ShW w (fun b => B ≤ b ∧ b ≠ bl) l[j] c.c) (ho : OwnK w' bl' 25 2 r' (j + 1) (lc.flatMap SC.c ++ c.c)) (hbl : (bl' = bl ∧ r ≠ .slice none 0 0) ∨ w.heap.size ≤ bl') (hg : w.grownBy w' r.ownBlock) : KB w' B l (j + 1) r' bl' (lc ++ [c]) := by
  obtain ⟨h1, h2, h3, h4, h5⟩ := h
  have hk := own_row h4 hg
  refine ⟨by simp [h1], ?_, ?_, by simpa using ho, fun i hi hi' => ?_⟩
  · have hqq := ho.form (by omega)
    obtain ⟨_, _, _, _, _, h⟩ := hqq
    exact h
  · right
    rcases hbl with ⟨rfl, e⟩ | e
    · exact h3.resolve_left e
    · omega
  · by_cases e : i < lc.length
    · rw [List.getElem_append_left e]
      exact ShW.append (h5 i hi e) hbl hk
    · have e2 : i = j := by simp only [List.length_append, List.length_cons, List.length_nil] at hi'; omega
      subst e2
      rw [List.getElem_append_right (by omega)]
      simp only [h1, Nat.sub_self, List.getElem_cons_zero]
      exact ShW.append hx hbl hk
theorem nshape_ret (s : Sh) : ∀ (w : World) (M : Nat → Prop) (b : Nat), NdR w M s b → Ret Try.prog 19 [ptr b].toArray w fun v w' => ∃ c, v = .agg c.toArray ∧ ShW w' (fun b => w.heap.size ≤ b) s c ∧ Below w.heap.size w w' := by
  induction s using Sh.ind with
  | h s ih =>
    intro w M b h
    have hok := okS_len h.ok
    have h0 := h
    have hmx : maxLen = 9223372036854775807 := rfl
    cases h with
    | @mk _ _ ev kv bs bl hB hm he h1 hkv hs h2 ok =>
    have hks := hs.sl
    have hbl := hB.lt
    refine Ret.of (n := 30) (rs := #[.cell 2 25]) Try.func19 rfl rfl rfl (by simp) ?_
    refine WC.seqR rfl ?_
    refine WL.eex rfl (E.allocX ti25) ?_
    rintro _ w2 ⟨rfl, hB2, hb2⟩
    refine WL.nil ?_
    refine WC.seq ?_
    refine WC.seqR rfl ?_
    refine WL.y rfl (Y.move) ?_
    refine WL.y rfl (Y.eqpn Try.underlying29 rfl rfl) ?_
    refine WL.nil ?_
    refine WC.condF (rfl) ?_
    refine WC.skip (thenQ.normal ?_)
    have hx2 : Blk w2 w.heap.size 25 [.slice none 0 0, .slice none 0 0] := hB2
    have l2 := hx2.lt
    clear hB2
    refine WC.seqR rfl ?_
    refine WL.y rfl (Y.move) ?_
    refine WL.call rfl (C.func go17) (nentries_ret (h0.bel hb2)) ?_
    rintro v10 w10 ⟨h10, hb10⟩
    have hf10 := h10.form
    obtain ⟨x10, n10, c10, rfl⟩ := hf10
    refine WL.y rfl (Y.build (cells := #[.slice x10 n10 c10, .slice none 0 0]) (by kernel_rfl) _) ?_
    refine WL.eex rfl (E.allocX ti25) ?_
    rintro _ w3 ⟨rfl, hB3, hb3⟩
    refine WL.eex rfl (E.storeAllK (us := [.slice x10 n10 c10, .slice none 0 0]) ti25 rfl rfl rfl (by simp; exact ⟨rfl, rfl⟩) hB3 rfl) ?_
    rintro _ w4 ⟨hx3, hg4⟩
    refine WL.nil ?_
    refine WC.seq ?_
    have l3 := (show Blk w3 _ _ _ from hB3).lt
    have s10 := hb10.size
    have s3 := hb3.size
    have s4 := hg4.size
    have k4 : Below w.heap.size w w4 := Below.stepG (Below.step (Below.step hb2 hb10) hb3) hg4 (by omega)
    have hx2' := ((hx2.bel hb10).bel hb3).grown hg4 (by omega)
    have hE4 := EW.kept (M := fun b => w2.heap.size ≤ b ∧ b < w10.heap.size) (Kept.of_grown (M := fun b => b = w10.heap.size) hg4 rfl) (fun b h1 h2 => by omega) ((h10.mono (fun b h1 h2 => ⟨h2, h1⟩)).bel hb3)
    have hB4 := hB.bel k4
    have p4 : 0 < w4.heap.size := by omega
    have e1 : w.heap.size ≠ w10.heap.size := by omega
    clear hB3 h10 hx2
    refine WC.seqR rfl ?_
    refine WL.y rfl (Y.move) ?_
    refine WL.y rfl (Y.nilCheck rfl) ?_
    refine WL.y rfl (Y.fieldAddr fi61f1 ti49 (by decide) rfl (rfl) _) ?_
    refine WL.y rfl (Y.load1 Try.underlying49 rfl rfl (hB4.cell 1)) ?_
    refine WL.y rfl (Y.lenSl Try.underlying49 (hks.bel k4) _) ?_
    refine WL.y rfl (Y.move) ?_
    refine WL.nil ?_
    refine WC.block ?_
    refine WC.loop (fun j => s.kids.length - j) (fun j f ds w' => j ≤ s.kids.length ∧ ds = [] ∧ Below w.heap.size w w' ∧ w4.heap.size ≤ w'.heap.size ∧ (Blk w' w.heap.size 25 [.slice none 0 0, .slice none 0 0] ∧ EW w' (fun b => w2.heap.size ≤ b ∧ b < w10.heap.size) s.es (.slice x10 n10 c10)) ∧ ∃ r bl lc' J, Blk w' w10.heap.size 25 [.slice x10 n10 c10, r] ∧ KB w' w4.heap.size s.kids j r bl lc' ∧ f = Go.Cx.ov J [(2, .pointer (some ⟨w.heap.size, 0, none⟩)), (3, .pointer (some ⟨w10.heap.size, 0, none⟩)), (15, kv), (16, .int .i64 (s.kids.length : Int)), (17, .int .i64 (j : Int))]) 0 ?_ ?_
    · exact ⟨by omega, rfl, k4, Nat.le_refl _, ⟨hx2', hE4⟩, _, 0, [], _, hx3, KB.zero p4, ov_mk ⟨rfl, rfl, rfl, rfl, rfl, trivial⟩⟩
    · clear hx2' hE4 hx3 k4 hB4
      rintro j _ _ wL ⟨hj, rfl, kL, sL, ⟨hx2, hE⟩, r, bl, lc', J, hx3, hKB, rfl⟩
      refine WC.seqR rfl ?_
      refine WL.y rfl (Y.lss rfl rfl) ?_
      refine WL.nil ?_
      refine WC.seq ?_
      refine WC.condD rfl (fun h0 => ?_) (fun h0 => ?_)
      · have hjl : j < s.kids.length := by omega
        have hjc : j < bs.length := by omega
        have hbl := hKB.2.1
        have hel : ∀ {b o : Nat} {w' : World}, Cells w' b o (((bs.map ptr).drop ((j : Int).toNat * 1)).take 1) → w'.cell? ⟨b, o, none⟩ = some (ptr bs[j]) := by
          intro b o w' hc
          refine hc 0 _ ?_
          rw [Int.toNat_natCast, Nat.mul_one, List.getElem?_take, if_pos (by omega), List.getElem?_drop, List.getElem?_map, Nat.add_zero, List.getElem?_eq_getElem hjc]
          rfl
        refine WC.skip (thenQ.normal ?_)
        refine WC.seq ?_
        refine WC.block ?_
        refine WC.seqR rfl ?_
        refine WL.yex rfl (Y.idx Try.underlying49 ti29 (by decide) (hks.bel kL) rfl (by omega) (by omega)) ?_
        rintro _ ⟨b19, o19, rfl, hc19⟩
        refine WL.y rfl (Y.load1 Try.underlying29 rfl rfl (hel hc19)) ?_
        refine WL.y rfl (Y.assign) ?_
        refine WL.nil ?_
        refine WC.regionB (fun i => Nat.beq i 5 || Nat.beq i 7) [(0, .any), (1, .held), (2, .any), (3, .seq), (4, .seq), (5, .seq), (6, .any), (7, .seq)] mixed (by kernel_rfl) (fun w7 hS7 hheap => ?_)
        refine RL.any rfl rfl (fun _ => Y.fieldAddr fi25f1 ti23 (by decide) rfl (rfl) _) ?_
        refine RL.held rfl rfl hS7 (fun _ hb9 => Y.load1 Try.underlying23 rfl rfl (cell_bel (hx3.cell 1) hb9)) ?_
        refine RL.any rfl rfl (fun _ => Y.move) ?_
        refine RL.call rfl rfl (C.func go19) (ih _ (List.getElem_mem hjl) _ M _ (((h2 j hjl hjc).bel kL).bel hS7)) ?_
        rintro _ w24 ⟨c24, rfl, h24, hb24⟩
        refine ⟨.inr (fun h => Below.step h hb24), ?_⟩
        refine RL.eex rfl rfl (E.build1A Try.underlying23 ti25 h24.len (by decide) (by decide) rfl) ?_ ?_
        · exact fun _ _ h9 => .inr (fun h => Below.step h h9.2.2.1)
        rintro _ w25 ⟨rfl, ho25, hb25, -⟩ 
        have bb : Below wL.heap.size wL w25 := Below.step (Below.step hS7 hb24) hb25
        have hKB' := hKB.bel bb
        refine RL.eex rfl rfl (E.appendN Try.underlying23 ti25 rfl (by decide) hKB'.2.2.2.1 (ownsRow_sl ho25) h24.one (by omega) (by omega)) ?_ ?_
        · exact fun _ _ _ => .inl rfl
        rintro v26 w26 ⟨⟨bl', ho26, hbl'⟩, hg26⟩
        have hx26 : Blk w26 w10.heap.size 25 [.slice x10 n10 c10, r] := (hx3.bel bb).grownR hg26 (fun b e => by have := hKB'.apart b e; omega)
        refine RL.any rfl rfl (fun _ => Y.fieldAddr fi25f1 ti23 (by decide) rfl (rfl) _) ?_
        refine RL.eex rfl rfl (E.storeX (u := v26) ti23 rfl rfl ho26.sl.one hx26 (by simp)) ?_ ?_
        · exact fun _ _ _ => .inl rfl
        rintro _ w27 ⟨hx27, hg27, -⟩
        refine RL.nil (inBlockQ.normal (thenQ.normal ?_))
        refine WC.region rfl ?_
        refine WL.y rfl (Y.add64 rfl rfl (by omega)) ?_
        refine WL.y rfl (Y.move) ?_
        refine WL.nil (thenQ.normal ?_)
        have s7 := hS7.size
        have s24 := hb24.size
        have s25 := hb25.size
        have s26 := hg26.size
        have s27 := hg27.size
        have k26 : Below w.heap.size w w26 := (Below.step kL bb).trans (below_of_grown hg26 (by omega) (fun b e => by have := hKB'.apart b e; omega))
        have kM : Kept (fun b => b = w10.heap.size) w26 w27 := Kept.of_grown hg27 rfl
        have hKn := (hKB'.append (c := ⟨c24, h24.len⟩) (by omega) hjl ((h24.bel hb25).mono (fun b _ h => ⟨by omega, by omega⟩)) ho26 hbl' hg26).kept kM (fun b h => by omega)
        have hE' : EW w26 (fun b => w2.heap.size ≤ b ∧ b < w10.heap.size) s.es (.slice x10 n10 c10) := EW.kept (Kept.of_grownR (M := fun b => w4.heap.size ≤ b) hg26 (fun b e => hKB'.apart b e)) (fun b h1 h2 => by omega) (hE.bel bb)
        exact ⟨j + 1, by omega, by omega, rfl, Below.stepG k26 hg27 (by omega), by omega, ⟨((hx2.bel bb).grownR hg26 (fun b e => by have := hKB'.apart b e; omega)).grown hg27 e1, EW.kept kM (fun b h1 h2 => by omega) hE'⟩, _, _, _, _, hx27, hKn, ov_mk ⟨rfl, rfl, rfl, rfl, rfl, trivial⟩⟩
      · have hje : j = s.kids.length := by omega
        subst hje
        have hK := hKB.done
        obtain ⟨bk, lk, z1, z2, z3, z4⟩ := hK
        have hor := z3.sl.one
        refine WC.exit (thenQ.exit (thenQ.exit (inBlockQ.hit (thenQ.normal ?_))))
        refine WC.seqR rfl ?_
        refine WL.y rfl (Y.loadK Try.underlying25 rfl ti25 (rfl) rfl (hx3.cells)) ?_
        refine WL.eex rfl (E.storeAllK (us := [.slice x10 n10 c10, r]) ti25 rfl rfl rfl (by simp; exact ⟨rfl, hor⟩) hx2 rfl) ?_
        rintro _ wH ⟨hH, hgH⟩
        refine WL.nil ?_
        refine WC.ret ?_
        have kH : Below w.heap.size w wH := Below.stepG kL hgH (by omega)
        have kM : Kept (fun b => b = w.heap.size) wL wH := Kept.of_grown hgH rfl
        have hsw : ShW wH (fun b => w.heap.size ≤ b) s [.slice x10 n10 c10, r] := by
          refine .mk (bl := bk) (lc := lk) ((EW.kept kM (fun b h1 h2 => by omega) hE).mono (fun b _ h => by omega)) (by omega) z1 (fun j h h' => (ShW.kept kM (fun b h1 h2 => by omega) (z4 j h h')).mono (fun b _ h => by omega)) (z2.imp id (fun h => by omega)) ?_ (by omega)
          rcases z2 with e | e
          · rw [e] at z3 ⊢; exact own_nilAny z3
          · exact z3.kept kM (by omega)
        exact endQ.cellN Try.underlying25 rfl ti25 (.inr rfl) rfl hH.cells ⟨_, rfl, hsw, kH⟩
theorem nshape_nil (w : World) : Ret Try.prog 19 [.pointer none].toArray w fun v w' => v = .agg #[.slice none 0 0, .slice none 0 0] ∧ Below w.heap.size w w' := by
  refine Ret.of (n := 30) (rs := #[.cell 2 25]) Try.func19 rfl rfl rfl (by simp) ?_
  refine WC.seqR rfl ?_
  refine WL.eex rfl (E.allocX ti25) ?_
  rintro _ w2 ⟨rfl, hB2, hb2⟩
  refine WL.nil ?_
  refine WC.seq ?_
  refine WC.seqR rfl ?_
  refine WL.y rfl (Y.move) ?_
  refine WL.y rfl (Y.eqpn Try.underlying29 rfl rfl) ?_
  refine WL.nil ?_
  refine WC.condT (rfl) ?_
  refine WC.seqR rfl ?_
  refine WL.y rfl (Y.build (cells := #[.slice none 0 0, .slice none 0 0]) (by kernel_rfl) _) ?_
  refine WL.eex rfl (E.storeAllK (us := [.slice none 0 0, .slice none 0 0]) ti25 rfl rfl rfl (one_two rfl rfl) hB2 rfl) ?_
  rintro _ w4 ⟨hB4, hg4⟩
  refine WL.nil ?_
  refine WC.ret (thenQ.ret ?_)
  exact endQ.cellN Try.underlying25 rfl ti25 (.inr rfl) rfl hB4.cells ⟨rfl, Below.stepG hb2 hg4 (Nat.le_refl _)⟩
end Go.Proofs.Ytpefeefmdlfafaa
