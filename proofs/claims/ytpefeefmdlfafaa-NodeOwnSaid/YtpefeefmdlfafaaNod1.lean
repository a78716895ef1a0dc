/-
  Entries and shapes in memory; ref06: Height, Nodes, Flat; law06: small: walks.
-/
import Derived.Test.YtpefeefmdlfafaaNod0
import Derived.Test.YtpefeefmdlfafaaVal7
import Derived.Test.YtpefeefmdlfafaaVal19
namespace Go.Proofs.Ytpefeefmdlfafaa
open Go Go.RowKit Go.Cx
set_option linter.unusedVariables false
set_option maxHeartbeats 8000000
/-- entries' cells -/
def ents (l : List En) (lc : List VC) : List (List UInt8 × VC) := (l.map Prod.fst).zip lc
theorem ents_len {l : List En} {lc : List VC} (h : lc.length = l.length) : (ents l lc).length = l.length := by unfold ents; rw [List.length_zip, List.length_map]; omega
theorem ents_get {l : List En} {lc : List VC} {j : Nat} (h : j < l.length) (h' : j < lc.length) (h2 : j < (ents l lc).length) : (ents l lc)[j] = (l[j].1, lc[j]) := by
  simp only [ents, List.getElem_zip, List.getElem_map]
/-- entries in memory -/
def EAt (w : World) (l : List En) (r : Value) : Prop := ∃ lc : List VC, lc.length = l.length ∧ SlK w 7 r l.length ((ents l lc).flatMap mc) ∧ ∀ j (h : j < l.length) (h' : j < lc.length), VAt w l[j].2 lc[j].c
theorem EAt.bel {w w' : World} {l : List En} {r : Value} (h : EAt w l r) (hb : Below w.heap.size w w') : EAt w' l r := by
  obtain ⟨lc, h1, h2, h3⟩ := h
  exact ⟨lc, h1, h2.bel hb, fun j h h' => (h3 j h h').bel hb⟩
theorem EAt.one {w : World} {l : List En} {r : Value} (h : EAt w l r) : One r = true := by
  obtain ⟨lc, h1, h2, h3⟩ := h
  exact h2.one
theorem elem_ent {w : World} {b o j : Nat} {z : Int} {l : List En} {lc : List VC} (h : j < l.length) (h' : j < lc.length) (hz : z.toNat = j) (hc : Cells w b o ((((ents l lc).flatMap mc).drop (z.toNat * 7)).take 7)) : Cells w b o (strv l[j].1 :: lc[j].c) := by
  have hz2 : j < (ents l lc).length := by unfold ents; rw [List.length_zip, List.length_map]; omega
  rw [hz, flat_at mc_len _ j hz2, ents_get h h' hz2] at hc
  exact hc
theorem ent_ones {w : World} {l : List En} {lc : List VC} (h1 : lc.length = l.length) (h : ∀ j (h : j < l.length) (h' : j < lc.length), VAt w l[j].2 lc[j].c) : ∀ u ∈ (ents l lc).flatMap mc, One u = true := by
  intro u hu
  have hqq := List.mem_flatMap.1 hu
  obtain ⟨x, hx, hu2⟩ := hqq
  have hqq := List.mem_iff_getElem.1 hx
  obtain ⟨j, hj, rfl⟩ := hqq
  have hjl : j < l.length := by rw [ents_len h1] at hj; exact hj
  rw [ents_get hjl (by omega) hj] at hu2
  exact one_strv (h j hjl (by omega)).one u hu2
/-- a shape's cells -/
structure SC where
  c : List Value
  h : c.length = 2
/-- a shape in memory -/
inductive ShAt (w : World) : Sh → List Value → Prop where
  | mk {s : Sh} {ev kv : Value} {lc : List SC} (he : EAt w s.es ev) (hb : s.es.length ≤ 1353245080300) (h1 : lc.length = s.kids.length) (h2 : ∀ j (h : j < s.kids.length) (h' : j < lc.length), ShAt w s.kids[j] lc[j].c) (hs : SlK w 2 kv s.kids.length (lc.flatMap SC.c)) (hk : s.kids.length ≤ 2932031007402) : ShAt w s [ev, kv]
theorem ShAt.len {w : World} {s : Sh} {c : List Value} (h : ShAt w s c) : c.length = 2 := by cases h; rfl
theorem ShAt.bel {w w' : World} (hb : Below w.heap.size w w') : ∀ {s : Sh} {c : List Value}, ShAt w s c → ShAt w' s c := by
  intro s
  induction s using Sh.ind with
  | h s ih =>
    intro c h
    cases h with
    | mk he hn h1 h2 hs hk => exact .mk (he.bel hb) hn h1 (fun j h h' => ih _ (List.getElem_mem h) (h2 j h h')) (hs.bel hb) hk
theorem ShAt.one {w : World} {s : Sh} {c : List Value} (h : ShAt w s c) : ∀ u ∈ c, One u = true := by
  cases h with
  | mk he hn h1 h2 hs hk =>
    intro u hu
    simp only [List.mem_cons, List.mem_nil_iff, or_false] at hu
    rcases hu with rfl | rfl
    · exact he.one
    · exact hs.one
theorem elem_sh {w : World} {b o j : Nat} {lc : List SC} (h : j < lc.length) (hc : Cells w b o (((lc.flatMap SC.c).drop ((j : Int).toNat * 2)).take 2)) : Cells w b o lc[j].c := by
  rw [Int.toNat_natCast, flat_at SC.h lc j h] at hc
  exact hc
theorem nodesL_take (l : List Sh) (j : Nat) (h : j < l.length) : nodesL (l.take (j + 1)) = nodesL (l.take j) + nodesS l[j] := by
  rw [List.take_succ_eq_append_getElem h, nodesL_append, nodesL, nodesL]; omega
theorem nodesL_le (l : List Sh) (j : Nat) : nodesL (l.take j) ≤ nodesL l := by
  have := nodesL_append (l.take j) (l.drop j)
  rw [List.take_append_drop] at this
  omega
theorem flatL_take (l : List Sh) (j : Nat) (h : j < l.length) : flatL (l.take (j + 1)) = flatL (l.take j) ++ flatS l[j] := by
  rw [List.take_succ_eq_append_getElem h, flatL_append, flatL, flatL, List.append_nil]
theorem flatL_le (l : List Sh) (j : Nat) : (flatL (l.take j)).length ≤ (flatL l).length := by
  have := congrArg List.length (flatL_append (l.take j) (l.drop j))
  rw [List.take_append_drop, List.length_append] at this
  omega
theorem nodesS_eq (s : Sh) : nodesS s = 1 + nodesL s.kids := by cases s; rw [nodesS]; rfl
theorem flatS_eq (s : Sh) : flatS s = if s.kids.length = 0 then s.es else flatL s.kids := by cases s; rw [flatS]; rfl
theorem hS_cons {s : Sh} (h : 0 < s.kids.length) : hS s = 1 + hS s.kids[0] := by
  cases s with
  | mk es kids =>
    cases kids with
    | nil => simp [Sh.kids] at h
    | cons k ks => rw [hS]; rfl
theorem hS_nil {s : Sh} (h : s.kids.length = 0) : hS s = 0 := by
  cases s with
  | mk es kids =>
    cases kids with
    | nil => rw [hS]
    | cons k ks => simp [Sh.kids] at h
theorem rheight_ret (s : Sh) : ∀ (w : World) (c : List Value), ShAt w s c → hS s ≤ 1000000 → Ret Try.prog 29 [.agg c.toArray].toArray w fun r w' => r = .int .i64 (hS s) ∧ Below w.heap.size w w' := by
  induction s using Sh.ind with
  | h s ih =>
    intro w c hv hb
    cases hv with
    | @mk _ ev kv lc he hn h1 h2 hs hk =>
    refine Ret.of (n := 13) (rs := #[.tmp 2]) Try.func29 rfl rfl rfl (by simp) ?_
    refine WC.seqR rfl ?_
    refine WL.eex rfl (E.boxX) ?_
    rintro _ w1 ⟨rfl, hB1, hb1⟩
    refine WL.y rfl (Y.assign) ?_
    refine WL.nil ?_
    refine WC.seq ?_
    refine WC.seqR rfl ?_
    refine WL.y rfl (Y.fieldAddr fi25f1 ti23 (by decide) rfl (rfl) _) ?_
    refine WL.y rfl (Y.load1 Try.underlying23 rfl rfl ((show Blk _ _ _ [ev, kv] from hB1).cell 1)) ?_
    refine WL.y rfl (Y.lenSl Try.underlying23 (hs.bel hb1) _) ?_
    refine WL.y rfl (Y.eqi rfl rfl) ?_
    refine WL.nil ?_
    refine WC.condD rfl (fun c0 => ?_) (fun c0 => ?_)
    · have e := hS_nil (s := s) (by omega)
      refine WC.seqR rfl ?_
      refine WL.y rfl (Y.assign) ?_
      refine WL.nil ?_
      refine WC.ret (thenQ.ret (endQ.one (.inr rfl) ?_))
      exact ⟨by rw [e]; rfl, hb1⟩
    · have h0 : 0 < s.kids.length := by omega
      have h0c : 0 < lc.length := by omega
      have e := hS_cons h0
      refine WC.skip (thenQ.normal ?_)
      refine WC.seqR rfl ?_
      refine WL.y rfl (Y.fieldAddr fi25f1 ti23 (by decide) rfl (rfl) _) ?_
      refine WL.y rfl (Y.load1 Try.underlying23 rfl rfl ((show Blk _ _ _ [ev, kv] from hB1).cell 1)) ?_
      refine WL.yex rfl (Y.idx Try.underlying23 ti25 (by decide) (hs.bel hb1) rfl (by omega) (by omega)) ?_
      rintro _ ⟨b9, o9, rfl, hc9⟩
      refine WL.y rfl (Y.loadK Try.underlying25 rfl ti25 (lc[0].h) rfl (elem_sh h0c hc9)) ?_
      refine WL.call rfl (C.func go29) (ih _ (List.getElem_mem h0) _ _ ((h2 0 h0 h0c).bel hb1) (by omega)) ?_
      rintro _ w11 ⟨rfl, hb11⟩
      refine WL.y rfl (Y.add64 rfl rfl (by omega)) ?_
      refine WL.y rfl (Y.assign) ?_
      refine WL.nil ?_
      refine WC.ret (endQ.one (.inr rfl) ?_)
      exact ⟨int_eq (by omega), Below.step hb1 hb11⟩
theorem rnodes_ret (s : Sh) : ∀ (w : World) (c : List Value), ShAt w s c → nodesS s ≤ 1000000 → Ret Try.prog 31 [.agg c.toArray].toArray w fun r w' => r = .int .i64 (nodesS s) ∧ Below w.heap.size w w' := by
  induction s using Sh.ind with
  | h s ih =>
    intro w c hv hb
    have hne := nodesS_eq s
    cases hv with
    | @mk _ ev kv lc he hn h1 h2 hs hk =>
    refine Ret.of (n := 21) (rs := #[.tmp 2]) Try.func31 rfl rfl rfl (by simp) ?_
    refine WC.seqR rfl ?_
    refine WL.eex rfl (E.boxX) ?_
    rintro _ w1 ⟨rfl, hB1, hb1⟩
    refine WL.y rfl (Y.assign) ?_
    refine WL.nil ?_
    refine WC.seqR rfl ?_
    refine WL.y rfl (Y.assign) ?_
    refine WL.nil ?_
    refine WC.seq ?_
    refine WC.seqR rfl ?_
    refine WL.y rfl (Y.assign) ?_
    refine WL.nil ?_
    refine WC.block ?_
    have hB : Blk w1 w.heap.size 25 [ev, kv] := hB1
    clear hB1
    refine WC.loop (fun j => s.kids.length - j) (fun j f ds w' => j ≤ s.kids.length ∧ ds = [] ∧ Below w.heap.size w w' ∧ Blk w' w.heap.size 25 [ev, kv] ∧ ∃ J, f = Go.Cx.ov J [(1, .pointer (some ⟨w.heap.size, 0, none⟩)), (3, .int .i64 (1 + (nodesL (s.kids.take j) : Int))), (4, .int .i64 (j : Int))]) 0 ?_ ?_
    · exact ⟨by omega, rfl, hb1, hB, _, ov_mk ⟨rfl, int_eq (by rw [List.take_zero, nodesL]; rfl), rfl, trivial⟩⟩
    · rintro j _ _ wL ⟨hj, rfl, kL, hA, J, rfl⟩
      have hle := nodesL_le s.kids j
      refine WC.seq ?_
      refine WC.seqR rfl ?_
      refine WL.y rfl (Y.move) ?_
      refine WL.y rfl (Y.fieldAddr fi25f1 ti23 (by decide) rfl (rfl) _) ?_
      refine WL.y rfl (Y.load1 Try.underlying23 rfl rfl (hA.cell 1)) ?_
      refine WL.y rfl (Y.lenSl Try.underlying23 (hs.bel kL) _) ?_
      refine WL.y rfl (Y.lss rfl rfl) ?_
      refine WL.nil ?_
      refine WC.condD rfl (fun h0 => ?_) (fun h0 => ?_)
      · have hjl : j < s.kids.length := by omega
        have hjc : j < lc.length := by omega
        have hst := nodesL_take s.kids j hjl
        have hle2 := nodesL_le s.kids (j + 1)
        have hmm := nodesL_mem (List.getElem_mem hjl)
        refine WC.skip (thenQ.normal ?_)
        refine WC.seq ?_
        refine WC.block ?_
        refine WC.region rfl ?_
        refine WL.y rfl (Y.move) ?_
        refine WL.y rfl (Y.fieldAddr fi25f1 ti23 (by decide) rfl (rfl) _) ?_
        refine WL.y rfl (Y.load1 Try.underlying23 rfl rfl (hA.cell 1)) ?_
        refine WL.y rfl (Y.move) ?_
        refine WL.yex rfl (Y.idx Try.underlying23 ti25 (by decide) (hs.bel kL) rfl (by omega) (by omega)) ?_
        rintro _ ⟨b16, o16, rfl, hc16⟩
        refine WL.y rfl (Y.loadK Try.underlying25 rfl ti25 (lc[j].h) rfl (elem_sh hjc hc16)) ?_
        refine WL.call rfl (C.func go31) (ih _ (List.getElem_mem hjl) _ _ ((h2 j hjl hjc).bel kL) (by omega)) ?_
        rintro _ w18 ⟨rfl, hb18⟩
        refine WL.y rfl (Y.add64 rfl rfl (by omega)) ?_
        refine WL.y rfl (Y.assign) ?_
        refine WL.nil (inBlockQ.normal (thenQ.normal ?_))
        refine WC.region rfl ?_
        refine WL.y rfl (Y.move) ?_
        refine WL.y rfl (Y.add64 rfl rfl (by omega)) ?_
        refine WL.y rfl (Y.assign) ?_
        refine WL.nil (thenQ.normal ?_)
        exact ⟨j + 1, by omega, by omega, rfl, Below.step kL hb18, hA.bel hb18, _, ov_mk ⟨rfl, int_eq (by omega), rfl, trivial⟩⟩
      · have hje : j = s.kids.length := by omega
        subst hje
        rw [List.take_length]
        refine WC.exit (thenQ.exit (thenQ.exit (inBlockQ.hit (thenQ.normal ?_))))
        refine WC.seqR rfl ?_
        refine WL.y rfl (Y.move) ?_
        refine WL.y rfl (Y.assign) ?_
        refine WL.nil ?_
        refine WC.ret (endQ.one (.inr rfl) ?_)
        exact ⟨int_eq (by omega), kL⟩
theorem small_ret (s : Sh) : ∀ (d : Nat) (w : World) (c : List Value), d ≤ 100 → ShAt w s c → Ret Try.prog 9 [.agg c.toArray, .int .i64 (d : Int)].toArray w fun r w' => (∃ e : Bool, r = .bool e ∧ (e = true ↔ smallS d s)) ∧ Below w.heap.size w w' := by
  induction s using Sh.ind with
  | h s ih =>
    intro d w c hd hv
    have hv0 := hv
    cases hv with
    | @mk _ ev kv lc he hn h1 h2 hs hk =>
    obtain ⟨oc, o1, o2, o3⟩ := he
    have no : ∀ {P : Prop}, ¬ P → (false = true ↔ P) := fun h => ⟨fun e => Bool.noConfusion e, fun e => absurd e h⟩
    refine Ret.of (n := 39) (rs := #[.tmp 4]) Try.func9 rfl rfl rfl (by simp) ?_
    refine WC.seqR rfl ?_
    refine WL.eex rfl (E.boxX) ?_
    rintro _ w2 ⟨rfl, hB2, hb2⟩
    refine WL.y rfl (Y.assign) ?_
    refine WL.nil ?_
    refine WC.seq ?_
    have hB : Blk w2 w.heap.size 25 [ev, kv] := hB2
    clear hB2
    cases d with
    | zero =>
      refine WC.seqR rfl ?_
      refine WL.y rfl (Y.move) ?_
      refine WL.y rfl (Y.dT (Y.eqi rfl rfl) (rfl)) ?_
      refine WL.y rfl (Y.move) ?_
      refine WL.off rfl ?_
      refine WL.off rfl ?_
      refine WL.off rfl ?_
      refine WL.off rfl ?_
      refine WL.y rfl (Y.pickT rfl) ?_
      refine WL.y rfl (Y.move) ?_
      refine WL.off rfl ?_
      refine WL.off rfl ?_
      refine WL.off rfl ?_
      refine WL.off rfl ?_
      refine WL.y rfl (Y.pickT rfl) ?_
      refine WL.nil ?_
      refine WC.condT (rfl) ?_
      refine WC.seqR rfl ?_
      refine WL.y rfl (Y.assign) ?_
      refine WL.nil ?_
      refine WC.ret (thenQ.ret (endQ.one (.inr rfl) ?_))
      exact ⟨⟨false, rfl, no (fun h => h)⟩, hb2⟩
    | succ d =>
      by_cases c1 : 20 < s.es.length
      · refine WC.seqR rfl ?_
        refine WL.y rfl (Y.move) ?_
        refine WL.y rfl (Y.dF (Y.eqi rfl rfl) (by omega)) ?_
        refine WL.y rfl (Y.move) ?_
        refine WL.y rfl (Y.fieldAddr fi25f0 ti22 (by decide) rfl (rfl) _) ?_
        refine WL.y rfl (Y.load1 Try.underlying22 rfl rfl (hB.cell 0)) ?_
        refine WL.y rfl (Y.lenSl Try.underlying22 (o2.bel hb2) _) ?_
        refine WL.y rfl (Y.dT (Y.gtr rfl rfl) (by omega)) ?_
        refine WL.y rfl (Y.pickF rfl) ?_
        refine WL.y rfl (Y.move) ?_
        refine WL.off rfl ?_
        refine WL.off rfl ?_
        refine WL.off rfl ?_
        refine WL.off rfl ?_
        refine WL.y rfl (Y.pickT rfl) ?_
        refine WL.nil ?_
        refine WC.condT (rfl) ?_
        refine WC.seqR rfl ?_
        refine WL.y rfl (Y.assign) ?_
        refine WL.nil ?_
        refine WC.ret (thenQ.ret (endQ.one (.inr rfl) ?_))
        exact ⟨⟨false, rfl, no (fun h => by have := h.1; omega)⟩, hb2⟩
      · by_cases c2 : 20 < s.kids.length
        · refine WC.seqR rfl ?_
          refine WL.y rfl (Y.move) ?_
          refine WL.y rfl (Y.dF (Y.eqi rfl rfl) (by omega)) ?_
          refine WL.y rfl (Y.move) ?_
          refine WL.y rfl (Y.fieldAddr fi25f0 ti22 (by decide) rfl (rfl) _) ?_
          refine WL.y rfl (Y.load1 Try.underlying22 rfl rfl (hB.cell 0)) ?_
          refine WL.y rfl (Y.lenSl Try.underlying22 (o2.bel hb2) _) ?_
          refine WL.y rfl (Y.dF (Y.gtr rfl rfl) (by omega)) ?_
          refine WL.y rfl (Y.pickF rfl) ?_
          refine WL.y rfl (Y.move) ?_
          refine WL.y rfl (Y.fieldAddr fi25f1 ti23 (by decide) rfl (rfl) _) ?_
          refine WL.y rfl (Y.load1 Try.underlying23 rfl rfl (hB.cell 1)) ?_
          refine WL.y rfl (Y.lenSl Try.underlying23 (hs.bel hb2) _) ?_
          refine WL.y rfl (Y.dT (Y.gtr rfl rfl) (by omega)) ?_
          refine WL.y rfl (Y.pickF rfl) ?_
          refine WL.nil ?_
          refine WC.condT (rfl) ?_
          refine WC.seqR rfl ?_
          refine WL.y rfl (Y.assign) ?_
          refine WL.nil ?_
          refine WC.ret (thenQ.ret (endQ.one (.inr rfl) ?_))
          exact ⟨⟨false, rfl, no (fun h => by have := h.2.1; omega)⟩, hb2⟩
        · skip
          skip
          refine WC.seqR rfl ?_
          refine WL.y rfl (Y.move) ?_
          refine WL.y rfl (Y.dF (Y.eqi rfl rfl) (by omega)) ?_
          refine WL.y rfl (Y.move) ?_
          refine WL.y rfl (Y.fieldAddr fi25f0 ti22 (by decide) rfl (rfl) _) ?_
          refine WL.y rfl (Y.load1 Try.underlying22 rfl rfl (hB.cell 0)) ?_
          refine WL.y rfl (Y.lenSl Try.underlying22 (o2.bel hb2) _) ?_
          refine WL.y rfl (Y.dF (Y.gtr rfl rfl) (by omega)) ?_
          refine WL.y rfl (Y.pickF rfl) ?_
          refine WL.y rfl (Y.move) ?_
          refine WL.y rfl (Y.fieldAddr fi25f1 ti23 (by decide) rfl (rfl) _) ?_
          refine WL.y rfl (Y.load1 Try.underlying23 rfl rfl (hB.cell 1)) ?_
          refine WL.y rfl (Y.lenSl Try.underlying23 (hs.bel hb2) _) ?_
          refine WL.y rfl (Y.dF (Y.gtr rfl rfl) (by omega)) ?_
          refine WL.y rfl (Y.pickF rfl) ?_
          refine WL.nil ?_
          refine WC.condF (rfl) ?_
          refine WC.skip (thenQ.normal ?_)
          refine WC.seq ?_
          refine WC.seqR rfl ?_
          refine WL.y rfl (Y.assign) ?_
          refine WL.nil ?_
          refine WC.block ?_
          refine WC.loop (fun j => s.kids.length - j) (fun j f ds w' => j ≤ s.kids.length ∧ ds = [] ∧ Below w.heap.size w w' ∧ Blk w' w.heap.size 25 [ev, kv] ∧ (∀ k ∈ s.kids.take j, smallS d k) ∧ ∃ J, f = Go.Cx.ov J [(1, .int .i64 ((d + 1 : Nat) : Int)), (2, .pointer (some ⟨w.heap.size, 0, none⟩)), (5, .int .i64 (j : Int))]) 0 ?_ ?_
          · exact ⟨by omega, rfl, hb2, hB, fun k hk => absurd hk (by simp), _, ov_mk ⟨rfl, rfl, rfl, trivial⟩⟩
          · rintro j _ _ wL ⟨hj, rfl, kL, hA, hsm, J, rfl⟩
            refine WC.seq ?_
            refine WC.seqR rfl ?_
            refine WL.y rfl (Y.move) ?_
            refine WL.y rfl (Y.fieldAddr fi25f1 ti23 (by decide) rfl (rfl) _) ?_
            refine WL.y rfl (Y.load1 Try.underlying23 rfl rfl (hA.cell 1)) ?_
            refine WL.y rfl (Y.lenSl Try.underlying23 (hs.bel kL) _) ?_
            refine WL.y rfl (Y.lss rfl rfl) ?_
            refine WL.nil ?_
            refine WC.condD rfl (fun h0 => ?_) (fun h0 => ?_)
            · have hjl : j < s.kids.length := by omega
              have hjc : j < lc.length := by omega
              have ed : ((d + 1 : Nat) : Int) - 1 = (d : Int) := by omega
              have hcall := ih _ (List.getElem_mem hjl) d
              rw [← ed] at hcall
              refine WC.skip (thenQ.normal ?_)
              refine WC.seq ?_
              refine WC.block ?_
              refine WC.seqR rfl ?_
              refine WL.y rfl (Y.fieldAddr fi25f1 ti23 (by decide) rfl (rfl) _) ?_
              refine WL.y rfl (Y.load1 Try.underlying23 rfl rfl (hA.cell 1)) ?_
              refine WL.y rfl (Y.move) ?_
              refine WL.yex rfl (Y.idx Try.underlying23 ti25 (by decide) (hs.bel kL) rfl (by omega) (by omega)) ?_
              rintro _ ⟨b30, o30, rfl, hc30⟩
              refine WL.y rfl (Y.loadK Try.underlying25 rfl ti25 (lc[j].h) rfl (elem_sh hjc hc30)) ?_
              refine WL.y rfl (Y.move) ?_
              refine WL.y rfl (Y.sub64 rfl rfl (by omega)) ?_
              refine WL.call rfl (C.func go9) (hcall _ _ (by omega) ((h2 j hjl hjc).bel kL)) ?_
              rintro _ w34 ⟨⟨e34, rfl, he34⟩, hb34⟩
              refine WL.y rfl (Y.not rfl) ?_
              refine WL.nil ?_
              have hbb := Below.step kL hb34
              cases e34 with
              | false =>
                refine WC.condT (rfl) ?_
                refine WC.seqR rfl ?_
                refine WL.y rfl (Y.assign) ?_
                refine WL.nil ?_
                refine WC.ret (inBlockQ.ret (thenQ.ret (thenQ.ret (inBlockQ.ret (thenQ.ret (endQ.one (.inr rfl) ?_))))))
                exact ⟨⟨false, rfl, no (fun h => Bool.noConfusion (he34.2 (h.2.2.1 _ (List.getElem_mem hjl))))⟩, hbb⟩
              | true =>
                have hks := he34.1 rfl
                skip
                refine WC.condF (rfl) ?_
                refine WC.skip (inBlockQ.normal (thenQ.normal ?_))
                refine WC.region rfl ?_
                refine WL.y rfl (Y.move) ?_
                refine WL.y rfl (Y.add64 rfl rfl (by omega)) ?_
                refine WL.y rfl (Y.assign) ?_
                refine WL.nil (thenQ.normal ?_)
                exact ⟨j + 1, by omega, by omega, rfl, hbb, hA.bel hb34, fun k hk => by
                  rw [List.take_succ_eq_append_getElem hjl, List.mem_append, List.mem_singleton] at hk
                  rcases hk with hk | rfl
                  · exact hsm k hk
                  · exact hks, _, ov_mk ⟨rfl, rfl, rfl, trivial⟩⟩
            · have hje : j = s.kids.length := by omega
              rw [hje, List.take_length] at hsm
              have hnb : nodesS s ≤ 1000000 := by
                have hb : ∀ l : List Sh, (∀ k ∈ l, smallS d k) → nodesL l ≤ 400 * l.length := by
                  intro l
                  induction l with
                  | nil => intro _; rw [nodesL]; simp
                  | cons k l ihl =>
                    intro h
                    have := small_nodes (h k (by simp))
                    have := ihl (fun x hx => h x (by simp [hx]))
                    rw [nodesL, List.length_cons]; omega
                have := hb _ hsm
                rw [nodesS_eq]; omega
              refine WC.exit (thenQ.exit (thenQ.exit (inBlockQ.hit (thenQ.normal ?_))))
              refine WC.seqR rfl ?_
              refine WL.y rfl (Y.loadK Try.underlying25 rfl ti25 (rfl) rfl (hA.cells)) ?_
              refine WL.call rfl (C.func go31) (rnodes_ret s _ _ (hv0.bel kL) hnb) ?_
              rintro _ w37 ⟨rfl, hb37⟩
              refine WL.y rfl (Y.leq rfl rfl) ?_
              refine WL.y rfl (Y.assign) ?_
              refine WL.nil ?_
              refine WC.ret (endQ.one (.inr rfl) ?_)
              exact ⟨⟨_, rfl, ⟨fun h => ⟨by omega, by omega, hsm, by have := of_decide_eq_true h; omega⟩, fun h => decide_eq_true (by have := h.2.2.2; omega)⟩⟩, Below.step kL hb37⟩
end Go.Proofs.Ytpefeefmdlfafaa
