/-
  ref06: Flat, Sound, SameEntries, Same: walks.
-/
import Derived.Test.YtpefeefmdlfafaaNod1
namespace Go.Proofs.Ytpefeefmdlfafaa
open Go Go.RowKit Go.Cx
set_option linter.unusedVariables false
set_option maxHeartbeats 8000000
theorem EAt.nil {w : World} : EAt w [] (.slice none 0 0) := ⟨[], rfl, SlK.nil, fun j h => absurd h (by simp)⟩
theorem ents_app {la lb : List En} {ca cb : List VC} (h : ca.length = la.length) : (ents (la ++ lb) (ca ++ cb)).flatMap mc = (ents la ca).flatMap mc ++ (ents lb cb).flatMap mc := by
  unfold ents
  rw [List.map_append, List.zip_append (by rw [List.length_map]; omega), List.flatMap_append]
/-- entries whose row is one's own; the values lie anywhere -/
def ERow (w : World) (B : Nat) (l : List En) (r : Value) : Prop := ∃ lc : List VC, lc.length = l.length ∧ w.ownsRow B 42 7 r l.length ((ents l lc).flatMap mc) ∧ ∀ j (h : j < l.length) (h' : j < lc.length), VAt w l[j].2 lc[j].c
theorem ERow.bel {w w' : World} {B : Nat} {l : List En} {r : Value} (h : ERow w B l r) (hb : Below w.heap.size w w') : ERow w' B l r := by
  obtain ⟨lc, h1, h2, h3⟩ := h
  exact ⟨lc, h1, ownsRow_bel h2 hb, fun j h h' => (h3 j h h').bel hb⟩
theorem ERow.at {w : World} {B : Nat} {l : List En} {r : Value} (h : ERow w B l r) : EAt w l r := by
  obtain ⟨lc, h1, h2, h3⟩ := h
  exact ⟨lc, h1, ownsRow_sl h2, h3⟩
theorem rflat_ret (s : Sh) : ∀ (w w0 : World) (c : List Value), ShAt w0 s c → Below w0.heap.size w0 w → (flatS s).length ≤ 1000000 → Ret Try.prog 27 [.agg c.toArray].toArray w fun r w' => (∃ lc : List VC, lc.length = (flatS s).length ∧ SlK w' 7 r (flatS s).length ((ents (flatS s) lc).flatMap mc) ∧ ∀ j (h : j < (flatS s).length) (h' : j < lc.length), VAt w0 (flatS s)[j].2 lc[j].c) ∧ Below w.heap.size w w' := by
  induction s using Sh.ind with
  | h s ih =>
    intro w w0 c hv0 hw hb
    have hfe := flatS_eq s
    have hmx : maxLen = 9223372036854775807 := rfl
    cases hv0 with
    | @mk _ ev kv lc he0 hn h1 h2 hs0 hk =>
    have hs := hs0.bel hw
    refine Ret.of (n := 27) (rs := #[.tmp 2]) Try.func27 rfl rfl rfl (by simp) ?_
    refine WC.seqR rfl ?_
    refine WL.eex rfl (E.boxX) ?_
    rintro _ w1 ⟨rfl, hB1, hb1⟩
    refine WL.y rfl (Y.assign) ?_
    refine WL.nil ?_
    refine WC.seq ?_
    refine WC.seqR rfl ?_
    refine WL.y rfl (Y.fieldAddr fi25f1 ti23 (by decide) rfl (rfl) _) ?_
    refine WL.y rfl (Y.load1 Try.underlying23 rfl rfl ((show Blk _ _ _ [ev, kv] from hB1).cell 1)) ?_
    refine WL.y rfl (Y.lenSl Try.underlying23 (hs.bel hb1) _) ?_
    refine WL.y rfl (Y.eqi rfl rfl) ?_
    refine WL.nil ?_
    refine WC.condD rfl (fun c0 => ?_) (fun c0 => ?_)
    · rw [if_pos (by omega)] at hfe
      refine WC.seqR rfl ?_
      refine WL.y rfl (Y.fieldAddr fi25f0 ti22 (by decide) rfl (rfl) _) ?_
      refine WL.y rfl (Y.load1 Try.underlying22 rfl rfl ((show Blk _ _ _ [ev, kv] from hB1).cell 0)) ?_
      refine WL.y rfl (Y.assign) ?_
      refine WL.nil ?_
      refine WC.ret (thenQ.ret (endQ.one (.inr rfl) ?_))
      rw [hfe]
      obtain ⟨oc, q1, q2, q3⟩ := he0
      exact ⟨⟨oc, q1, (q2.bel hw).bel hb1, q3⟩, hb1⟩
    · rw [if_neg (by omega)] at hfe
      rw [hfe] at hb ⊢
      have hB : Blk w1 w.heap.size 25 [ev, kv] := hB1
      clear hB1
      have s1 := hb1.size
      refine WC.skip (thenQ.normal ?_)
      refine WC.seqR rfl ?_
      refine WL.y rfl (Y.assign) ?_
      refine WL.nil ?_
      refine WC.seq ?_
      refine WC.seqR rfl ?_
      refine WL.y rfl (Y.assign) ?_
      refine WL.nil ?_
      refine WC.block ?_
      refine WC.loop (fun j => s.kids.length - j) (fun j f ds w' => j ≤ s.kids.length ∧ ds = [] ∧ Below w.heap.size w w' ∧ Blk w' w.heap.size 25 [ev, kv] ∧ ∃ r J, (∃ lc : List VC, lc.length = (flatL (s.kids.take j)).length ∧ w'.ownsRow (w.heap.size + 1) 42 7 r (flatL (s.kids.take j)).length ((ents (flatL (s.kids.take j)) lc).flatMap mc) ∧ ∀ i (h : i < (flatL (s.kids.take j)).length) (h' : i < lc.length), VAt w0 (flatL (s.kids.take j))[i].2 lc[i].c) ∧ f = Go.Cx.ov J [(1, .pointer (some ⟨w.heap.size, 0, none⟩)), (3, r), (4, .int .i64 (j : Int))]) 0 ?_ ?_
      · exact ⟨by omega, rfl, hb1, hB, _, _, ⟨[], by rw [List.take_zero, flatL]; rfl, by rw [List.take_zero, flatL]; exact World.ownsRow_nil _ _ _ _, fun i _ h => absurd h (by simp)⟩, ov_mk ⟨rfl, rfl, rfl, trivial⟩⟩
      · rintro j _ _ wL ⟨hj, rfl, kL, hA, r, J, ⟨oc, o1, o2, o3⟩, rfl⟩
        have hle := flatL_le s.kids j
        have hAl := hA.lt
        refine WC.seq ?_
        refine WC.seqR rfl ?_
        refine WL.y rfl (Y.move) ?_
        refine WL.y rfl (Y.fieldAddr fi25f1 ti23 (by decide) rfl (rfl) _) ?_
        refine WL.y rfl (Y.load1 Try.underlying23 rfl rfl (hA.cell 1)) ?_
        refine WL.y rfl (Y.lenSl Try.underlying23 (hs.bel kL) _) ?_
        refine WL.y rfl (Y.lss rfl rfl) ?_
        refine WL.nil ?_
        refine WC.condD rfl (fun h0 => ?_) (fun h0 => ?_)
        · have hjl : j < s.kids.length := by omega
          have hjc : j < lc.length := by omega
          have hst := flatL_take s.kids j hjl
          have hle2 := flatL_le s.kids (j + 1)
          have hll := congrArg List.length hst
          rw [List.length_append] at hll
          refine WC.skip (thenQ.normal ?_)
          refine WC.seq ?_
          refine WC.block ?_
          refine WC.region rfl ?_
          refine WL.y rfl (Y.move) ?_
          refine WL.y rfl (Y.fieldAddr fi25f1 ti23 (by decide) rfl (rfl) _) ?_
          refine WL.y rfl (Y.load1 Try.underlying23 rfl rfl (hA.cell 1)) ?_
          refine WL.y rfl (Y.move) ?_
          refine WL.yex rfl (Y.idx Try.underlying23 ti25 (by decide) (hs.bel kL) rfl (by omega) (by omega)) ?_
          rintro _ ⟨b22, o22, rfl, hc22⟩
          refine WL.y rfl (Y.loadK Try.underlying25 rfl ti25 (lc[j].h) rfl (elem_sh hjc hc22)) ?_
          refine WL.call rfl (C.func go27) (ih _ (List.getElem_mem hjl) _ w0 _ (h2 j hjl hjc) (hw.trans (kL.mono hw.size)) (by omega)) ?_
          rintro r24 w24 ⟨⟨lk, e1, e2, e3⟩, hb24⟩
          have hones : ∀ u ∈ (ents (flatS s.kids[j]) lk).flatMap mc, One u = true := ent_ones e1 e3
          refine WL.eex rfl (E.append Try.underlying22 ti42 rfl (by decide) (ownsRow_bel o2 hb24) e2 hones (by omega) (by omega) (by have := hb24.size; omega)) ?_
          rintro v25 w25 ⟨ho25, hb25, hg25⟩
          refine WL.y rfl (Y.assign) ?_
          refine WL.nil (inBlockQ.normal (thenQ.normal ?_))
          refine WC.region rfl ?_
          refine WL.y rfl (Y.move) ?_
          refine WL.y rfl (Y.add64 rfl rfl (by omega)) ?_
          refine WL.y rfl (Y.assign) ?_
          refine WL.nil (thenQ.normal ?_)
          have s24 := hb24.size
          have k25 := (Below.step kL hb24).trans (hb25.mono (by omega))
          have hA25 := (hA.bel hb24).belB hb25 (by omega)
          have hN : ∃ lc : List VC, lc.length = (flatL (s.kids.take (j + 1))).length ∧ w25.ownsRow (w.heap.size + 1) 42 7 v25 (flatL (s.kids.take (j + 1))).length ((ents (flatL (s.kids.take (j + 1))) lc).flatMap mc) ∧ ∀ i (h : i < (flatL (s.kids.take (j + 1))).length) (h' : i < lc.length), VAt w0 (flatL (s.kids.take (j + 1)))[i].2 lc[i].c := by
            rw [hst]
            refine ⟨oc ++ lk, by rw [List.length_append, List.length_append]; omega, ?_, fun i h h' => ?_⟩
            · rw [ents_app o1, List.length_append]
              exact ho25
            · by_cases e : i < (flatL (s.kids.take j)).length
              · have e' : i < oc.length := by omega
                rw [List.getElem_append_left e, List.getElem_append_left e']
                exact o3 i e e'
              · rw [List.getElem_append_right (by omega), List.getElem_append_right (by omega)]
                simp only [o1]
                exact e3 _ _ _
          exact ⟨j + 1, by omega, by omega, rfl, k25, hA25, _, _, hN, ov_mk ⟨rfl, rfl, rfl, trivial⟩⟩
        · have hje : j = s.kids.length := by omega
          rw [hje, List.take_length] at o1 o2 o3
          refine WC.exit (thenQ.exit (thenQ.exit (inBlockQ.hit (thenQ.normal ?_))))
          refine WC.seqR rfl ?_
          refine WL.y rfl (Y.move) ?_
          refine WL.y rfl (Y.assign) ?_
          refine WL.nil ?_
          refine WC.ret (endQ.one (.inr rfl) ?_)
          exact ⟨⟨oc, o1, ownsRow_sl o2, o3⟩, kL⟩
theorem soundS_eq (s : Sh) (root : Bool) : soundS s root = ((root || decide (4 ≤ s.es.length + s.kids.length)) && soundL s.kids) := by cases s; rw [soundS]; rfl
theorem soundL_step (l : List Sh) (j : Nat) (h : j < l.length) : soundL (l.drop j) = (soundS l[j] false && soundL (l.drop (j + 1))) := by rw [List.drop_eq_getElem_cons h, soundL]
theorem rsound_ret (s : Sh) : ∀ (root : Bool) (w : World) (c : List Value), ShAt w s c → s.es.length ≤ 1000000 ∧ s.kids.length ≤ 1000000 → (∀ k ∈ s.kids, True) → (smallS 100 s ∨ ∃ d, smallS d s) → Ret Try.prog 30 [.agg c.toArray, .bool root].toArray w fun r w' => r = .bool (soundS s root) ∧ Below w.heap.size w w' := by
  induction s using Sh.ind with
  | h s ih =>
    intro root w c hv hb _ hsm
    have hkids : ∀ k ∈ s.kids, ∃ d, smallS d k := by
      intro k hk
      have hd : ∃ d, smallS d s := by rcases hsm with h | h; exact ⟨_, h⟩; exact h
      obtain ⟨d, hd⟩ := hd
      cases d with
      | zero => exact hd.elim
      | succ d => exact ⟨d, hd.2.2.1 k hk⟩
    have hse := soundS_eq s root
    cases hv with
    | @mk _ ev kv lc he hn h1 h2 hs hk =>
    obtain ⟨oc, o1, o2, o3⟩ := he
    refine Ret.of (n := 34) (rs := #[.tmp 4]) Try.func30 rfl rfl rfl (by simp) ?_
    refine WC.seqR rfl ?_
    refine WL.eex rfl (E.boxX) ?_
    rintro _ w2 ⟨rfl, hB2, hb2⟩
    refine WL.y rfl (Y.assign) ?_
    refine WL.nil ?_
    refine WC.seqR rfl ?_
    refine WL.y rfl (Y.fieldAddr fi25f0 ti22 (by decide) rfl (rfl) _) ?_
    refine WL.y rfl (Y.load1 Try.underlying22 rfl rfl ((show Blk _ _ _ [ev, kv] from hB2).cell 0)) ?_
    refine WL.y rfl (Y.lenSl Try.underlying22 (o2.bel hb2) _) ?_
    refine WL.y rfl (Y.fieldAddr fi25f1 ti23 (by decide) rfl (rfl) _) ?_
    refine WL.y rfl (Y.load1 Try.underlying23 rfl rfl ((show Blk _ _ _ [ev, kv] from hB2).cell 1)) ?_
    refine WL.y rfl (Y.lenSl Try.underlying23 (hs.bel hb2) _) ?_
    refine WL.y rfl (Y.add64 rfl rfl (by omega)) ?_
    refine WL.y rfl (Y.assign) ?_
    refine WL.nil ?_
    refine WC.seq ?_
    have hB : Blk w2 w.heap.size 25 [ev, kv] := hB2
    clear hB2
    by_cases c1 : root = false ∧ s.es.length + s.kids.length < 4
    · have e : soundS s root = false := by rw [hse, c1.1, decide_eq_false (by omega)]; rfl
      refine WC.seqR rfl ?_
      refine WL.y rfl (Y.move) ?_
      refine WL.y rfl (Y.bT (Y.not rfl) (by rw [c1.1]; rfl)) ?_
      refine WL.y rfl (Y.move) ?_
      refine WL.y rfl (Y.move) ?_
      refine WL.y rfl (Y.dT (Y.lss rfl rfl) (by omega)) ?_
      refine WL.y rfl (Y.pickT rfl) ?_
      refine WL.nil ?_
      refine WC.condT (rfl) ?_
      refine WC.seqR rfl ?_
      refine WL.y rfl (Y.assign) ?_
      refine WL.nil ?_
      refine WC.ret (thenQ.ret (endQ.one (.inr rfl) ?_))
      exact ⟨congrArg Value.bool e.symm, hb2⟩
    · have e0 : (root || decide (4 ≤ s.es.length + s.kids.length)) = true := by
        cases root with
        | true => rfl
        | false =>
          have : 4 ≤ s.es.length + s.kids.length := by
            have : ¬ s.es.length + s.kids.length < 4 := fun h => c1 ⟨rfl, h⟩
            omega
          simp [this]
      rw [e0, Bool.true_and] at hse
      cases root with
      | true =>
        refine WC.seqR rfl ?_
        refine WL.y rfl (Y.move) ?_
        refine WL.y rfl (Y.bF (Y.not rfl) (rfl)) ?_
        refine WL.y rfl (Y.move) ?_
        refine WL.off rfl ?_
        refine WL.off rfl ?_
        refine WL.y rfl (Y.pickF rfl) ?_
        refine WL.nil ?_
        refine WC.condF (rfl) ?_
        refine WC.skip (thenQ.normal ?_)
        refine WC.seq ?_
        refine WC.seqR rfl ?_
        refine WL.y rfl (Y.assign) ?_
        refine WL.nil ?_
        refine WC.block ?_
        refine WC.loop (fun j => s.kids.length - j) (fun j f ds w' => j ≤ s.kids.length ∧ ds = [] ∧ Below w.heap.size w w' ∧ Blk w' w.heap.size 25 [ev, kv] ∧ soundL s.kids = soundL (s.kids.drop j) ∧ ∃ J, f = Go.Cx.ov J [(2, .pointer (some ⟨w.heap.size, 0, none⟩)), (6, .int .i64 (j : Int))]) 0 ?_ ?_
        · exact ⟨by omega, rfl, hb2, hB, rfl, _, ov_mk ⟨rfl, rfl, trivial⟩⟩
        · rintro j _ _ wL ⟨hj, rfl, kL, hA, ha, J, rfl⟩
          refine WC.seq ?_
          refine WC.seqR rfl ?_
          refine WL.y rfl (Y.move) ?_
          refine WL.y rfl (Y.fieldAddr fi25f1 ti23 (by decide) rfl (rfl) _) ?_
          refine WL.y rfl (Y.load1 Try.underlying23 rfl rfl (hA.cell 1)) ?_
          refine WL.y rfl (Y.lenSl Try.underlying23 (hs.bel kL) _) ?_
          refine WL.y rfl (Y.lss rfl rfl) ?_
          refine WL.nil ?_
          refine WC.condD rfl (fun h0 => ?_) (fun h0 => ?_)
          · have hjl : j < s.kids.length := by omega
            have hjc : j < lc.length := by omega
            have hst := soundL_step s.kids j hjl
            have hks := hkids _ (List.getElem_mem hjl)
            have hkb : s.kids[j].es.length ≤ 1000000 ∧ s.kids[j].kids.length ≤ 1000000 := by
              obtain ⟨d, hd⟩ := hks
              cases d with
              | zero => exact hd.elim
              | succ d => have a := hd.1; have b := hd.2.1; omega
            refine WC.skip (thenQ.normal ?_)
            refine WC.seq ?_
            refine WC.block ?_
            refine WC.seqR rfl ?_
            refine WL.y rfl (Y.fieldAddr fi25f1 ti23 (by decide) rfl (rfl) _) ?_
            refine WL.y rfl (Y.load1 Try.underlying23 rfl rfl (hA.cell 1)) ?_
            refine WL.y rfl (Y.move) ?_
            refine WL.yex rfl (Y.idx Try.underlying23 ti25 (by decide) (hs.bel kL) rfl (by omega) (by omega)) ?_
            rintro _ ⟨b30, o30, rfl, hc30⟩
            refine WL.y rfl (Y.loadK Try.underlying25 rfl ti25 (lc[j].h) rfl (elem_sh hjc hc30)) ?_
            refine WL.call rfl (C.func go30) (ih _ (List.getElem_mem hjl) false _ _ ((h2 j hjl hjc).bel kL) hkb (fun _ _ => trivial) (.inr hks)) ?_
            rintro _ w32 ⟨rfl, hb32⟩
            refine WL.y rfl (Y.not rfl) ?_
            refine WL.nil ?_
            have hbb := Below.step kL hb32
            cases hsv : soundS s.kids[j] false with
            | false =>
              rw [hsv, Bool.false_and] at hst
              refine WC.condT (rfl) ?_
              refine WC.seqR rfl ?_
              refine WL.y rfl (Y.assign) ?_
              refine WL.nil ?_
              refine WC.ret (inBlockQ.ret (thenQ.ret (thenQ.ret (inBlockQ.ret (thenQ.ret (endQ.one (.inr rfl) ?_))))))
              exact ⟨congrArg Value.bool (hse.trans (ha.trans hst)).symm, hbb⟩
            | true =>
              rw [hsv, Bool.true_and] at hst
              skip
              refine WC.condF (rfl) ?_
              refine WC.skip (inBlockQ.normal (thenQ.normal ?_))
              refine WC.region rfl ?_
              refine WL.y rfl (Y.move) ?_
              refine WL.y rfl (Y.add64 rfl rfl (by omega)) ?_
              refine WL.y rfl (Y.assign) ?_
              refine WL.nil (thenQ.normal ?_)
              exact ⟨j + 1, by omega, by omega, rfl, hbb, hA.bel hb32, ha.trans hst, _, ov_mk ⟨rfl, rfl, trivial⟩⟩
          · have hje : j = s.kids.length := by omega
            have hee : soundL (s.kids.drop s.kids.length) = true := by rw [List.drop_length, soundL]
            subst hje
            refine WC.exit (thenQ.exit (thenQ.exit (inBlockQ.hit (thenQ.normal ?_))))
            refine WC.seqR rfl ?_
            refine WL.y rfl (Y.assign) ?_
            refine WL.nil ?_
            refine WC.ret (endQ.one (.inr rfl) ?_)
            exact ⟨congrArg Value.bool (hse.trans (ha.trans hee)).symm, kL⟩
      | false =>
        skip
        refine WC.seqR rfl ?_
        refine WL.y rfl (Y.move) ?_
        refine WL.y rfl (Y.bT (Y.not rfl) (rfl)) ?_
        refine WL.y rfl (Y.move) ?_
        refine WL.y rfl (Y.move) ?_
        refine WL.y rfl (Y.dF (Y.lss rfl rfl) (by have : ¬ s.es.length + s.kids.length < 4 := fun h => c1 ⟨rfl, h⟩; omega)) ?_
        refine WL.y rfl (Y.pickT rfl) ?_
        refine WL.nil ?_
        refine WC.condF (rfl) ?_
        refine WC.skip (thenQ.normal ?_)
        refine WC.seq ?_
        refine WC.seqR rfl ?_
        refine WL.y rfl (Y.assign) ?_
        refine WL.nil ?_
        refine WC.block ?_
        refine WC.loop (fun j => s.kids.length - j) (fun j f ds w' => j ≤ s.kids.length ∧ ds = [] ∧ Below w.heap.size w w' ∧ Blk w' w.heap.size 25 [ev, kv] ∧ soundL s.kids = soundL (s.kids.drop j) ∧ ∃ J, f = Go.Cx.ov J [(2, .pointer (some ⟨w.heap.size, 0, none⟩)), (6, .int .i64 (j : Int))]) 0 ?_ ?_
        · exact ⟨by omega, rfl, hb2, hB, rfl, _, ov_mk ⟨rfl, rfl, trivial⟩⟩
        · rintro j _ _ wL ⟨hj, rfl, kL, hA, ha, J, rfl⟩
          refine WC.seq ?_
          refine WC.seqR rfl ?_
          refine WL.y rfl (Y.move) ?_
          refine WL.y rfl (Y.fieldAddr fi25f1 ti23 (by decide) rfl (rfl) _) ?_
          refine WL.y rfl (Y.load1 Try.underlying23 rfl rfl (hA.cell 1)) ?_
          refine WL.y rfl (Y.lenSl Try.underlying23 (hs.bel kL) _) ?_
          refine WL.y rfl (Y.lss rfl rfl) ?_
          refine WL.nil ?_
          refine WC.condD rfl (fun h0 => ?_) (fun h0 => ?_)
          · have hjl : j < s.kids.length := by omega
            have hjc : j < lc.length := by omega
            have hst := soundL_step s.kids j hjl
            have hks := hkids _ (List.getElem_mem hjl)
            have hkb : s.kids[j].es.length ≤ 1000000 ∧ s.kids[j].kids.length ≤ 1000000 := by
              obtain ⟨d, hd⟩ := hks
              cases d with
              | zero => exact hd.elim
              | succ d => have a := hd.1; have b := hd.2.1; omega
            refine WC.skip (thenQ.normal ?_)
            refine WC.seq ?_
            refine WC.block ?_
            refine WC.seqR rfl ?_
            refine WL.y rfl (Y.fieldAddr fi25f1 ti23 (by decide) rfl (rfl) _) ?_
            refine WL.y rfl (Y.load1 Try.underlying23 rfl rfl (hA.cell 1)) ?_
            refine WL.y rfl (Y.move) ?_
            refine WL.yex rfl (Y.idx Try.underlying23 ti25 (by decide) (hs.bel kL) rfl (by omega) (by omega)) ?_
            rintro _ ⟨b30, o30, rfl, hc30⟩
            refine WL.y rfl (Y.loadK Try.underlying25 rfl ti25 (lc[j].h) rfl (elem_sh hjc hc30)) ?_
            refine WL.call rfl (C.func go30) (ih _ (List.getElem_mem hjl) false _ _ ((h2 j hjl hjc).bel kL) hkb (fun _ _ => trivial) (.inr hks)) ?_
            rintro _ w32 ⟨rfl, hb32⟩
            refine WL.y rfl (Y.not rfl) ?_
            refine WL.nil ?_
            have hbb := Below.step kL hb32
            cases hsv : soundS s.kids[j] false with
            | false =>
              rw [hsv, Bool.false_and] at hst
              refine WC.condT (rfl) ?_
              refine WC.seqR rfl ?_
              refine WL.y rfl (Y.assign) ?_
              refine WL.nil ?_
              refine WC.ret (inBlockQ.ret (thenQ.ret (thenQ.ret (inBlockQ.ret (thenQ.ret (endQ.one (.inr rfl) ?_))))))
              exact ⟨congrArg Value.bool (hse.trans (ha.trans hst)).symm, hbb⟩
            | true =>
              rw [hsv, Bool.true_and] at hst
              skip
              refine WC.condF (rfl) ?_
              refine WC.skip (inBlockQ.normal (thenQ.normal ?_))
              refine WC.region rfl ?_
              refine WL.y rfl (Y.move) ?_
              refine WL.y rfl (Y.add64 rfl rfl (by omega)) ?_
              refine WL.y rfl (Y.assign) ?_
              refine WL.nil (thenQ.normal ?_)
              exact ⟨j + 1, by omega, by omega, rfl, hbb, hA.bel hb32, ha.trans hst, _, ov_mk ⟨rfl, rfl, trivial⟩⟩
          · have hje : j = s.kids.length := by omega
            have hee : soundL (s.kids.drop s.kids.length) = true := by rw [List.drop_length, soundL]
            subst hje
            refine WC.exit (thenQ.exit (thenQ.exit (inBlockQ.hit (thenQ.normal ?_))))
            refine WC.seqR rfl ?_
            refine WL.y rfl (Y.assign) ?_
            refine WL.nil ?_
            refine WC.ret (endQ.one (.inr rfl) ?_)
            exact ⟨congrArg Value.bool (hse.trans (ha.trans hee)).symm, kL⟩
theorem sameE_ret (l : List En) (ra rb : Value) (w : World) (ha : EAt w l ra) (hb : EAt w l rb) (hl : l.length ≤ 1353245080300) : Ret Try.prog 28 [ra, rb].toArray w fun v w' => v = .bool true ∧ Below w.heap.size w w' := by
  obtain ⟨ca, a1, a2, a3⟩ := ha
  obtain ⟨cb, b1, b2, b3⟩ := hb
  refine Ret.of (n := 42) (rs := #[.tmp 4]) Try.func28 rfl rfl rfl (by simp) ?_
  refine WC.seqR rfl ?_
  refine WL.y rfl (Y.assign) ?_
  refine WL.nil ?_
  refine WC.seq ?_
  refine WC.seqR rfl ?_
  refine WL.y rfl (Y.move) ?_
  refine WL.y rfl (Y.lenSl Try.underlying22 (a2) _) ?_
  refine WL.y rfl (Y.move) ?_
  refine WL.y rfl (Y.lenSl Try.underlying22 (b2) _) ?_
  refine WL.y rfl (Y.nei rfl rfl) ?_
  refine WL.nil ?_
  refine WC.condD rfl (fun c0 => ?_) (fun c0 => ?_)
  · exfalso; exact c0 rfl
  · refine WC.skip (thenQ.normal ?_)
    refine WC.seq ?_
    refine WC.seqR rfl ?_
    refine WL.y rfl (Y.assign) ?_
    refine WL.nil ?_
    refine WC.block ?_
    refine WC.loop (fun j => l.length - j) (fun j f ds w' => j ≤ l.length ∧ ds = [] ∧ Below w.heap.size w w' ∧ ∃ J, f = Go.Cx.ov J [(0, ra), (1, rb), (5, .int .i64 (j : Int))]) 0 ?_ ?_
    · exact ⟨by omega, rfl, Below.refl _ _, _, ov_mk ⟨rfl, rfl, rfl, trivial⟩⟩
    · rintro j _ _ wL ⟨hj, rfl, kL, J, rfl⟩
      refine WC.seq ?_
      refine WC.seqR rfl ?_
      refine WL.y rfl (Y.move) ?_
      refine WL.y rfl (Y.move) ?_
      refine WL.y rfl (Y.lenSl Try.underlying22 (a2.bel kL) _) ?_
      refine WL.y rfl (Y.lss rfl rfl) ?_
      refine WL.nil ?_
      refine WC.condD rfl (fun h0 => ?_) (fun h0 => ?_)
      · have h1 : j < l.length := by omega
        have hja : j < ca.length := by omega
        have hjb : j < cb.length := by omega
        have hself := cmpV_self l[j].2
        refine WC.skip (thenQ.normal ?_)
        refine WC.seq ?_
        refine WC.block ?_
        refine WC.seq ?_
        refine WC.regionB (fun i => Nat.beq i 22) [(0, .any), (1, .any), (2, .any), (3, .any), (4, .held), (5, .any), (6, .any), (7, .any), (8, .any), (9, .held), (10, .any), (11, .any), (12, .any), (13, .any), (14, .any), (15, .any), (16, .held), (17, .any), (18, .any), (19, .any), (20, .any), (21, .held), (22, .seq), (23, .any), (24, .any)] mixed (by kernel_rfl) (fun w6 hS6 hheap => ?_)
        refine RL.any rfl rfl (fun _ => Y.move) ?_
        refine RL.any rfl rfl (fun _ => Y.move) ?_
        refine RL.yex rfl rfl (Y.idx Try.underlying22 ti42 (by decide) (a2.bel kL) rfl (by omega) (by omega)) ?_
        rintro _ ⟨b19, o19, rfl, hc19⟩
        refine RL.any rfl rfl (fun _ => Y.fieldAddr fi42f0 ti9 (by decide) rfl (rfl) _) ?_
        refine RL.held rfl rfl hS6 (fun _ hb9 => Y.load1 Try.underlying9 rfl rfl (cell_bel (Cells.hd (elem_ent h1 hja (by omega) hc19)) hb9)) ?_
        refine RL.any rfl rfl (fun _ => Y.move) ?_
        refine RL.any rfl rfl (fun _ => Y.move) ?_
        refine RL.yex rfl rfl (Y.idx Try.underlying22 ti42 (by decide) (b2.bel kL) rfl (by omega) (by omega)) ?_
        rintro _ ⟨b24, o24, rfl, hc24⟩
        refine RL.any rfl rfl (fun _ => Y.fieldAddr fi42f0 ti9 (by decide) rfl (rfl) _) ?_
        refine RL.held rfl rfl hS6 (fun _ hb9 => Y.load1 Try.underlying9 rfl rfl (cell_bel (Cells.hd (elem_ent h1 hjb (by omega) hc24)) hb9)) ?_
        refine RL.any rfl rfl (fun _ => Y.bF (Y.neS rfl rfl) (by simp)) ?_
        refine RL.any rfl rfl (fun _ => Y.move) ?_
        refine RL.any rfl rfl (fun _ => Y.move) ?_
        refine RL.any rfl rfl (fun _ => Y.move) ?_
        refine RL.yex rfl rfl (Y.idx Try.underlying22 ti42 (by decide) (a2.bel kL) rfl (by omega) (by omega)) ?_
        rintro _ ⟨b31, o31, rfl, hc31⟩
        refine RL.any rfl rfl (fun _ => Y.fieldAddr fi42f1 ti40 (by decide) rfl (rfl) _) ?_
        refine RL.held rfl rfl hS6 (fun _ hb9 => Y.loadK Try.underlying40 rfl ti40 (ca[j].h) rfl (Cells.bel (Cells.tl (elem_ent h1 hja (by omega) hc31)) hb9)) ?_
        refine RL.any rfl rfl (fun _ => Y.move) ?_
        refine RL.any rfl rfl (fun _ => Y.move) ?_
        refine RL.yex rfl rfl (Y.idx Try.underlying22 ti42 (by decide) (b2.bel kL) rfl (by omega) (by omega)) ?_
        rintro _ ⟨b36, o36, rfl, hc36⟩
        refine RL.any rfl rfl (fun _ => Y.fieldAddr fi42f1 ti40 (by decide) rfl (rfl) _) ?_
        refine RL.held rfl rfl hS6 (fun _ hb9 => Y.loadK Try.underlying40 rfl ti40 (cb[j].h) rfl (Cells.bel (Cells.tl (elem_ent h1 hjb (by omega) hc36)) hb9)) ?_
        refine RL.call rfl rfl (C.func go41) (rcompare_ret _ _ _ _ _ (((a3 j h1 hja).bel kL).bel hS6) (((b3 j h1 hjb).bel kL).bel hS6)) ?_
        rintro _ w39 ⟨rfl, hb39⟩
        refine ⟨.inl rfl, ?_⟩
        refine RL.any rfl rfl (fun _ => Y.dF (Y.nei rfl rfl) (by omega)) ?_
        refine RL.any rfl rfl (fun _ => Y.pickF rfl) ?_
        refine RL.nil (thenQ.normal ?_)
        refine WC.condF (rfl) ?_
        refine WC.skip (inBlockQ.normal (thenQ.normal ?_))
        refine WC.region rfl ?_
        refine WL.y rfl (Y.move) ?_
        refine WL.y rfl (Y.add64 rfl rfl (by omega)) ?_
        refine WL.y rfl (Y.assign) ?_
        refine WL.nil (thenQ.normal ?_)
        exact ⟨j + 1, by omega, by omega, rfl, Below.step (Below.step kL hS6) hb39, _, ov_mk ⟨rfl, rfl, rfl, trivial⟩⟩
      · refine WC.exit (thenQ.exit (thenQ.exit (inBlockQ.hit (thenQ.normal ?_))))
        refine WC.seqR rfl ?_
        refine WL.y rfl (Y.assign) ?_
        refine WL.nil ?_
        refine WC.ret (endQ.one (.inr rfl) ?_)
        exact ⟨rfl, kL⟩
theorem sameS_ret (s : Sh) : ∀ (w : World) (c d : List Value), ShAt w s c → ShAt w s d → Ret Try.prog 22 [.agg c.toArray, .agg d.toArray].toArray w fun v w' => v = .bool true ∧ Below w.heap.size w w' := by
  induction s using Sh.ind with
  | h s ih =>
    intro w c d hc hd
    cases hc with
    | @mk _ ev kv lc he hn h1 h2 hs hk =>
    cases hd with
    | @mk _ fv jv lf ge gn g1 g2 gs gk =>
    refine Ret.of (n := 40) (rs := #[.tmp 4]) Try.func22 rfl rfl rfl (by simp) ?_
    refine WC.seqR rfl ?_
    refine WL.eex rfl (E.boxX) ?_
    rintro _ w2 ⟨rfl, hB2, hb2⟩
    refine WL.eex rfl (E.boxX) ?_
    rintro _ w3 ⟨rfl, hB3, hb3⟩
    refine WL.y rfl (Y.assign) ?_
    refine WL.nil ?_
    refine WC.seq ?_
    have hA : Blk w3 w.heap.size 25 [ev, kv] := (show Blk _ _ _ [ev, kv] from hB2).bel hb3
    have hB : Blk w3 w2.heap.size 25 [fv, jv] := hB3
    have hb := Below.step hb2 hb3
    clear hB2 hB3
    refine WC.seqR rfl ?_
    refine WL.y rfl (Y.fieldAddr fi25f0 ti22 (by decide) rfl (rfl) _) ?_
    refine WL.y rfl (Y.load1 Try.underlying22 rfl rfl (hA.cell 0)) ?_
    refine WL.y rfl (Y.fieldAddr fi25f0 ti22 (by decide) rfl (rfl) _) ?_
    refine WL.y rfl (Y.load1 Try.underlying22 rfl rfl (hB.cell 0)) ?_
    refine WL.call rfl (C.func go28) (sameE_ret s.es _ _ _ (he.bel hb) (ge.bel hb) hn) ?_
    rintro _ w10 ⟨rfl, hb10⟩
    refine WL.y rfl (Y.bF (Y.not rfl) (rfl)) ?_
    refine WL.y rfl (Y.move) ?_
    refine WL.y rfl (Y.fieldAddr fi25f1 ti23 (by decide) rfl (rfl) _) ?_
    refine WL.y rfl (Y.load1 Try.underlying23 rfl rfl ((hA.bel hb10).cell 1)) ?_
    refine WL.y rfl (Y.lenSl Try.underlying23 (hs.bel hb) _) ?_
    refine WL.y rfl (Y.fieldAddr fi25f1 ti23 (by decide) rfl (rfl) _) ?_
    refine WL.y rfl (Y.load1 Try.underlying23 rfl rfl ((hB.bel hb10).cell 1)) ?_
    refine WL.y rfl (Y.lenSl Try.underlying23 (gs.bel hb) _) ?_
    refine WL.y rfl (Y.dF (Y.nei rfl rfl) (fun h => h rfl)) ?_
    refine WL.y rfl (Y.pickF rfl) ?_
    refine WL.nil ?_
    refine WC.condF (rfl) ?_
    refine WC.skip (thenQ.normal ?_)
    refine WC.seq ?_
    refine WC.seqR rfl ?_
    refine WL.y rfl (Y.assign) ?_
    refine WL.nil ?_
    refine WC.block ?_
    refine WC.loop (fun j => s.kids.length - j) (fun j f ds w' => j ≤ s.kids.length ∧ ds = [] ∧ Below w.heap.size w w' ∧ (Blk w' w.heap.size 25 [ev, kv] ∧ Blk w' w2.heap.size 25 [fv, jv]) ∧ ∃ J, f = Go.Cx.ov J [(2, .pointer (some ⟨w.heap.size, 0, none⟩)), (3, .pointer (some ⟨w2.heap.size, 0, none⟩)), (5, .int .i64 (j : Int))]) 0 ?_ ?_
    · exact ⟨by omega, rfl, Below.step hb hb10, ⟨hA.bel hb10, hB.bel hb10⟩, _, ov_mk ⟨rfl, rfl, rfl, trivial⟩⟩
    · rintro j _ _ wL ⟨hj, rfl, kL, ⟨hA4, hB4⟩, J, rfl⟩
      refine WC.seq ?_
      refine WC.seqR rfl ?_
      refine WL.y rfl (Y.move) ?_
      refine WL.y rfl (Y.fieldAddr fi25f1 ti23 (by decide) rfl (rfl) _) ?_
      refine WL.y rfl (Y.load1 Try.underlying23 rfl rfl (hA4.cell 1)) ?_
      refine WL.y rfl (Y.lenSl Try.underlying23 (hs.bel kL) _) ?_
      refine WL.y rfl (Y.lss rfl rfl) ?_
      refine WL.nil ?_
      refine WC.condD rfl (fun h0 => ?_) (fun h0 => ?_)
      · have hjl : j < s.kids.length := by omega
        have hja : j < lc.length := by omega
        have hjb : j < lf.length := by omega
        refine WC.skip (thenQ.normal ?_)
        refine WC.seq ?_
        refine WC.block ?_
        refine WC.seq ?_
        refine WC.regionB (fun i => Nat.beq i 10) [(0, .any), (1, .held), (2, .any), (3, .any), (4, .held), (5, .any), (6, .held), (7, .any), (8, .any), (9, .held), (10, .seq), (11, .any)] mixed (by kernel_rfl) (fun w6 hS6 hheap => ?_)
        refine RL.any rfl rfl (fun _ => Y.fieldAddr fi25f1 ti23 (by decide) rfl (rfl) _) ?_
        refine RL.held rfl rfl hS6 (fun _ hb9 => Y.load1 Try.underlying23 rfl rfl (cell_bel (hA4.cell 1) hb9)) ?_
        refine RL.any rfl rfl (fun _ => Y.move) ?_
        refine RL.yex rfl rfl (Y.idx Try.underlying23 ti25 (by decide) (hs.bel kL) rfl (by omega) (by omega)) ?_
        rintro _ ⟨b31, o31, rfl, hc31⟩
        refine RL.held rfl rfl hS6 (fun _ hb9 => Y.loadK Try.underlying25 rfl ti25 (lc[j].h) rfl (Cells.bel (elem_sh hja hc31) hb9)) ?_
        refine RL.any rfl rfl (fun _ => Y.fieldAddr fi25f1 ti23 (by decide) rfl (rfl) _) ?_
        refine RL.held rfl rfl hS6 (fun _ hb9 => Y.load1 Try.underlying23 rfl rfl (cell_bel (hB4.cell 1) hb9)) ?_
        refine RL.any rfl rfl (fun _ => Y.move) ?_
        refine RL.yex rfl rfl (Y.idx Try.underlying23 ti25 (by decide) (gs.bel kL) rfl (by omega) (by omega)) ?_
        rintro _ ⟨b36, o36, rfl, hc36⟩
        refine RL.held rfl rfl hS6 (fun _ hb9 => Y.loadK Try.underlying25 rfl ti25 (lf[j].h) rfl (Cells.bel (elem_sh hjb hc36) hb9)) ?_
        refine RL.call rfl rfl (C.func go22) (ih _ (List.getElem_mem hjl) _ _ _ (((h2 j hjl hja).bel kL).bel hS6) (((g2 j hjl hjb).bel kL).bel hS6)) ?_
        rintro _ w38 ⟨rfl, hb38⟩
        refine ⟨.inl rfl, ?_⟩
        refine RL.any rfl rfl (fun _ => Y.bF (Y.not rfl) (rfl)) ?_
        refine RL.nil (thenQ.normal ?_)
        refine WC.condF (rfl) ?_
        refine WC.skip (inBlockQ.normal (thenQ.normal ?_))
        refine WC.region rfl ?_
        refine WL.y rfl (Y.move) ?_
        refine WL.y rfl (Y.add64 rfl rfl (by omega)) ?_
        refine WL.y rfl (Y.assign) ?_
        refine WL.nil (thenQ.normal ?_)
        exact ⟨j + 1, by omega, by omega, rfl, Below.step (Below.step kL hS6) hb38, ⟨(hA4.bel hS6).bel hb38, (hB4.bel hS6).bel hb38⟩, _, ov_mk ⟨rfl, rfl, rfl, trivial⟩⟩
      · refine WC.exit (thenQ.exit (thenQ.exit (inBlockQ.hit (thenQ.normal ?_))))
        refine WC.seqR rfl ?_
        refine WL.y rfl (Y.assign) ?_
        refine WL.nil ?_
        refine WC.ret (endQ.one (.inr rfl) ?_)
        exact ⟨rfl, kL⟩
end Go.Proofs.Ytpefeefmdlfafaa
