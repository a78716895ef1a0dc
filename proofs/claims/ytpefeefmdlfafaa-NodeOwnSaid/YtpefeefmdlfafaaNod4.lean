/-
  Nodes in memory; node: copies, what a node tells: walks.
-/
import Derived.Test.YtpefeefmdlfafaaNod2
import Derived.Test.YtpefeefmdlfafaaVal21
namespace Go.Proofs.Ytpefeefmdlfafaa
open Go Go.RowKit Go.Cx
set_option linter.unusedVariables false
set_option maxHeartbeats 8000000
/-- entries in rows of M -/
def EW (w : World) (M : Nat → Prop) (l : List En) (r : Value) : Prop := ∃ (bl : Nat) (lc : List VC), lc.length = l.length ∧ (r = .slice none 0 0 ∨ M bl) ∧ OwnK w bl 42 7 r l.length ((ents l lc).flatMap mc) ∧ ∀ j (h : j < l.length) (h' : j < lc.length), VW w M l[j].2 lc[j].c
theorem EW.at {w : World} {M : Nat → Prop} {l : List En} {r : Value} (h : EW w M l r) : EAt w l r := by
  obtain ⟨bl, lc, h1, h2, h3, h4⟩ := h
  exact ⟨lc, h1, h3.sl, fun j h h' => (h4 j h h').at⟩
theorem EW.kept {w w' : World} {M M' : Nat → Prop} (hk : Kept M' w w') (hM : ∀ b, M b → ¬ M' b) {l : List En} {r : Value} (h : EW w M l r) : EW w' M l r := by
  obtain ⟨bl, lc, a1, a2, a3, a4⟩ := h
  refine ⟨bl, lc, a1, a2, ?_, fun j h h' => VW.kept hk hM (a4 j h h')⟩
  rcases a2 with e | e
  · rw [e] at a3 ⊢; exact own_nilAny a3
  · exact a3.kept hk (hM _ e)
theorem EW.bel {w w' : World} {M : Nat → Prop} {l : List En} {r : Value} (h : EW w M l r) (hb : Below w.heap.size w w') : EW w' M l r := EW.kept (M' := fun _ => False) (Kept.of_bel hb) (fun _ _ h => h) h
theorem EW.mono {w : World} {M M' : Nat → Prop} (hM : ∀ b, b < w.heap.size → M b → M' b) {l : List En} {r : Value} (h : EW w M l r) : EW w M' l r := by
  obtain ⟨bl, lc, a1, a2, a3, a4⟩ := h
  refine ⟨bl, lc, a1, ?_, a3, fun j h h' => VW.mono hM (a4 j h h')⟩
  rcases a2 with e | e
  · exact .inl e
  · rcases a3.2 with ⟨e2, _⟩ | ⟨o, cap, cur, hv, hb, _⟩
    · exact .inl e2
    · exact .inr (hM _ (Array.getElem?_eq_some_iff.1 hb).1 e)
theorem EW.nil {w : World} {M : Nat → Prop} : EW w M [] (.slice none 0 0) := ⟨0, [], rfl, .inl rfl, OwnK.nil, fun j h => absurd h (by simp)⟩
theorem EW.form {w : World} {M : Nat → Prop} {l : List En} {r : Value} (h : EW w M l r) : ∃ a n c, r = .slice a n c := by
  obtain ⟨bl, lc, h1, h2, h3, h4⟩ := h
  rcases h3.2 with ⟨e, _⟩ | ⟨o, cap, cur, e, _⟩
  · exact ⟨_, _, _, e⟩
  · exact ⟨_, _, _, e⟩
theorem copies_ret (l : List En) (r : Value) (w : World) (h : EAt w l r) (hlen : l.length ≤ 1353245080300) : Ret Try.prog 35 [r].toArray w fun v w' => EW w' (fun b => w.heap.size ≤ b) l v ∧ Below w.heap.size w w' := by
  obtain ⟨lc, a1, a2, a3⟩ := h
  have hmx : maxLen = 9223372036854775807 := rfl
  refine Ret.of (n := 27) (rs := #[.tmp 2]) Try.func35 rfl rfl rfl (by simp) ?_
  refine WC.seqR rfl ?_
  refine WL.y rfl (Y.assign) ?_
  refine WL.nil ?_
  refine WC.seqR rfl ?_
  refine WL.y rfl (Y.move) ?_
  refine WL.y rfl (Y.lenSl Try.underlying22 (a2) _) ?_
  refine WL.eex rfl (E.makeK (enc := mc) (n := l.length) zM mc_len (by decide) rfl Try.underlying22 ti42 rfl rfl rfl (by omega) (by omega)) ?_
  rintro _ w8 ⟨rfl, ho8, hb8⟩
  refine WL.y rfl (Y.assign) ?_
  refine WL.nil ?_
  refine WC.seq ?_
  refine WC.seqR rfl ?_
  refine WL.y rfl (Y.move) ?_
  refine WL.y rfl (Y.lenSl Try.underlying22 (a2) _) ?_
  refine WL.y rfl (Y.move) ?_
  refine WL.nil ?_
  refine WC.block ?_
  have s8 := hb8.size
  have hz : l.length = 0 ∨ w.heap.size < w8.heap.size := by
    by_cases h0 : 0 < l.length
    · have hqq := ho8.form h0
      obtain ⟨_, _, _, _, _, h⟩ := hqq
      exact .inr h
    · exact .inl (by omega)
  refine WC.loop (fun j => l.length - j) (fun j f ds w' => j ≤ l.length ∧ ds = [] ∧ Below w.heap.size w w' ∧ w8.heap.size ≤ w'.heap.size ∧ (∃ oc' : List (List UInt8 × VC), oc'.length = l.length ∧ OwnK w' w.heap.size 42 7 (.slice (some ⟨w.heap.size, 0, none⟩) l.length l.length) l.length (oc'.flatMap mc) ∧ ∀ i, i < j → ∀ h' : i < oc'.length, ∀ (h : i < l.length), oc'[i].1 = l[i].1 ∧ VW w' (fun b => w8.heap.size ≤ b) l[i].2 oc'[i].2.c) ∧ ∃ J, f = Go.Cx.ov J [(3, .slice (some ⟨w.heap.size, 0, none⟩) l.length l.length), (9, r), (10, .int .i64 (l.length : Int)), (11, .int .i64 (j : Int))]) 0 ?_ ?_
  · exact ⟨by omega, rfl, hb8, Nat.le_refl _, ⟨_, List.length_replicate, ho8, fun i hi => absurd hi (by omega)⟩, _, ov_mk ⟨rfl, rfl, rfl, rfl, trivial⟩⟩
  · clear ho8
    rintro j _ _ wL ⟨hj, rfl, kL, sL, ⟨oc', n1, n2, n3⟩, J, rfl⟩
    refine WC.seqR rfl ?_
    refine WL.y rfl (Y.lss rfl rfl) ?_
    refine WL.nil ?_
    refine WC.seq ?_
    refine WC.condD rfl (fun h5 => ?_) (fun h5 => ?_)
    · have hjl : j < l.length := by omega
      have hjc : j < lc.length := by omega
      have hjn : j < oc'.length := by omega
      have hml : (strv l[j].1 :: lc[j].c).length = 7 := by rw [List.length_cons, lc[j].h]
      have hmo : ∀ u ∈ strv l[j].1 :: lc[j].c, One u = true := one_strv (a3 j hjl hjc).one
      refine WC.skip (thenQ.normal ?_)
      refine WC.seq ?_
      refine WC.block ?_
      refine WC.seqR rfl ?_
      refine WL.y rfl (Y.move) ?_
      refine WL.yex rfl (Y.idx Try.underlying22 ti42 (by decide) (a2.bel kL) rfl (by omega) (by omega)) ?_
      rintro _ ⟨b14, o14, rfl, hc14⟩
      refine WL.y rfl (Y.loadK Try.underlying42 rfl ti42 (hml) rfl (elem_ent hjl hjc (by omega) hc14)) ?_
      refine WL.eex rfl (E.allocX ti42) ?_
      rintro _ w5 ⟨rfl, hB5, hb5⟩
      refine WL.y rfl (Y.assign) ?_
      refine WL.eex rfl (E.storeAllK (us := strv l[j].1 :: lc[j].c) ti42 hml rfl rfl hmo hB5 rfl) ?_
      rintro _ w5s ⟨hB5', hg5⟩
      have b5 : Below wL.heap.size wL w5s := Below.stepG hb5 hg5 (Nat.le_refl _)
      have hv5 := ((a3 j hjl hjc).bel kL).bel b5
      refine WL.nil ?_
      refine WC.regionB (fun i => Nat.beq i 9) [(0, .any), (1, .any), (2, .any), (3, .held), (4, .any), (5, .held), (6, .seq), (7, .any), (8, .any), (9, .seq)] mixed (by kernel_rfl) (fun w5x hS5 hheap => ?_)
      refine RL.any rfl rfl (fun _ => Y.move) ?_
      refine RL.any rfl rfl (fun _ => Y.move) ?_
      refine RL.any rfl rfl (fun _ => Y.fieldAddr fi42f0 ti9 (by decide) rfl (rfl) _) ?_
      refine RL.held rfl rfl hS5 (fun _ hb9 => Y.load1 Try.underlying9 rfl rfl (cell_bel (hB5'.cell 0) hb9)) ?_
      refine RL.any rfl rfl (fun _ => Y.fieldAddr fi42f1 ti40 (by decide) rfl (rfl) _) ?_
      refine RL.held rfl rfl hS5 (fun _ hb9 => Y.loadK Try.underlying40 rfl ti40 (lc[j].h) rfl (Cells.bel (Cells.tl hB5'.cells) hb9)) ?_
      refine RL.call rfl rfl (C.func go36) (copy_ret l[j].2 _ _ (hv5.bel hS5)) ?_
      rintro _ w22 ⟨c22, rfl, hw22, hb22⟩
      refine ⟨.inr (fun h => Below.step h hb22), ?_⟩
      have bb : Below wL.heap.size wL w22 := Below.step (Below.step b5 hS5) hb22
      have hqq := six hw22.len
      obtain ⟨p0, p1, p2, p3, p4, p5, rfl⟩ := hqq
      refine RL.any rfl rfl (fun _ => Y.build (cells := (strv l[j].1 :: [p0, p1, p2, p3, p4, p5]).toArray) (by kernel_rfl) _) ?_
      refine RL.any rfl rfl (fun _ => Y.idxV Try.underlying22 ti42 rfl rfl (by omega) (by omega) _) ?_
      refine RL.eex rfl rfl (E.storeK (i := j) (us := strv l[j].1 :: [p0, p1, p2, p3, p4, p5]) ti42 rfl rfl rfl (one_strv hw22.one) (n2.bel bb) hjl (by rw [Int.toNat_natCast])) ?_ ?_
      · exact fun _ _ _ => .inl rfl
      rintro _ w23 ⟨ho23, hg23⟩
      refine RL.nil (inBlockQ.normal (thenQ.normal ?_))
      refine WC.region rfl ?_
      refine WL.y rfl (Y.add64 rfl rfl (by omega)) ?_
      refine WL.y rfl (Y.move) ?_
      refine WL.nil (thenQ.normal ?_)
      have hfs := flat_set mc_len oc' j (l[j].1, ⟨[p0, p1, p2, p3, p4, p5], rfl⟩) hjn
      have b5s := b5.size
      have S5s := hS5.size
      have b22s := hb22.size
      have g23s := hg23.size
      have kM : Kept (fun b => b = w.heap.size) w22 w23 := Kept.of_grown hg23 rfl
      exact ⟨j + 1, by omega, by omega, rfl, Below.stepG (Below.step kL bb) hg23 (by omega), by omega, ⟨oc'.set j (l[j].1, ⟨[p0, p1, p2, p3, p4, p5], rfl⟩), by rw [List.length_set]; exact n1, by rw [← hfs]; exact ho23, set_done (P := fun i x => ∀ (h : i < l.length), x.1 = l[i].1 ∧ VW w23 (fun b => w8.heap.size ≤ b) l[i].2 x.2.c) (fun i hi h' h => ⟨(n3 i hi h' h).1, VW.kept kM (fun b h1 h2 => by omega) ((n3 i hi h' h).2.bel bb)⟩) (fun h => ⟨rfl, VW.kept kM (fun b h1 h2 => by omega) (hw22.mono (fun b _ h => by omega))⟩)⟩, _, ov_mk ⟨rfl, rfl, rfl, rfl, trivial⟩⟩
    · have hje : j = l.length := by omega
      have hzz : oc' = ents l (oc'.map Prod.snd) := by
        apply List.ext_getElem
        · rw [ents_len (by rw [List.length_map]; exact n1)]; exact n1
        · intro i h1 h2
          rw [ents_get (by omega) (by rw [List.length_map]; exact h1) h2, List.getElem_map]
          have := (n3 i (by omega) h1 (by omega)).1
          rw [← this]
      refine WC.exit (thenQ.exit (thenQ.exit (inBlockQ.hit (thenQ.normal ?_))))
      refine WC.seqR rfl ?_
      refine WL.y rfl (Y.move) ?_
      refine WL.y rfl (Y.assign) ?_
      refine WL.nil ?_
      refine WC.ret (endQ.one (.inr rfl) ?_)
      exact ⟨⟨w.heap.size, oc'.map Prod.snd, by rw [List.length_map]; exact n1, .inr (Nat.le_refl _), by rw [hzz] at n2; exact n2, fun i h h' => by rw [List.getElem_map]; exact (n3 i (by omega) (by rw [List.length_map] at h'; exact h') h).2.mono (fun b _ h => by omega)⟩, kL⟩
end Go.Proofs.Ytpefeefmdlfafaa
