/-
  ref23: the queue of the document: walks.
-/
import Derived.Test.YtcbdpcehacklhaaQue10
namespace Go.Proofs.Ytcbdpcehacklhaa
open Go Go.RowKit Go.Cx
set_option linter.unusedVariables false
set_option maxHeartbeats 8000000
set_option maxRecDepth 20000
/-- a list of numbered mutators whose row is a new one; the mutators lie as they did at w0 -/
def RL0 (w0 w : World) (M : Nat → Prop) (l : List (Int × Mt)) (r : Value) : Prop := ∃ (bl : Nat) (lc : List MC), lc.length = l.length ∧ (r = .slice none 0 0 ∨ M bl) ∧ OwnK w bl 43 20 r l.length ((nums l lc).flatMap nc) ∧ ∀ j (h : j < l.length) (h' : j < lc.length), MtAt w0 l[j].2 lc[j].c
theorem RL0.kept {w0 w w' : World} {M M' : Nat → Prop} {l : List (Int × Mt)} {r : Value} (h : RL0 w0 w M l r) (hk : Kept M' w w') (hM : ∀ b, M b → ¬ M' b) : RL0 w0 w' M l r := by
  obtain ⟨bl, lc, a1, a2, a3, a4⟩ := h
  refine ⟨bl, lc, a1, a2, ?_, a4⟩
  rcases a2 with e | e
  · rw [e] at a3 ⊢; exact own_nilAny a3
  · exact a3.kept hk (hM _ e)
theorem RL0.bel {w0 w w' : World} {M : Nat → Prop} {l : List (Int × Mt)} {r : Value} (h : RL0 w0 w M l r) (hb : Below w.heap.size w w') : RL0 w0 w' M l r := h.kept (M' := fun _ => False) (Kept.of_bel hb) (fun _ _ h => h)
theorem RL0.mono {w0 w : World} {M M' : Nat → Prop} {l : List (Int × Mt)} {r : Value} (h : RL0 w0 w M l r) (hM : ∀ b, b < w.heap.size → M b → M' b) : RL0 w0 w M' l r := by
  obtain ⟨bl, lc, a1, a2, a3, a4⟩ := h
  refine ⟨bl, lc, a1, ?_, a3, a4⟩
  rcases a2 with e | e
  · exact .inl e
  · rcases a3.2 with ⟨e2, _⟩ | ⟨o, cap, cur, hv, hb, _⟩
    · exact .inl e2
    · exact .inr (hM _ (Array.getElem?_eq_some_iff.1 hb).1 e)
theorem RL0.at {w0 w : World} {M : Nat → Prop} {l : List (Int × Mt)} {r : Value} (h : RL0 w0 w M l r) (hb : Below w0.heap.size w0 w) : NLAt w l r := by
  obtain ⟨bl, lc, a1, a2, a3, a4⟩ := h
  exact ⟨lc, a1, a3.sl, fun j h h' => (a4 j h h').bel hb⟩
/-- the document's queue in memory -/
def RQ (w0 w : World) (M : Nat → Prop) (q : Nat) (last : Int) (ms : List Mt) : Prop := ∃ r, Blk w q 63 [.int .u64 last, .int .u64 (last + ms.length + 1), r] ∧ M q ∧ RL0 w0 w (fun b => M b ∧ b ≠ q) (numd last ms) r ∧ (0 ≤ last ∧ last + ms.length ≤ 4611686018427387903) ∧ ms.length ≤ 100000
theorem RQ.kept {w0 w w' : World} {M M' : Nat → Prop} {q : Nat} {last : Int} {ms : List Mt} (h : RQ w0 w M q last ms) (hk : Kept M' w w') (hM : ∀ b, M b → ¬ M' b) : RQ w0 w' M q last ms := by
  obtain ⟨r, h1, h2, h3, h4⟩ := h
  exact ⟨r, h1.kept hk (hM _ h2), h2, h3.kept hk (fun b h => hM b h.1), h4⟩
theorem RQ.bel {w0 w w' : World} {M : Nat → Prop} {q : Nat} {last : Int} {ms : List Mt} (h : RQ w0 w M q last ms) (hb : Below w.heap.size w w') : RQ w0 w' M q last ms := h.kept (M' := fun _ => False) (Kept.of_bel hb) (fun _ _ h => h)
theorem RQ.mono {w0 w : World} {M M' : Nat → Prop} (hM : ∀ b, b < w.heap.size → M b → M' b) {q : Nat} {last : Int} {ms : List Mt} (h : RQ w0 w M q last ms) : RQ w0 w M' q last ms := by
  obtain ⟨r, h1, h2, h3, h4⟩ := h
  exact ⟨r, h1, hM _ h1.lt h2, h3.mono (fun b hb h => ⟨hM b hb h.1, h.2⟩), h4⟩
theorem RL0.sl {w0 w : World} {M : Nat → Prop} {a : Int} {ms : List Mt} {r : Value} (h : RL0 w0 w M (numd a ms) r) : ∃ (bl : Nat) (lc : List MC), lc.length = ms.length ∧ SlK w 20 r ms.length ((nums (numd a ms) lc).flatMap nc) ∧ (∀ j (h : j < (numd a ms).length) (h' : j < lc.length), MtAt w0 (numd a ms)[j].2 lc[j].c) := by
  obtain ⟨bl, lc, h1, h2, h3, h4⟩ := h
  have := h3.sl
  rw [numd_len] at this h1
  exact ⟨bl, lc, h1, this, h4⟩
theorem nums_ones {w : World} {l : List (Int × Mt)} {lc : List MC} (h1 : lc.length = l.length) (h : ∀ j (h : j < l.length) (h' : j < lc.length), MtAt w l[j].2 lc[j].c) : ∀ u ∈ (nums l lc).flatMap nc, One u = true := num_ones h1 h
theorem radd_fin {w0 w w26 w27 w28 : World} {M : Nat → Prop} {q : Nat} {last : Int} {ms : List Mt} {m : Mt} {c : List Value} {lc : List MC} {v : Value} (hrg : (0 ≤ last ∧ last + ms.length ≤ 4611686018427387903) ∧ ms.length ≤ 100000) (hm : MtAt w0 m c) (hM : M q) (hql : q < w.heap.size) (hr : last + ms.length + 1 ≤ 4611686018427387903) (hl : ms.length < 100000)
    (n1 : lc.length = (numd last ms).length) (n4 : ∀ j (h : j < (numd last ms).length) (h' : j < lc.length), MtAt w0 (numd last ms)[j].2 lc[j].c) (k : Below w.heap.size w w26) (ho : w26.ownsRow w.heap.size 43 20 v (0 + (numd last ms).length + 1) ([] ++ (nums (numd last ms) lc).flatMap nc ++ (.int .u64 (last + ms.length + 1) :: c)))
    (hg27 : w26.grownBy w27 (some q)) (hg28 : w27.grownBy w28 (some q)) (hB : Blk w28 q 63 [.int .u64 last, .int .u64 (last + ms.length + 1 + 1), v]) : RQ w0 w28 (fun b => M b ∨ w.heap.size ≤ b) q last (ms ++ [m]) ∧ Kept (fun b => b = q) w w28 := by
  have hnm : numd last (ms ++ [m]) = numd last ms ++ [(last + ms.length + 1, m)] := by rw [numd_app]; rfl
  have hqq := OwnK.of_own ho
  obtain ⟨bl, hbl, hO⟩ := hqq
  have kQ : Kept (fun b => b = q) w26 w28 := (Kept.of_grown (M := fun b => b = q) hg27 rfl).trans (Kept.of_grown (M := fun b => b = q) hg28 rfl)
  have hO2 := hO.kept kQ (by omega)
  have en : (((ms ++ [m]).length : Nat) : Int) = ms.length + 1 := by simp
  refine ⟨⟨v, ?_, .inl hM, ⟨bl, lc ++ [⟨c, hm.len⟩], ?_, .inr ⟨.inr hbl, by omega⟩, ?_, ?_⟩, ?_, ?_⟩, (Kept.of_bel k).trans kQ⟩
  · rw [en, ← Int.add_assoc]; exact hB
  · rw [hnm]; simp [n1]
  · rw [hnm, List.length_append, List.length_singleton]
    have e : (nums (numd last ms ++ [(last + ms.length + 1, m)]) (lc ++ [⟨c, hm.len⟩])).flatMap nc = [] ++ (nums (numd last ms) lc).flatMap nc ++ (.int .u64 (last + ms.length + 1) :: c) := by
      unfold nums
      rw [List.map_append, List.zip_append (by rw [List.length_map]; omega), List.flatMap_append]
      simp [nc]
    rw [e]
    rw [Nat.zero_add] at hO2
    exact hO2
  · rw [hnm]
    intro j hj hj'
    by_cases e : j < (numd last ms).length
    · have e' : j < lc.length := by omega
      rw [List.getElem_append_left e, List.getElem_append_left e']
      exact n4 j e e'
    · have e2 : j = (numd last ms).length := by simp only [List.length_append, List.length_cons, List.length_nil] at hj; omega
      subst e2
      rw [List.getElem_append_right (Nat.le_refl _), List.getElem_append_right (by omega)]
      simp only [n1, Nat.sub_self, List.getElem_cons_zero]
      exact hm
  · rw [en]; omega
  · rw [List.length_append, List.length_singleton]; omega
theorem radd_ret {w0 w : World} {M : Nat → Prop} {q : Nat} {last : Int} {ms : List Mt} (h : RQ w0 w M q last ms) (m : Mt) (c : List Value) (hm : MtAt w0 m c) (hr : last + ms.length + 1 ≤ 4611686018427387903) (hl : ms.length < 100000) (hw : Below w0.heap.size w0 w) : Ret Try.prog 24 [.pointer (some ⟨q, 0, none⟩), .agg c.toArray].toArray w fun v w' => v = .tuple #[.int .u64 (last + ms.length + 1), .int .i64 0] ∧ RQ w0 w' (fun b => M b ∨ w.heap.size ≤ b) q last (ms ++ [m]) ∧ Kept (fun b => b = q) w w' := by
  obtain ⟨r, hB, hM, ⟨bl, lc, n1, n2, n3, n4⟩, hrg⟩ := h
  have hnl := numd_len last ms
  have hcl := hm.len
  have hql := hB.lt
  have hmx : maxLen = 9223372036854775807 := rfl
  have hone := hm.one
  have hones := nums_ones n1 n4
  have hqq := nineteen hcl
  obtain ⟨a0, a1, a2, a3, a4, a5, a6, a7, a8, a9, b0, b1, b2, b3, b4, b5, b6, b7, b8, rfl⟩ := hqq
  refine Ret.of (n := 35) (rs := #[.tmp 4, .tmp 5]) Try.func24 rfl rfl rfl (by simp) ?_
  refine WC.seqR rfl ?_
  refine WL.eex rfl (E.boxX) ?_
  rintro _ w3 ⟨rfl, hB3, hb3⟩
  have k3 := hb3
  refine WL.y rfl (Y.assign) ?_
  refine WL.y rfl (Y.assign) ?_
  refine WL.nil ?_
  refine WC.seq ?_
  refine WC.seqR rfl ?_
  refine WL.y rfl (Y.move) ?_
  refine WL.y rfl (Y.nilCheck rfl) ?_
  refine WL.y rfl (Y.fieldAddr fi63f1 ti33 (by decide) rfl (rfl) _) ?_
  refine WL.y rfl (Y.load1 Try.underlying33 rfl rfl ((hB.bel hb3).cell 1)) ?_
  refine WL.y rfl (Y.gtr rfl rfl) ?_
  refine WL.nil ?_
  refine WC.condD rfl (fun c0 => ?_) (fun c0 => ?_)
  · exfalso; omega
  · have hB3' := hB.bel hb3
    have hx3 : Blk w3 w.heap.size 30 [a0, a1, a2, a3, a4, a5, a6, a7, a8, a9, b0, b1, b2, b3, b4, b5, b6, b7, b8] := hB3
    have s3 := hb3.size
    clear hB3
    refine WC.skip (thenQ.normal ?_)
    refine WC.seqR rfl ?_
    refine WL.y rfl (Y.move) ?_
    refine WL.y rfl (Y.nilCheck rfl) ?_
    refine WL.y rfl (Y.fieldAddr fi63f1 ti33 (by decide) rfl (rfl) _) ?_
    refine WL.y rfl (Y.load1 Try.underlying33 rfl rfl (hB3'.cell 1)) ?_
    refine WL.y rfl (Y.assign) ?_
    refine WL.nil ?_
    refine WC.seq ?_
    refine WC.regionTB (fun i => Nat.beq i 10 || Nat.beq i 13) (.one 0 .any (.one 1 .any (.one 2 .any (.one 3 .any (.one 4 .held (.one 6 .any (.one 7 .held (.one 8 .any (.two 5 9 (.one 9 .seq (.one 10 .seq (.one 11 .any (.one 12 .any (.one 13 .seq .nil))))) (.one 5 .seq (.one 10 .seq (.one 11 .any (.one 12 .any (.one 13 .seq .nil)))))))))))))) mixed (by kernel_rfl) (fun wr4 hS4 hheap => ?_)
    have kr4 := Below.step k3 hS4
    refine RT.any rfl rfl (fun _ => Y.move) ?_
    refine RT.any rfl rfl (fun _ => Y.move) ?_
    refine RT.any rfl rfl (fun _ => Y.nilCheck rfl) ?_
    refine RT.any rfl rfl (fun _ => Y.fieldAddr fi63f2 ti34 (by decide) rfl (rfl) _) ?_
    refine RT.held rfl rfl hS4 (fun _ hb9 => Y.load1 Try.underlying34 rfl rfl (cell_bel (hB3'.cell 2) hb9)) ?_
    refine RT.any rfl rfl (fun _ => Y.move) ?_
    refine RT.held rfl rfl hS4 (fun _ hb9 => Y.loadK Try.underlying30 rfl ti30 (rfl) rfl (Cells.bel hx3.cells hb9)) ?_
    refine RT.any rfl rfl (fun _ => Y.build (cells := (.int .u64 (last + ms.length + 1) :: [a0, a1, a2, a3, a4, a5, a6, a7, a8, a9, b0, b1, b2, b3, b4, b5, b6, b7, b8]).toArray) (by kernel_rfl) _) ?_
    refine RT.two ?_ ?_
    · refine RT.eex rfl rfl (E.append Try.underlying34 ti43 rfl (by decide) (World.ownsRow_nil _ w.heap.size _ 20) (n3.sl.bel kr4) hones (by omega) (by omega) (kr4).size) ?_ ?_
      · exact fun _ _ h9 => .inr (fun h => h.trans (below_of_grown h9.2.2 h.size (fun k e => by cases e)))
      rintro v21 w21 ⟨ho21, hb21, hg21⟩ 
      have k21 := kr4.trans hb21
      have hb21' := below_of_grown hg21 (Nat.le_refl _) (fun k e => by cases e)
      refine RT.eex rfl rfl (E.build1A (c := .int .u64 (last + ms.length + 1) :: [a0, a1, a2, a3, a4, a5, a6, a7, a8, a9, b0, b1, b2, b3, b4, b5, b6, b7, b8]) Try.underlying34 ti43 rfl (by decide) (by decide) rfl) ?_ ?_
      · exact fun _ _ h9 => .inr (fun h => Below.step h h9.2.2.1)
      rintro _ w25 ⟨rfl, ho25, hb25, -⟩ 
      have k25 := Below.step k21 hb25
      refine RT.eex rfl rfl (E.append Try.underlying34 ti43 rfl (by decide) (by first | exact ho21 | exact ownsRow_bel ho21 hb25) (by first | exact ownsRow_sl ho25 | exact (ownsRow_sl ho25).bel hb21') (one_u64 hone) (by omega) (by omega) (k25).size) ?_ ?_
      · exact fun _ _ _ => .inl rfl
      rintro v26 w26 ⟨ho26, hb26, -⟩
      have k26 := k25.trans hb26
      refine RT.any rfl rfl (fun _ => Y.nilCheck rfl) ?_
      refine RT.any rfl rfl (fun _ => Y.fieldAddr fi63f2 ti34 (by decide) rfl (rfl) _) ?_
      refine RT.eex rfl rfl (E.storeX (u := v26) ti34 rfl rfl (ownsRow_sl ho26).one (hB.belB k26 hql) (by simp)) ?_ ?_
      · exact fun _ _ _ => .inl rfl
      rintro _ w27 ⟨hB27, hg27, -⟩
      refine RT.nil (thenQ.normal ?_)
      refine WC.seqR rfl ?_
      refine WL.y rfl (Y.move) ?_
      refine WL.y rfl (Y.move) ?_
      refine WL.y rfl (Y.addU64 rfl rfl (by omega)) ?_
      refine WL.y rfl (Y.nilCheck rfl) ?_
      refine WL.y rfl (Y.fieldAddr fi63f1 ti33 (by decide) rfl (rfl) _) ?_
      refine WL.eex rfl (E.storeX (u := .int .u64 (last + ms.length + 1 + 1)) ti33 rfl rfl rfl hB27 (by simp)) ?_
      rintro _ w28 ⟨hB28, hg28, -⟩
      refine WL.nil ?_
      refine WC.seqR rfl ?_
      refine WL.y rfl (Y.move) ?_
      refine WL.y rfl (Y.assign) ?_
      refine WL.y rfl (Y.assign) ?_
      refine WL.nil ?_
      refine WC.ret (endQ.two (.inr rfl) ?_)
      exact ⟨rfl, radd_fin hrg hm hM hql hr hl n1 n4 k26 ho26 hg27 hg28 hB28⟩
    · refine RT.eex rfl rfl (E.build1A (c := .int .u64 (last + ms.length + 1) :: [a0, a1, a2, a3, a4, a5, a6, a7, a8, a9, b0, b1, b2, b3, b4, b5, b6, b7, b8]) Try.underlying34 ti43 rfl (by decide) (by decide) rfl) ?_ ?_
      · exact fun _ _ h9 => .inr (fun h => Below.step h h9.2.2.1)
      rintro _ w25 ⟨rfl, ho25, hb25, -⟩ 
      have k25 := Below.step kr4 hb25
      refine RT.eex rfl rfl (E.append Try.underlying34 ti43 rfl (by decide) (World.ownsRow_nil _ w.heap.size _ 20) (n3.sl.bel k25) hones (by omega) (by omega) (k25).size) ?_ ?_
      · exact fun _ _ h9 => .inr (fun h => h.trans (below_of_grown h9.2.2 h.size (fun k e => by cases e)))
      rintro v21 w21 ⟨ho21, hb21, hg21⟩ 
      have k21 := k25.trans hb21
      have hb21' := below_of_grown hg21 (Nat.le_refl _) (fun k e => by cases e)
      refine RT.eex rfl rfl (E.append Try.underlying34 ti43 rfl (by decide) (by first | exact ho21 | exact ownsRow_bel ho21 hb25) (by first | exact ownsRow_sl ho25 | exact (ownsRow_sl ho25).bel hb21') (one_u64 hone) (by omega) (by omega) (k21).size) ?_ ?_
      · exact fun _ _ _ => .inl rfl
      rintro v26 w26 ⟨ho26, hb26, -⟩
      have k26 := k21.trans hb26
      refine RT.any rfl rfl (fun _ => Y.nilCheck rfl) ?_
      refine RT.any rfl rfl (fun _ => Y.fieldAddr fi63f2 ti34 (by decide) rfl (rfl) _) ?_
      refine RT.eex rfl rfl (E.storeX (u := v26) ti34 rfl rfl (ownsRow_sl ho26).one (hB.belB k26 hql) (by simp)) ?_ ?_
      · exact fun _ _ _ => .inl rfl
      rintro _ w27 ⟨hB27, hg27, -⟩
      refine RT.nil (thenQ.normal ?_)
      refine WC.seqR rfl ?_
      refine WL.y rfl (Y.move) ?_
      refine WL.y rfl (Y.move) ?_
      refine WL.y rfl (Y.addU64 rfl rfl (by omega)) ?_
      refine WL.y rfl (Y.nilCheck rfl) ?_
      refine WL.y rfl (Y.fieldAddr fi63f1 ti33 (by decide) rfl (rfl) _) ?_
      refine WL.eex rfl (E.storeX (u := .int .u64 (last + ms.length + 1 + 1)) ti33 rfl rfl rfl hB27 (by simp)) ?_
      rintro _ w28 ⟨hB28, hg28, -⟩
      refine WL.nil ?_
      refine WC.seqR rfl ?_
      refine WL.y rfl (Y.move) ?_
      refine WL.y rfl (Y.assign) ?_
      refine WL.y rfl (Y.assign) ?_
      refine WL.nil ?_
      refine WC.ret (endQ.two (.inr rfl) ?_)
      exact ⟨rfl, radd_fin hrg hm hM hql hr hl n1 n4 k26 ho26 hg27 hg28 hB28⟩
end Go.Proofs.Ytcbdpcehacklhaa
