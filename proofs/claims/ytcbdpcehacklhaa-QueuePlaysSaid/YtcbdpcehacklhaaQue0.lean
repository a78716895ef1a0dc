/-
  Numbered mutators; queue: twin, each: walks.
-/
import Derived.Test.YtcbdpcehacklhaaMut3
namespace Go.Proofs.Ytcbdpcehacklhaa
open Go Go.RowKit Go.Cx
set_option linter.unusedVariables false
set_option maxHeartbeats 8000000
/-- a numbered mutator's cells -/
def nc (p : Int × MC) : List Value := .int .u64 p.1 :: p.2.c
theorem nc_len (p : Int × MC) : (nc p).length = 20 := by simp [nc, p.2.h]
def nums (l : List (Int × Mt)) (lc : List MC) : List (Int × MC) := (l.map Prod.fst).zip lc
theorem nums_len {l : List (Int × Mt)} {lc : List MC} (h : lc.length = l.length) : (nums l lc).length = l.length := by unfold nums; rw [List.length_zip, List.length_map]; omega
theorem nums_get {l : List (Int × Mt)} {lc : List MC} {j : Nat} (h : j < l.length) (h' : j < lc.length) (h2 : j < (nums l lc).length) : (nums l lc)[j] = (l[j].1, lc[j]) := by
  simp only [nums, List.getElem_zip, List.getElem_map]
/-- a list of numbered mutators in memory -/
def NLAt (w : World) (l : List (Int × Mt)) (r : Value) : Prop := ∃ lc : List MC, lc.length = l.length ∧ SlK w 20 r l.length ((nums l lc).flatMap nc) ∧ ∀ j (h : j < l.length) (h' : j < lc.length), MtAt w l[j].2 lc[j].c
/-- a list of numbered mutators in rows of M; the list's own row is none of the mutators' -/
def NLW (w : World) (M : Nat → Prop) (l : List (Int × Mt)) (r : Value) : Prop := ∃ (bl : Nat) (lc : List MC), lc.length = l.length ∧ (r = .slice none 0 0 ∨ M bl) ∧ OwnK w bl 43 20 r l.length ((nums l lc).flatMap nc) ∧ ∀ j (h : j < l.length) (h' : j < lc.length), MtW w (fun b => M b ∧ b ≠ bl) l[j].2 lc[j].c
theorem NLAt.bel {w w' : World} {l : List (Int × Mt)} {r : Value} (h : NLAt w l r) (hb : Below w.heap.size w w') : NLAt w' l r := by
  obtain ⟨lc, h1, h2, h3⟩ := h
  exact ⟨lc, h1, h2.bel hb, fun j h h' => (h3 j h h').bel hb⟩
theorem NLW.at {w : World} {M : Nat → Prop} {l : List (Int × Mt)} {r : Value} (h : NLW w M l r) : NLAt w l r := by
  obtain ⟨bl, lc, h1, h2, h3, h4⟩ := h
  exact ⟨lc, h1, h3.sl, fun j h h' => (h4 j h h').at⟩
theorem NLW.kept {w w' : World} {M M' : Nat → Prop} (hk : Kept M' w w') (hM : ∀ b, M b → ¬ M' b) {l : List (Int × Mt)} {r : Value} (h : NLW w M l r) : NLW w' M l r := by
  obtain ⟨bl, lc, a1, a2, a3, a4⟩ := h
  refine ⟨bl, lc, a1, a2, ?_, fun j h h' => MtW.kept hk (fun b h => hM b h.1) (a4 j h h')⟩
  rcases a2 with e | e
  · rw [e] at a3 ⊢; exact own_nilAny a3
  · exact a3.kept hk (hM _ e)
theorem NLW.bel {w w' : World} {M : Nat → Prop} {l : List (Int × Mt)} {r : Value} (h : NLW w M l r) (hb : Below w.heap.size w w') : NLW w' M l r := NLW.kept (M' := fun _ => False) (Kept.of_bel hb) (fun _ _ h => h) h
theorem NLW.mono {w : World} {M M' : Nat → Prop} (hM : ∀ b, b < w.heap.size → M b → M' b) {l : List (Int × Mt)} {r : Value} (h : NLW w M l r) : NLW w M' l r := by
  obtain ⟨bl, lc, a1, a2, a3, a4⟩ := h
  refine ⟨bl, lc, a1, ?_, a3, fun j h h' => MtW.mono (fun b hb h => ⟨hM b hb h.1, h.2⟩) (a4 j h h')⟩
  rcases a2 with e | e
  · exact .inl e
  · rcases a3.2 with ⟨e2, _⟩ | ⟨o, cap, cur, hv, hb, _⟩
    · exact .inl e2
    · exact .inr (hM _ (Array.getElem?_eq_some_iff.1 hb).1 e)
theorem NLW.one {w : World} {M : Nat → Prop} {l : List (Int × Mt)} {r : Value} (h : NLW w M l r) : One r = true := by
  obtain ⟨bl, lc, a1, a2, a3, a4⟩ := h
  exact a3.sl.one
/-- numbered mutators appended so far -/
def NB (w : World) (B : Nat) (l : List (Int × Mt)) (j : Nat) (r : Value) (bl : Nat) (lc : List MC) : Prop := lc.length = j ∧ bl < w.heap.size ∧ (r = .slice none 0 0 ∨ B ≤ bl) ∧ OwnK w bl 43 20 r j ((nums (l.take j) lc).flatMap nc) ∧ ∀ i (h : i < l.length) (h' : i < lc.length), MtW w (fun b => B ≤ b ∧ b ≠ bl) l[i].2 lc[i].c
theorem NB.bel {w w' : World} {B : Nat} {l : List (Int × Mt)} {j : Nat} {r : Value} {bl : Nat} {lc : List MC} (h : NB w B l j r bl lc) (hb : Below w.heap.size w w') : NB w' B l j r bl lc :=
  ⟨h.1, Nat.lt_of_lt_of_le h.2.1 hb.size, h.2.2.1, h.2.2.2.1.bel hb, fun i h1 h2 => (h.2.2.2.2 i h1 h2).bel hb⟩
theorem NB.apart {w : World} {B : Nat} {l : List (Int × Mt)} {j : Nat} {r : Value} {bl : Nat} {lc : List MC} (h : NB w B l j r bl lc) : ∀ b, r.ownBlock = some b → B ≤ b := by
  intro b hb
  rcases h.2.2.1 with e | e
  · rw [e] at hb; cases hb
  · rcases h.2.2.2.1.own with e2 | e2 <;> rw [e2] at hb <;> cases hb
    exact e
theorem NB.zero {w : World} {B bl : Nat} {l : List (Int × Mt)} {r : Value} (h : bl < w.heap.size) (hr : r = .slice none 0 0 ∨ B ≤ bl) (ho : OwnK w bl 43 20 r 0 []) : NB w B l 0 r bl [] := ⟨rfl, h, hr, ho, fun i _ h => absurd h (by simp)⟩
theorem NB.done {w : World} {B : Nat} {l : List (Int × Mt)} {r : Value} {bl : Nat} {lc : List MC} (h : NB w B l l.length r bl lc) : NLW w (fun b => B ≤ b) l r := by
  refine ⟨bl, lc, h.1, h.2.2.1, ?_, h.2.2.2.2⟩
  have := h.2.2.2.1
  rwa [List.take_of_length_le (Nat.le_refl _)] at this
theorem nums_take {l : List (Int × Mt)} {lc : List MC} {j : Nat} {c : MC} (h1 : lc.length = j) (hj : j < l.length) : (nums (l.take (j + 1)) (lc ++ [c])).flatMap nc = (nums (l.take j) lc).flatMap nc ++ nc (l[j].1, c) := by
  unfold nums
  rw [List.take_succ_eq_append_getElem hj, List.map_append, List.zip_append (by rw [List.length_map, List.length_take]; omega), List.flatMap_append]
  simp
theorem NB.append {w w' : World} {B bl bl' j : Nat} {l : List (Int × Mt)} {r r' : Value} {lc : List MC} {c : MC} (h : NB w B l j r bl lc) (hB : B ≤ w.heap.size) (hj : j < l.length) (hx : MtW w (fun b => B ≤ b ∧ b ≠ bl) l[j].2 c.c) (ho : OwnK w' bl' 43 20 r' (j + 1) ((nums (l.take j) lc).flatMap nc ++ nc (l[j].1, c))) (hbl : (bl' = bl ∧ r ≠ .slice none 0 0) ∨ w.heap.size ≤ bl') (hg : w.grownBy w' r.ownBlock) : NB w' B l (j + 1) r' bl' (lc ++ [c]) := by
  obtain ⟨h1, h2, h3, h4, h5⟩ := h
  have hk := own_row h4 hg
  refine ⟨by simp [h1], ?_, ?_, by rw [nums_take h1 hj]; exact ho, fun i hi hi' => ?_⟩
  · have hqq := ho.form (by omega)
    obtain ⟨_, _, _, _, _, h⟩ := hqq
    exact h
  · right
    rcases hbl with ⟨rfl, e⟩ | e
    · exact h3.resolve_left e
    · omega
  · by_cases e : i < lc.length
    · rw [List.getElem_append_left e]
      exact MtW.append (h5 i hi e) hbl hk
    · have e2 : i = j := by simp only [List.length_append, List.length_cons, List.length_nil] at hi'; omega
      subst e2
      rw [List.getElem_append_right (by omega)]
      simp only [h1, Nat.sub_self, List.getElem_cons_zero]
      exact MtW.append hx hbl hk
/-- one of a list, by its cells -/
theorem elem_num {w : World} {b o j : Nat} {l : List (Int × Mt)} {lc : List MC} (h : j < l.length) (h' : j < lc.length) (hc : Cells w b o ((((nums l lc).flatMap nc).drop ((j : Int).toNat * 20)).take 20)) : Cells w b o (.int .u64 l[j].1 :: lc[j].c) := by
  have hz : j < (nums l lc).length := by unfold nums; rw [List.length_zip, List.length_map]; omega
  rw [Int.toNat_natCast, flat_at nc_len _ j hz, nums_get h h' hz] at hc
  exact hc
theorem one_u64 {k : Int} {c : List Value} (h : ∀ u ∈ c, One u = true) : ∀ u ∈ Value.int .u64 k :: c, One u = true := by
  intro u hu
  rcases List.mem_cons.1 hu with rfl | hu
  · rfl
  · exact h u hu
theorem nineteen {c : List Value} (h : c.length = 19) : ∃ a0 a1 a2 a3 a4 a5 a6 a7 a8 a9 b0 b1 b2 b3 b4 b5 b6 b7 b8, c = [a0, a1, a2, a3, a4, a5, a6, a7, a8, a9, b0, b1, b2, b3, b4, b5, b6, b7, b8] := by
  match c, h with
  | [a0, a1, a2, a3, a4, a5, a6, a7, a8, a9, b0, b1, b2, b3, b4, b5, b6, b7, b8], _ => exact ⟨a0, a1, a2, a3, a4, a5, a6, a7, a8, a9, b0, b1, b2, b3, b4, b5, b6, b7, b8, rfl⟩
theorem twin_ret (i : Int) (m : Mt) (w : World) (c : List Value) (hm : MtAt w m c) : Ret Try.prog 28 [.agg (.int .u64 i :: c).toArray].toArray w fun r w' => ∃ c', r = .agg (.int .u64 i :: c').toArray ∧ MtW w' (fun b => w.heap.size ≤ b) m c' ∧ Below w.heap.size w w' := by
  have hl := hm.len
  refine Ret.of (n := 9) (rs := #[.cell 2 43]) Try.func28 rfl rfl rfl (by simp) ?_
  refine WC.seqR rfl ?_
  refine WL.eex rfl (E.boxX) ?_
  rintro _ w1 ⟨rfl, hB1, hb1⟩
  refine WL.eex rfl (E.allocX ti43) ?_
  rintro _ w2 ⟨rfl, hB2, hb2⟩
  refine WL.nil ?_
  refine WC.seq ?_
  have hx1 : Blk w2 w.heap.size 43 (.int .u64 i :: c) := (show Blk _ _ _ (.int .u64 i :: c) from hB1).bel hb2
  have hx2 : ∃ us, us.length = 20 ∧ Blk w2 w1.heap.size 43 us := ⟨_, rfl, hB2⟩
  obtain ⟨us, hus, hx2⟩ := hx2
  have l1 := (show Blk w1 _ _ _ from hB1).lt
  have l2 := hx2.lt
  have s2 := hb2.size
  have k2 : Below w.heap.size w w2 := Below.step hb1 hb2
  clear hB1 hB2
  refine WC.regionB (fun i => Nat.beq i 6) [(0, .any), (1, .held), (2, .any), (3, .held), (4, .seq), (5, .any), (6, .seq)] mixed (by kernel_rfl) (fun w1x hS1 hheap => ?_)
  refine RL.any rfl rfl (fun _ => Y.fieldAddr fi43f0 ti33 (by decide) rfl (rfl) _) ?_
  refine RL.held rfl rfl hS1 (fun _ hb9 => Y.load1 Try.underlying33 rfl rfl (cell_bel (hx1.cell 0) hb9)) ?_
  refine RL.any rfl rfl (fun _ => Y.fieldAddr fi43f1 ti30 (by decide) rfl (rfl) _) ?_
  refine RL.held rfl rfl hS1 (fun _ hb9 => Y.loadK Try.underlying30 rfl ti30 (hl) rfl (Cells.bel (Cells.tl hx1.cells) hb9)) ?_
  refine RL.call rfl rfl (C.func go30) (mcopy_ret m _ _ ((hm.bel k2).bel hS1)) ?_
  rintro _ w7 ⟨c7, rfl, h7, hb7⟩
  refine ⟨.inr (fun h => Below.step h hb7), ?_⟩
  have l7 := h7.len
  have hqq := nineteen l7
  obtain ⟨a0, a1, a2, a3, a4, a5, a6, a7, a8, a9, b0, b1, b2, b3, b4, b5, b6, b7, b8, rfl⟩ := hqq
  refine RL.any rfl rfl (fun _ => Y.build (cells := (.int .u64 i :: [a0, a1, a2, a3, a4, a5, a6, a7, a8, a9, b0, b1, b2, b3, b4, b5, b6, b7, b8]).toArray) (by kernel_rfl) _) ?_
  refine RL.eex rfl rfl (E.storeAllK (us := .int .u64 i :: [a0, a1, a2, a3, a4, a5, a6, a7, a8, a9, b0, b1, b2, b3, b4, b5, b6, b7, b8]) ti43 rfl rfl rfl (one_u64 h7.one) ((hx2.bel hS1).bel hb7) hus) ?_ ?_
  · exact fun _ _ _ => .inl rfl
  rintro _ w8 ⟨hB8, hg8⟩
  refine RL.nil (thenQ.normal ?_)
  refine WC.ret ?_
  have sS := hS1.size
  have s7 := hb7.size
  have kM : Kept (fun b => b = w1.heap.size) w7 w8 := Kept.of_grown hg8 rfl
  exact endQ.cellN Try.underlying43 rfl ti43 (.inr rfl) rfl hB8.cells ⟨_, rfl, (MtW.kept kM (fun b h1 h2 => by omega) h7).mono (fun b _ h => by omega), Below.stepG (Below.step (Below.step k2 hS1) hb7) hg8 (by omega)⟩
theorem each_ret (l : List (Int × Mt)) (r : Value) (w : World) (h : NLAt w l r) (hlen : l.length ≤ 517417236585) : Ret Try.prog 29 [r, .func (.func 28) #[] #[]].toArray w fun v w' => NLW w' (fun b => w.heap.size ≤ b) l v ∧ Below w.heap.size w w' := by
  obtain ⟨lc, h1, h2, h3⟩ := h
  have hmx : maxLen = 9223372036854775807 := rfl
  refine Ret.of (n := 25) (rs := #[.tmp 4]) Try.func29 rfl rfl rfl (by simp) ?_
  refine WC.seqR rfl ?_
  refine WL.y rfl (Y.assign) ?_
  refine WL.nil ?_
  refine WC.seqR rfl ?_
  refine WL.y rfl (Y.move) ?_
  refine WL.y rfl (Y.lenSl Try.underlying34 (h2) _) ?_
  refine WL.eex rfl (E.make0K (c := l.length) Try.underlying34 ti43 rfl rfl rfl (by omega) (by omega)) ?_
  rintro _ w10 ⟨rfl, ho10, hb10, hz10⟩
  refine WL.y rfl (Y.assign) ?_
  refine WL.nil ?_
  refine WC.seq ?_
  refine WC.seqR rfl ?_
  refine WL.y rfl (Y.move) ?_
  refine WL.y rfl (Y.lenSl Try.underlying34 (h2) _) ?_
  refine WL.y rfl (Y.move) ?_
  refine WL.nil ?_
  refine WC.block ?_
  have s10 := hb10.size
  refine WC.loop (fun j => l.length - j) (fun j f ds w' => j ≤ l.length ∧ ds = [] ∧ Below w.heap.size w w' ∧ w10.heap.size ≤ w'.heap.size ∧ ∃ r' bl lc' J, NB w' w.heap.size l j r' bl lc' ∧ f = Go.Cx.ov J [(1, .func (.func 28) #[] #[]), (5, r'), (11, r), (12, .int .i64 (l.length : Int)), (13, .int .i64 (j : Int))]) 0 ?_ ?_
  · exact ⟨by omega, rfl, hb10, Nat.le_refl _, _, w.heap.size, [], _, NB.zero hz10 (.inr (Nat.le_refl _)) ho10, ov_mk ⟨rfl, rfl, rfl, rfl, rfl, trivial⟩⟩
  · rintro j _ _ wL ⟨hj, rfl, kL, sL, r', bl, lc', J, hNB, rfl⟩
    refine WC.seqR rfl ?_
    refine WL.y rfl (Y.lss rfl rfl) ?_
    refine WL.nil ?_
    refine WC.seq ?_
    refine WC.condD rfl (fun h0 => ?_) (fun h0 => ?_)
    · have hjl : j < l.length := by omega
      have hjc : j < lc.length := by omega
      have hbl := hNB.2.1
      have hml : (Value.int .u64 l[j].1 :: lc[j].c).length = 20 := by rw [List.length_cons, lc[j].h]
      refine WC.skip (thenQ.normal ?_)
      refine WC.seq ?_
      refine WC.block ?_
      refine WC.seqR rfl ?_
      refine WL.yex rfl (Y.idx Try.underlying34 ti43 (by decide) (h2.bel kL) rfl (by omega) (by omega)) ?_
      rintro _ ⟨b15, o15, rfl, hc15⟩
      refine WL.y rfl (Y.loadK Try.underlying43 rfl ti43 (hml) rfl (elem_num hjl hjc hc15)) ?_
      refine WL.eex rfl (E.allocX ti43) ?_
      rintro _ w7 ⟨rfl, hB7, hb7⟩
      refine WL.eex rfl (E.storeAllK (us := .int .u64 l[j].1 :: lc[j].c) ti43 hml rfl rfl (one_u64 (h3 j hjl hjc).one) hB7 rfl) ?_
      rintro _ w7s ⟨hB7', hg7⟩
      have b7 : Below wL.heap.size wL w7s := Below.stepG hb7 hg7 (Nat.le_refl _)
      have hv7 := ((h3 j hjl hjc).bel kL).bel b7
      refine WL.nil ?_
      refine WC.region rfl ?_
      refine WL.y rfl (Y.move) ?_
      refine WL.y rfl (Y.move) ?_
      refine WL.y rfl (Y.loadK Try.underlying43 rfl ti43 (hml) rfl (hB7'.cells)) ?_
      refine WL.call rfl (C.value go28 rfl) ((twin_ret l[j].1 l[j].2 _ _ hv7)) ?_
      rintro _ w20 ⟨c20, rfl, h20, hb20⟩
      have l20 : (Value.int .u64 l[j].1 :: c20).length = 20 := by rw [List.length_cons, h20.len]
      refine WL.eex rfl (E.build1A (c := .int .u64 l[j].1 :: c20) Try.underlying34 ti43 l20 (by decide) (by decide) rfl) ?_
      rintro _ w21 ⟨rfl, ho21, hb21, -⟩
      have bb : Below wL.heap.size wL w21 := Below.step (Below.step b7 hb20) hb21
      have hNB' := hNB.bel bb
      refine WL.eex rfl (E.appendN Try.underlying34 ti43 rfl (by decide) hNB'.2.2.2.1 (ownsRow_sl ho21) (one_u64 h20.one) (by omega) (by omega)) ?_
      rintro v22 w22 ⟨⟨bl', ho22, hbl'⟩, hg22⟩
      refine WL.y rfl (Y.assign) ?_
      refine WL.nil (inBlockQ.normal (thenQ.normal ?_))
      refine WC.region rfl ?_
      refine WL.y rfl (Y.add64 rfl rfl (by omega)) ?_
      refine WL.y rfl (Y.move) ?_
      refine WL.nil (thenQ.normal ?_)
      have s7 := b7.size
      have s20 := hb20.size
      have s21 := hb21.size
      have s22 := hg22.size
      have k22 : Below w.heap.size w w22 := (Below.step kL bb).trans (below_of_grown hg22 (by omega) (fun b e => hNB'.apart b e))
      have hNn := hNB'.append (c := ⟨c20, h20.len⟩) (by omega) hjl ((h20.bel hb21).mono (fun b _ h => ⟨by omega, by omega⟩)) ho22 hbl' hg22
      exact ⟨j + 1, by omega, by omega, rfl, k22, by omega, _, _, _, _, hNn, ov_mk ⟨rfl, rfl, rfl, rfl, rfl, trivial⟩⟩
    · have hje : j = l.length := by omega
      subst hje
      refine WC.exit (thenQ.exit (thenQ.exit (inBlockQ.hit (thenQ.normal ?_))))
      refine WC.seqR rfl ?_
      refine WL.y rfl (Y.move) ?_
      refine WL.y rfl (Y.assign) ?_
      refine WL.nil ?_
      refine WC.ret (endQ.one (.inr rfl) ?_)
      exact ⟨hNB.done, kL⟩
end Go.Proofs.Ytcbdpcehacklhaa
