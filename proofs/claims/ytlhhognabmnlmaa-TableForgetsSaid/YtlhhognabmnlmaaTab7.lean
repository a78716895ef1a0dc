/-
  table: Forget: walk.
-/
import Derived.Test.YtlhhognabmnlmaaTab6
namespace Go.Proofs.Ytlhhognabmnlmaa
open Go Go.RowKit Go.Cx
set_option linter.unusedVariables false
set_option maxHeartbeats 8000000
theorem Cells.tl {w : World} {b o : Nat} {u : Value} {us : List Value} (h : Cells w b o (u :: us)) : Cells w b (o + 1) us := by
  intro i v hv
  have := h (i + 1) v (by simpa using hv)
  rwa [show o + (i + 1) = o + 1 + i by omega] at this
theorem Cells.hd {w : World} {b o : Nat} {u : Value} {us : List Value} (h : Cells w b o (u :: us)) : w.cell? ⟨b, o, none⟩ = some u := h 0 u rfl
theorem Y.loadK {P : Program} {f : Fr} {w : World} {d : Option Tmp} {ty : TypeId} {pos : String} {aft : Array Edge} {g : Option (Nat × Bool)} {x : Operand} {t : TypeId} {ds' : TypeDesc} {z : Value} {n by' b o : Nat} {vs : List Value} (ht : P.underlying t = some ds') (ha : aggD ds' = true) (hi : TI P t z n by') (hn : vs.length = n) (hx : ev f x = .pointer (some ⟨b, o, none⟩)) (hc : Cells w b o vs) :
    Y P ⟨d, .load t x, ty, pos, aft, g⟩ f w (.agg vs.toArray) := by subst hn; exact Y.loadN ht ha hi hx hc
theorem E.storeAllK {P : Program} {f : Fr} {w : World} {d : Option Tmp} {ty : TypeId} {pos : String} {aft : Array Edge} {g : Option (Nat × Bool)} {x y : Operand} {t bt : TypeId} {z : Value} {n by' b : Nat} {us vs : List Value} (hi : TI P t z n by') (hn : us.length = n) (hx : ev f x = .pointer (some ⟨b, 0, none⟩)) (hy : ev f y = .agg us.toArray) (h1 : ∀ u ∈ us, One u = true) (hB : Blk w b bt vs) (hl : vs.length = n) :
    ∃ v w', E P ⟨d, .store t x y, ty, pos, aft, g⟩ f w v w' ∧ (Blk w' b bt us ∧ w.grownBy w' (some b)) := by
  subst hn
  exact E.storeAll hi hx hy h1 hB hl.symm
theorem Y.lookup1V {P : Program} {f : Fr} {w : World} {d : Option Tmp} {ty : TypeId} {pos : String} {aft : Array Edge} {g : Option (Nat × Bool)} {x y : Operand} {t K El : TypeId} {zv u : Value} {size bytes b : Nat} {m : List (Int × Value)} {a : Int} (ht : P.underlying t = some (.map K El)) (D : KD P K (.int .u64) ku) (hi : TI P El zv size bytes) (hx : ev f x = .map (some b)) (hm : MapN ku w b m) (hy : ev f y = ku a) (hu : (mget a m).getD zv = u) :
    Y P ⟨d, .lookup t x y false, ty, pos, aft, g⟩ f w u := hu ▸ Y.lookup1 ht D hi hx hm hy
theorem E.nextEnd {P : Program} {f : Fr} {w : World} {d : Option Tmp} {ty : TypeId} {pos : String} {aft : Array Edge} {g : Option (Nat × Bool)} {x : Operand} {r : Nat} {bo : Option Nat} (hx : ev f x = .pointer (some ⟨r, 0, none⟩)) (hm : IterAt ku w r bo []) :
    ∃ v w', E P ⟨d, .next x false, ty, pos, aft, g⟩ f w v w' ∧ (v = .tuple #[.bool false] ∧ w' = w) := by
  have hqq := E.nextN (P := P) (d := d) (ty := ty) (pos := pos) (aft := aft) (g := g) hx hm
  obtain ⟨v, w', hE, h⟩ := hqq
  rcases h with ⟨_, h1, h2⟩ | ⟨l1, a, u, l2, h1, _⟩
  · exact ⟨v, w', hE, h1, h2⟩
  · exact absurd h1 (by simp)
theorem E.nextOne {P : Program} {f : Fr} {w : World} {d : Option Tmp} {ty : TypeId} {pos : String} {aft : Array Edge} {g : Option (Nat × Bool)} {x : Operand} {r : Nat} {bo : Option Nat} {left : List (Int × Value)} (hx : ev f x = .pointer (some ⟨r, 0, none⟩)) (hm : IterAt ku w r bo left) (h0 : left ≠ []) :
    ∃ v w', E P ⟨d, .next x false, ty, pos, aft, g⟩ f w v w' ∧ (∃ l1 a u l2, v = .tuple #[.bool true, ku a, u] ∧ left = l1 ++ (a, u) :: l2 ∧ IterAt ku w' r bo (l1 ++ l2) ∧ IterE ku w' r bo a u ∧ w.grownBy w' (some r)) := by
  have hqq := E.nextN (P := P) (d := d) (ty := ty) (pos := pos) (aft := aft) (g := g) hx hm
  obtain ⟨v, w', hE, h⟩ := hqq
  rcases h with ⟨h1, _, _⟩ | ⟨l1, a, u, l2, h1, h2, h3⟩
  · exact absurd h1 h0
  · exact ⟨v, w', hE, l1, a, u, l2, h2, h1, h3⟩
theorem iter_obj {w : World} {r : Nat} {bo : Option Nat} {left : List (Int × Value)} (h : IterAt ku w r bo left) : ∃ a b c d, w.heap[r]? = some (.mapIter a b c d) := by
  rcases h with ⟨_, _, s, seen, c, h⟩ | ⟨b, es, clock, since, seen, c0, _, h, _⟩
  · exact ⟨_, _, _, _, h⟩
  · exact ⟨_, _, _, _, h⟩
/-- forgotten up to a version -/
def flUp (fl v : Int) : Int := if v ≤ fl then fl else v
theorem own_drop {L : List Nt} {fl v : Int} (hr : L.Pairwise (fun a b => a.v < b.v)) (hv : fl ≤ v) {k : Nat} (hk : k ≤ (ownOf fl L).length) (h1 : ∀ i (h : i < (ownOf fl L).length), i < k → (ownOf fl L)[i].1 < v) (h2 : ∀ i (h : i < (ownOf fl L).length), k ≤ i → ¬ (ownOf fl L)[i].1 < v) : (ownOf fl L).drop k = ownOf v L := by
  have e1 : ownOf v L = (ownOf fl L).filter (fun p => decide (v ≤ p.1)) := by
    unfold ownOf
    rw [List.filter_map, List.filter_filter]
    congr 1
    apply List.filter_congr
    intro n _
    show decide (v ≤ n.v) = (decide (v ≤ n.v) && decide (fl ≤ n.v))
    by_cases e : v ≤ n.v
    · rw [decide_eq_true e, decide_eq_true (by omega)]; rfl
    · rw [decide_eq_false e]; rfl
  have e2 : ((ownOf fl L).take k).filter (fun p => decide (v ≤ p.1)) = [] := by
    rw [List.filter_eq_nil_iff]
    intro p hp
    have hqq := List.getElem_of_mem hp
    obtain ⟨i, hi, rfl⟩ := hqq
    rw [List.length_take] at hi
    rw [List.getElem_take]
    have := h1 i (by omega) (by omega)
    simp
    omega
  have e3 : ((ownOf fl L).drop k).filter (fun p => decide (v ≤ p.1)) = (ownOf fl L).drop k := by
    rw [List.filter_eq_self]
    intro p hp
    have hqq := List.getElem_of_mem hp
    obtain ⟨i, hi, rfl⟩ := hqq
    rw [List.length_drop] at hi
    rw [List.getElem_drop]
    have := h2 (k + i) (by omega) (by omega)
    simp
    omega
  rw [e1]
  conv => rhs; rw [← List.take_append_drop k (ownOf fl L)]
  rw [List.filter_append, e2, e3, List.nil_append]
section
variable {w0 w w' wa : World} {M : Nat → Prop} {b : Nat} {mb : Option Nat} {m : List (Int × Value)} {ov ov' : Value} {x fl fl' : Int} {g : Int → List (Int × Int)} {l l' : List (Int × Int)}
/-- forgotten up to a later version: the cell -/
theorem Mid.up (h : Mid w0 M b w mb m ov x g fl l) (hf : fl ≤ fl') (hB : Blk w' b 27 [.map mb, ov, .int .u64 x, .int .u64 fl']) (hg : w.grownBy w' (some b)) : Mid w0 M b w' mb m ov x g fl' l :=
  ⟨h.k.trans (Kept.of_grown hg h.mem), h.mem, hB, (h.notes.keep (fun c h1 h2 h3 => hg.block c h2 (fun e => by
    simp only [Option.some.injEq] at e
    subst e
    have hb := h.blk
    unfold Blk at hb
    rcases h3 with e | ⟨cur, e⟩
    · have := h.notes.map
      rw [e] at this
      have hqq := this.2.at
      obtain ⟨es, c', h5, _⟩ := hqq
      rw [h5] at hb
      cases hb
    · rw [e] at hb
      simp only [Option.some.injEq, Obj.cells.injEq] at hb
      exact absurd hb.2.1 (by decide)))).up hf, h.own.keep (fun c hc => hg.block c (h.own.in c hc).2.1 (fun e => by
    simp only [Option.some.injEq] at e
    subst e
    exact h.own.off h.blk (by decide) hc))⟩
/-- whose the versions are, told anew -/
theorem Mid.owners (h : Mid w0 M b w mb m ov x g fl l) (hb : Below w.heap.size w wa) (hr : RowW wa (fun x => M x ∨ w0.heap.size ≤ x) 62 ov' l') (hB : Blk w' b 27 [.map mb, ov', .int .u64 x, .int .u64 fl]) (hg : wa.grownBy w' (some b)) : Mid w0 M b w' mb m ov' x g fl l' := by
  have h2 := h.bel hb
  have hbw := h2.blk
  refine ⟨h2.k.trans (Kept.of_grown hg h.mem), h.mem, hB, h2.notes.keep (fun c h1 hc h3 => hg.block c hc (fun e => ?_)), hr.keep (fun c hc => hg.block c (hr.in c hc).2.1 (fun e => ?_))⟩
  · simp only [Option.some.injEq] at e
    subst e
    unfold Blk at hbw
    rcases h3 with e | ⟨cur, e⟩
    · have := h2.notes.map
      rw [e] at this
      have hqq := this.2.at
      obtain ⟨es, c', h5, _⟩ := hqq
      rw [h5] at hbw
      cases hbw
    · rw [e] at hbw
      simp only [Option.some.injEq, Obj.cells.injEq] at hbw
      exact absurd hbw.2.1 (by decide)
  · simp only [Option.some.injEq] at e
    subst e
    exact hr.off hbw (by decide) hc
/-- some rows cut -/
theorem Mid.cut {m' : List (Int × Value)} (h : Mid w0 M b w mb m ov x g fl l) (hk : Kept (fun c => mb = some c) w w') (hn : NotesW w' (fun c => (M c ∨ w0.heap.size ≤ c) ∨ w.heap.size ≤ c) mb m' g fl) : Mid w0 M b w' mb m' ov x g fl l := by
  have s0 := h.k.size
  have hm := h.notes.map
  have hoff : ∀ c, mb = some c → (M c ∨ w0.heap.size ≤ c) ∧ ∃ es cl, w.heap[c]? = some (.map es cl) := by
    intro c e
    subst e
    have hqq := hm.2.at
    obtain ⟨es, cl, h1, _⟩ := hqq
    exact ⟨hm.1, es, cl, h1⟩
  refine ⟨h.k.trans' hk (fun c e hc => (hoff c e).1.elim id (fun h => by omega)), h.mem, h.blk.kept hk (fun e => ?_), hn.mono (fun c _ h => h.elim id (fun h => .inr (by omega))), h.own.kept hk (fun c hc e => ?_)⟩
  · have hqq := hoff b e
    obtain ⟨_, es, cl, h1⟩ := hqq
    have h2 := h.blk
    unfold Blk at h2
    rw [h1] at h2
    cases h2
  · have hqq := hoff c e
    obtain ⟨_, es, cl, h1⟩ := hqq
    exact h.own.offM h1 hc
end
theorem Mid.iter {w0 w w' : World} {M : Nat → Prop} {b : Nat} {mb : Option Nat} {m : List (Int × Value)} {ov : Value} {x fl : Int} {g : Int → List (Int × Int)} {l : List (Int × Int)} {r : Nat} {bo : Option Nat} {left : List (Int × Value)} (h : Mid w0 M b w mb m ov x g fl l) (hi : IterAt ku w r bo left) (hg : w.grownBy w' (some r)) (hr : w0.heap.size ≤ r) : Mid w0 M b w' mb m ov x g fl l := by
  have hqq := iter_obj hi
  obtain ⟨i1, i2, i3, i4, hi⟩ := hqq
  have s0 := h.k.size
  refine ⟨⟨hg.os.trans h.k.os, hg.tape.trans h.k.tape, hg.output.trans h.k.output, Nat.le_trans s0 hg.size, fun c hc hM => (hg.block c (by omega) (fun e => by simp only [Option.some.injEq] at e; omega)).trans (h.k.block c hc hM)⟩, h.mem, h.blk.grown hg (fun e => ?_), h.notes.keep (fun c h1 h2 h3 => hg.block c h2 (fun e => ?_)), h.own.keep (fun c hc => hg.block c (h.own.in c hc).2.1 (fun e => ?_))⟩
  · subst e
    have h2 := h.blk
    unfold Blk at h2
    rw [hi] at h2
    cases h2
  · simp only [Option.some.injEq] at e
    subst e
    rcases h3 with e | ⟨cur, e⟩
    · have h4 := h.notes.map
      rw [e] at h4
      have hqq := h4.2.at
      obtain ⟨es, c', h5, _⟩ := hqq
      rw [hi] at h5
      cases h5
    · rw [hi] at e
      cases e
  · simp only [Option.some.injEq] at e
    subst e
    have hqq := h.own.in c hc
    obtain ⟨_, _, cur, h5⟩ := hqq
    rw [hi] at h5
    cases h5
theorem TabW.of {w0 w : World} {M : Nat → Prop} {b : Nat} {mb : Option Nat} {m : List (Int × Value)} {ov : Value} {fl : Int} {L : List Nt} (h : Mid w0 M b w mb m ov (newestL L) (fun c => ofC c L) fl (ownOf fl L)) : TabW w (fun x => M x ∨ w0.heap.size ≤ x) b L fl := ⟨mb, m, ov, .inl h.mem, h.blk, h.notes, h.own⟩
theorem pr_ones1 (p : Int × Int) : ∀ u ∈ pr p, One u = true := by
  have := pr_ones [p]
  simpa using this
theorem kdi : KD Try.prog 22 (.int .u64) ku := kd
theorem forget_ret {w : World} {M : Nat → Prop} {b : Nat} {L : List Nt} {fl : Int} (v : Int) (h : TabW w M b L fl) (hg : Good L) (hL : L.length ≤ 50000) : Ret Try.prog 9 [.pointer (some ⟨b, 0, none⟩), .int .u64 v].toArray w fun _ w' => TabW w' (fun x => M x ∨ w.heap.size ≤ x) b L (flUp fl v) ∧ Kept M w w' := by
  have h' := h
  have hqq := h'
  obtain ⟨mb, m, ov, hT⟩ := hqq
  have hM0 := Mid.of hT
  have hr := ownOf_rise hg.rise fl
  have hol := ownOf_len fl L
  have hmx : maxLen = 9223372036854775807 := rfl
  refine Ret.of (n := 67) (rs := #[]) Try.func9 rfl rfl rfl (by simp) ?_
  refine WC.seq ?_
  refine WC.seqR rfl ?_
  refine WL.y rfl (Y.move) ?_
  refine WL.y rfl (Y.bF (Y.eqpn Try.underlying23 rfl rfl) (rfl)) ?_
  refine WL.y rfl (Y.move) ?_
  refine WL.y rfl (Y.move) ?_
  refine WL.y rfl (Y.move) ?_
  refine WL.y rfl (Y.nilCheck rfl) ?_
  refine WL.y rfl (Y.fieldAddr fi27f3 ti22 (by decide) rfl (rfl) _) ?_
  refine WL.y rfl (Y.load1 Try.underlying22 rfl rfl (hT.blk.cell 3)) ?_
  refine WL.y rfl (Y.leq rfl rfl) ?_
  refine WL.y rfl (Y.pickF rfl) ?_
  refine WL.nil ?_
  refine WC.condD rfl (fun c0 => ?_) (fun c0 => ?_)
  · have e : flUp fl v = fl := if_pos c0
    rw [e]
    refine WC.ret (thenQ.ret (endQ.zero (.inr rfl) ?_))
    exact ⟨h.mono (fun _ _ h => .inl h), Kept.refl _ _⟩
  · have e : flUp fl v = v := if_neg (by omega)
    rw [e]
    refine WC.skip (thenQ.normal ?_)
    refine WC.seqR rfl ?_
    refine WL.y rfl (Y.move) ?_
    refine WL.y rfl (Y.move) ?_
    refine WL.y rfl (Y.nilCheck rfl) ?_
    refine WL.y rfl (Y.fieldAddr fi27f3 ti22 (by decide) rfl (rfl) _) ?_
    refine WL.eex rfl (E.storeX (u := .int .u64 v) ti22 rfl rfl rfl hT.blk (by simp)) ?_
    rintro _ w1 ⟨hB1, hg1, -⟩
    have hM1 : Mid w M b w1 mb m ov (newestL L) (fun c => ofC c L) v (ownOf fl L) := hM0.up (by omega) hB1 hg1
    have hs1 := hM1.own.sl
    have s1 := hg1.size
    refine WL.nil ?_
    refine WC.seqR rfl ?_
    refine WL.eex rfl (E.makeMapN (kv := ku) (ki := .i64) (n := 0) Try.underlying60 (by simp)) ?_
    rintro _ w23 ⟨rfl, hm23, hb23⟩
    refine WL.y rfl (Y.assign) ?_
    refine WL.nil ?_
    refine WC.seqR rfl ?_
    refine WL.y rfl (Y.assign) ?_
    refine WL.nil ?_
    refine WC.seq ?_
    refine WC.seqR rfl ?_
    refine WL.y rfl (Y.move) ?_
    refine WL.y rfl (Y.nilCheck rfl) ?_
    refine WL.y rfl (Y.fieldAddr fi27f1 ti25 (by decide) rfl (rfl) _) ?_
    refine WL.y rfl (Y.load1 Try.underlying25 rfl rfl ((hM1.bel hb23).blk.cell 1)) ?_
    refine WL.y rfl (Y.lenSl Try.underlying25 (hs1.bel hb23) _) ?_
    refine WL.y rfl (Y.move) ?_
    refine WL.nil ?_
    refine WC.cut (fun f ds w' => ds = [] ∧ Below w1.heap.size w1 w' ∧ w1.heap.size < w'.heap.size ∧ (∃ m2 : List (Int × Value), MapN ku w' w1.heap.size m2) ∧ ∃ (k : Nat) (J : Fr), k ≤ (ownOf fl L).length ∧ (∀ i (h : i < (ownOf fl L).length), i < k → (ownOf fl L)[i].1 < v) ∧ (∀ i (h : i < (ownOf fl L).length), k ≤ i → ¬ (ownOf fl L)[i].1 < v) ∧ f = Go.Cx.ov J [(0, .pointer (some ⟨b, 0, none⟩)), (1, .int .u64 v), (4, .map (some w1.heap.size)), (5, .int .i64 (k : Int))]) ?_ ?_
    · have s23 := hb23.size
      have hM23 := hM1.bel hb23
      have hs23 := hs1.bel hb23
      have sz23 : w1.heap.size < w23.heap.size := hm23.lt
      refine WC.block ?_
      refine WC.loop (S := Nat × Nat) (fun q => (ownOf fl L).length - q.1) (fun q f ds w' => q.1 ≤ (ownOf fl L).length ∧ q.2 ≤ q.1 ∧ (∀ i (h : i < (ownOf fl L).length), i < q.2 → (ownOf fl L)[i].1 < v) ∧ (∀ i (h : i < (ownOf fl L).length), q.2 ≤ i → i < q.1 → ¬ (ownOf fl L)[i].1 < v) ∧ ds = [] ∧ Below w1.heap.size w1 w' ∧ w23.heap.size ≤ w'.heap.size ∧ (∃ m2 : List (Int × Value), MapN ku w' w1.heap.size m2 ∧ ∀ c u, mget c m2 = some u → ∃ n : Nat, u = .int .i64 (n : Int) ∧ n ≤ q.1) ∧ ∃ J, f = Go.Cx.ov J [(0, .pointer (some ⟨b, 0, none⟩)), (1, .int .u64 v), (4, .map (some w1.heap.size)), (5, .int .i64 (q.2 : Int)), (27, ov), (28, .int .i64 ((ownOf fl L).length : Int)), (29, .int .i64 (q.1 : Int))]) (0, 0) ?_ ?_
      · exact ⟨Nat.zero_le _, Nat.le_refl _, fun i h h2 => absurd h2 (Nat.not_lt_zero _), fun i h h1 h2 => absurd h2 (Nat.not_lt_zero _), rfl, hb23, Nat.le_refl _, ⟨[], hm23, fun c u h => by cases h⟩, _, ov_mk ⟨rfl, rfl, rfl, rfl, rfl, rfl, rfl, trivial⟩⟩
      · rintro ⟨j, k⟩ _ _ wL ⟨q1, q2, q3, q4, rfl, kL, sL, ⟨m2, hm2, hv2⟩, J, rfl⟩
        simp only at q1 q2 q3 q4 hv2
        have hlL := hm2.lt
        refine WC.seqR rfl ?_
        refine WL.y rfl (Y.lss rfl rfl) ?_
        refine WL.nil ?_
        refine WC.seq ?_
        refine WC.condD rfl (fun h0 => ?_) (fun h0 => ?_)
        · have hj : j < (ownOf fl L).length := by simp only at h0; omega
          refine WC.skip (thenQ.normal ?_)
          refine WC.seq ?_
          refine WC.block ?_
          refine WC.seqR rfl ?_
          refine WL.yex rfl (Y.idx Try.underlying25 ti62 (by decide) (hs1.bel kL) rfl (by omega) (by omega)) ?_
          rintro _ ⟨b31, o31, rfl, hc31⟩
          refine WL.y rfl (Y.loadK Try.underlying62 rfl ti62 (rfl) rfl (elem_pr hj hc31)) ?_
          refine WL.eex rfl (E.allocX ti62) ?_
          rintro _ w7 ⟨rfl, hB7, hb7⟩
          refine WL.eex rfl (E.storeAllK (us := pr (ownOf fl L)[j]) ti62 rfl rfl rfl (pr_ones1 _) hB7 rfl) ?_
          rintro _ w7s ⟨hB7', hg7⟩
          have k7 : Below wL.heap.size wL w7s := Below.stepG hb7 hg7 (Nat.le_refl _)
          refine WL.nil ?_
          refine WC.seq ?_
          refine WC.seqR rfl ?_
          refine WL.y rfl (Y.fieldAddr fi62f0 ti22 (by decide) rfl (rfl) _) ?_
          refine WL.y rfl (Y.load1 Try.underlying22 rfl rfl (hB7'.cell 0)) ?_
          refine WL.y rfl (Y.move) ?_
          refine WL.y rfl (Y.gtr rfl rfl) ?_
          refine WL.nil ?_
          refine WC.condD rfl (fun h1 => ?_) (fun h1 => ?_)
          · have hge : ∀ i (h : i < (ownOf fl L).length), j ≤ i → ¬ (ownOf fl L)[i].1 < v := by
              intro i h hi
              rcases Nat.lt_or_ge j i with e | e
              · have := List.pairwise_iff_getElem.1 hr j i hj h e
                omega
              · have : i = j := by omega
                subst this
                omega
            have hge2 : ∀ i (h : i < (ownOf fl L).length), k ≤ i → ¬ (ownOf fl L)[i].1 < v := fun i h hi => by
              rcases Nat.lt_or_ge i j with e | e
              · exact q4 i h hi e
              · exact hge i h e
            refine WC.exit (thenQ.exit (inBlockQ.miss rfl (thenQ.exit (thenQ.exit (inBlockQ.hit (thenQ.normal ?_))))))
            exact ⟨rfl, Below.step kL k7, by have := k7.size; omega, ⟨m2, hm2.bel k7⟩, k, _, by omega, q3, hge2, ov_mk ⟨rfl, rfl, rfl, rfl, trivial⟩⟩
          · obtain ⟨n0, en0, hn0⟩ : ∃ n : Nat, (mget (ownOf fl L)[j].2 m2).getD (.int .i64 0) = .int .i64 (n : Int) ∧ n ≤ j := by
              cases e : mget (ownOf fl L)[j].2 m2 with
              | none => exact ⟨0, rfl, Nat.zero_le _⟩
              | some u =>
                have hqq := hv2 _ _ e
                obtain ⟨n, h1, h2⟩ := hqq
                exact ⟨n, h1, h2⟩
            have hne7 : wL.heap.size ≠ w1.heap.size := by omega
            refine WC.skip (thenQ.normal ?_)
            refine WC.seqR rfl ?_
            refine WL.y rfl (Y.move) ?_
            refine WL.y rfl (Y.fieldAddr fi62f1 ti22 (by decide) rfl (rfl) _) ?_
            refine WL.y rfl (Y.load1 Try.underlying22 rfl rfl (hB7'.cell 1)) ?_
            refine WL.y rfl ((Y.lookup1V (m := m2) (a := (ownOf fl L)[j].2) Try.underlying60 kd ti3 rfl (hm2.bel k7) rfl en0)) ?_
            refine WL.y rfl (Y.add64 rfl rfl (by omega)) ?_
            refine WL.eex rfl (E.mapUpdateN (kv := ku) (m := m2) (a := (ownOf fl L)[j].2) (v := .int .i64 ((n0 : Int) + 1)) Try.underlying60 kd rfl (hm2.bel k7) rfl rfl) ?_
            rintro _ w8 ⟨hm8, hg8⟩
            refine WL.nil ?_
            refine WC.seqR rfl ?_
            refine WL.y rfl (Y.fieldAddr fi62f0 ti22 (by decide) rfl (rfl) _) ?_
            refine WL.y rfl (Y.load1 Try.underlying22 rfl rfl ((Blk.grown hB7' hg8 hne7).cell 0)) ?_
            refine WL.y rfl (Y.move) ?_
            refine WL.y rfl (Y.lss rfl rfl) ?_
            refine WL.nil ?_
            have k8 : Below w1.heap.size w1 w8 := Below.stepG (Below.step kL k7) hg8 (Nat.le_refl _)
            have s7 := k7.size
            have s8 := hg8.size
            have hv8 : ∀ c u, mget c (mput (ownOf fl L)[j].2 (.int .i64 ((n0 : Int) + 1)) m2) = some u → ∃ n : Nat, u = .int .i64 (n : Int) ∧ n ≤ j + 1 := by
              intro c u hcu
              rw [mget_mput] at hcu
              by_cases e : c = (ownOf fl L)[j].2
              · rw [if_pos e] at hcu
                simp only [Option.some.injEq] at hcu
                exact ⟨n0 + 1, by rw [← hcu]; rfl, by omega⟩
              · rw [if_neg e] at hcu
                have hqq := hv2 _ _ hcu
                obtain ⟨n, h1, h2⟩ := hqq
                exact ⟨n, h1, by omega⟩
            refine WC.condD rfl (fun h2 => ?_) (fun h2 => ?_)
            · have hkj : k = j := by
                rcases Nat.lt_or_ge k j with e | e
                · have := q4 (j - 1) (by omega) (by omega) (by omega)
                  have := List.pairwise_iff_getElem.1 hr (j - 1) j (by omega) hj (by omega)
                  omega
                · omega
              subst hkj
              refine WC.region rfl ?_
              refine WL.y rfl (Y.move) ?_
              refine WL.y rfl (Y.add64 rfl rfl (by omega)) ?_
              refine WL.y rfl (Y.assign) ?_
              refine WL.nil (inBlockQ.normal (thenQ.normal ?_))
              refine WC.region rfl ?_
              refine WL.y rfl (Y.add64 rfl rfl (by omega)) ?_
              refine WL.y rfl (Y.move) ?_
              refine WL.nil (thenQ.normal ?_)
              refine ⟨(k + 1, k + 1), (by show (ownOf fl L).length - (k + 1) < (ownOf fl L).length - k; omega), (by show k + 1 ≤ (ownOf fl L).length; omega), Nat.le_refl _, fun i h h1 => ?_, fun i h h1 h2 => absurd h2 (Nat.not_lt.2 h1), rfl, k8, by omega, ⟨_, hm8, hv8⟩, _, ov_mk ⟨rfl, rfl, rfl, rfl, rfl, rfl, rfl, trivial⟩⟩
              simp only at h1
              rcases Nat.lt_or_ge i k with e | e
              · exact q3 i h e
              · have : i = k := by omega
                subst this
                exact h2
            · refine WC.skip (inBlockQ.normal (thenQ.normal ?_))
              refine WC.region rfl ?_
              refine WL.y rfl (Y.add64 rfl rfl (by omega)) ?_
              refine WL.y rfl (Y.move) ?_
              refine WL.nil (thenQ.normal ?_)
              refine ⟨(j + 1, k), (by show (ownOf fl L).length - (j + 1) < (ownOf fl L).length - j; omega), (by show j + 1 ≤ (ownOf fl L).length; omega), (by show k ≤ j + 1; omega), q3, fun i h h1 h3 => ?_, rfl, k8, by omega, ⟨_, hm8, hv8⟩, _, ov_mk ⟨rfl, rfl, rfl, rfl, rfl, rfl, rfl, trivial⟩⟩
              simp only at h1 h3
              rcases Nat.lt_or_ge i j with e | e
              · exact q4 i h h1 e
              · have : i = j := by omega
                subst this
                exact h2
        · have hj : j = (ownOf fl L).length := by simp only at h0; omega
          refine WC.exit (thenQ.exit (thenQ.exit (inBlockQ.hit (thenQ.normal ?_))))
          exact ⟨rfl, kL, by omega, ⟨m2, hm2⟩, k, _, by omega, q3, fun i h h1 => q4 i h h1 (by omega), ov_mk ⟨rfl, rfl, rfl, rfl, trivial⟩⟩
    · rintro _ _ wC ⟨rfl, kC, sC, ⟨m2, hm2⟩, k, J, hk, h1, h2, rfl⟩
      have hMC := hM1.bel kC
      have hd := own_drop hg.rise (by omega) hk h1 h2
      have hlb := hM1.blk.lt
      have hmlt : ∀ c, mb = some c → c < w1.heap.size := by
        intro c e
        have := hM1.notes.map
        rw [e] at this
        exact this.2.lt
      refine WC.seqR rfl ?_
      refine WL.y rfl (Y.move) ?_
      refine WL.y rfl (Y.move) ?_
      refine WL.y rfl (Y.nilCheck rfl) ?_
      refine WL.y rfl (Y.fieldAddr fi27f1 ti25 (by decide) rfl (rfl) _) ?_
      refine WL.y rfl (Y.load1 Try.underlying25 rfl rfl (hMC.blk.cell 1)) ?_
      refine WL.y rfl (Y.move) ?_
      refine WL.call rfl (C.func go23) (behowner_ret k rfl hMC.own hk (by omega)) ?_
      rintro v55 w55 ⟨⟨h55, ho55⟩, hb55⟩
      have s55 := hb55.size
      have hw0 := hMC.k.size
      have h55' : RowW w55 (fun x => M x ∨ w.heap.size ≤ x) 62 v55 (ownOf v L) := by rw [hd] at h55; exact h55.mono (fun c _ h => h.elim id (fun h => .inr (by omega)))
      refine WL.y rfl (Y.nilCheck rfl) ?_
      refine WL.y rfl (Y.fieldAddr fi27f1 ti25 (by decide) rfl (rfl) _) ?_
      refine WL.eex rfl (E.storeX (u := v55) ti25 rfl rfl h55'.one (hMC.bel hb55).blk (by simp)) ?_
      rintro _ w12 ⟨hB12, hg12, -⟩
      have hM5 := hMC.owners hb55 h55' hB12 hg12
      have hm12 := (hm2.bel hb55).grown hg12 (by omega)
      refine WL.nil ?_
      refine WC.seqR rfl ?_
      refine WL.y rfl (Y.move) ?_
      refine WL.eex rfl (E.rangeN (kv := ku) (left := m2) Try.underlying60 rfl hm12) ?_
      rintro _ w59 ⟨rfl, hit59, hb59⟩
      refine WL.nil ?_
      refine WC.block ?_
      have s12 := hg12.size
      have s59 := hb59.size
      have hM59 := hM5.bel hb59
      refine WC.loop (S := List (Int × Value)) List.length (fun left f ds w' => ds = [] ∧ w59.heap.size ≤ w'.heap.size ∧ (∃ mj, Mid w M b w' mb mj v55 (newestL L) (fun c => ofC c L) v (ownOf v L)) ∧ IterAt ku w' w12.heap.size (some w1.heap.size) left ∧ ∃ J, f = Go.Cx.ov J [(0, .pointer (some ⟨b, 0, none⟩)), (59, .pointer (some ⟨w12.heap.size, 0, none⟩))]) m2 ?_ ?_
      · exact ⟨rfl, Nat.le_refl _, ⟨m, hM59⟩, hit59, _, ov_mk ⟨rfl, rfl, trivial⟩⟩
      · rintro left _ _ wL ⟨rfl, sL, ⟨mj, hMj⟩, hit, J, rfl⟩
        by_cases hl : left = []
        · have hit' : IterAt ku wL w12.heap.size (some w1.heap.size) [] := hl ▸ hit
          refine WC.seqR rfl ?_
          refine WL.eex rfl (E.nextEnd rfl hit') ?_
          rintro _ _ ⟨rfl, rfl⟩
          refine WL.y rfl (Y.extract rfl rfl) ?_
          refine WL.nil ?_
          refine WC.seq ?_
          refine WC.condF (rfl) ?_
          refine WC.exit (thenQ.exit (thenQ.exit (inBlockQ.hit (endQ.zero (.inl rfl) ?_))))
          exact ⟨TabW.of hMj, hMj.k⟩
        · skip
          skip
          refine WC.seqR rfl ?_
          refine WL.eex rfl (E.nextOne rfl hit hl) ?_
          rintro _ w60 ⟨l1, a, u, l2, rfl, hl2, hit60, hie60, hg60⟩
          have hM60 := hMj.iter hit hg60 (by omega)
          have hla := ofC_len a L
          refine WL.y rfl (Y.extract rfl rfl) ?_
          refine WL.nil ?_
          refine WC.seq ?_
          refine WC.condT (rfl) ?_
          refine WC.skip (thenQ.normal ?_)
          refine WC.block ?_
          refine WC.seqR rfl ?_
          refine WL.y rfl (Y.entryN rfl hie60) ?_
          refine WL.y rfl (Y.extract rfl rfl) ?_
          refine WL.y rfl (Y.assign) ?_
          refine WL.nil ?_
          refine WC.region rfl ?_
          refine WL.y rfl (Y.move) ?_
          refine WL.y rfl (Y.move) ?_
          refine WL.call rfl (C.func go24) (cut_ret a hM60.blk hM60.notes (ofC_rise hg.rise a) (by omega)) ?_
          rintro _ w66 ⟨⟨m66, h66⟩, k66⟩
          refine WL.nil (inBlockQ.normal (thenQ.normal ?_))
          have s60 := hg60.size
          have s66 := k66.size
          have hM66 := hM60.cut k66 h66
          refine ⟨l1 ++ l2, ?_, rfl, by omega, ⟨m66, hM66⟩, hit60.kept (fun c hc e => k66.block c hc (fun e2 => ?_)), _, ov_mk ⟨rfl, rfl, trivial⟩⟩
          · rw [hl2]
            simp only [List.length_append, List.length_cons]
            omega
          · have := hmlt c e2
            rcases e with e | e
            · omega
            · simp only [Option.some.injEq] at e
              omega
end Go.Proofs.Ytlhhognabmnlmaa
