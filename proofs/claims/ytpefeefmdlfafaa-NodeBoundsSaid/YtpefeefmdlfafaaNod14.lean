/-
  law06: NodeBounds: plain law, walk.
-/
import Derived.Test.YtpefeefmdlfafaaNod11
namespace Go.Proofs.Ytpefeefmdlfafaa
open Go Go.RowKit Go.Cx
set_option linter.unusedVariables false
set_option maxHeartbeats 8000000
set_option maxRecDepth 20000
def lo (j : Nat) : Nat := 2 * 4 ^ j
def hi (j : Nat) : Nat := 8 * 8 ^ j
theorem lo_succ (j : Nat) : lo (j + 1) = lo j * 4 := by unfold lo; rw [Nat.pow_succ, Nat.mul_assoc]
theorem hi_succ (j : Nat) : hi (j + 1) = hi j * 8 := by unfold hi; rw [Nat.pow_succ, Nat.mul_assoc]
theorem lo_le {j : Nat} (h : j ≤ 4) : lo j ≤ 512 := by
  unfold lo
  have := Nat.pow_le_pow_right (n := 4) (by omega) h
  omega
theorem hi_le {j : Nat} (h : j ≤ 4) : hi j ≤ 32768 := by
  unfold hi
  have := Nat.pow_le_pow_right (n := 8) (by omega) h
  omega
theorem flatL_bounds {a b : Nat} : ∀ l : List Sh, (∀ k ∈ l, a ≤ (flatS k).length ∧ (flatS k).length ≤ b) → a * l.length ≤ (flatL l).length ∧ (flatL l).length ≤ b * l.length
  | [], _ => by rw [flatL]; simp
  | k :: l, h => by
    have h1 := h k (by simp)
    have h2 := flatL_bounds l (fun x hx => h x (by simp [hx]))
    rw [flatL, List.length_append, List.length_cons, Nat.mul_succ, Nat.mul_succ]
    omega
theorem soundL_all {l : List Sh} (h : soundL l = true) : ∀ k ∈ l, soundS k false = true := by
  induction l with
  | nil => intro k hk; exact absurd hk (by simp)
  | cons a l ih =>
    rw [soundL, Bool.and_eq_true] at h
    intro k hk
    rcases List.mem_cons.1 hk with rfl | hk
    · exact h.1
    · exact ih h.2 k hk
/-- a sound node below another one -/
theorem bounds_in : ∀ s : Sh, OkS s → soundS s false = true → 2 * lo (hS s) ≤ (flatS s).length ∧ (flatS s).length ≤ hi (hS s) := by
  intro s
  induction s using Sh.ind with
  | h s ih =>
    intro hok hs
    rw [soundS_eq, Bool.and_eq_true, Bool.false_or, decide_eq_true_iff] at hs
    obtain ⟨h4, hk⟩ := hs
    cases hok with
    | leaf h hr =>
      rw [flatS_leaf, hS_nil (s := .mk _ []) rfl]
      simp only [Sh.es, Sh.kids, List.length_nil] at h4
      unfold lo hi
      omega
    | @inner kids h hi' =>
      simp only [Sh.es, Sh.kids, List.length_nil] at h4
      have hk : soundL kids = true := hk
      have h2 := hi'.1
      have hin := (inner_iff h2.1).1 hi'
      have hb := flatL_bounds (a := 2 * lo (hS kids[0])) (b := hi (hS kids[0])) kids (fun k hm => by
        have := ih k hm (h k hm) (soundL_all hk k hm)
        rw [(hin.2.1 k hm).2] at this
        exact this)
      have e := hS_cons (s := .mk [] kids) (show 0 < kids.length by omega)
      rw [flatS_inner (by omega), e, Nat.add_comm, lo_succ, hi_succ]
      have m1 := Nat.mul_le_mul_left (2 * lo (hS kids[0])) (show 4 ≤ kids.length by omega)
      have m2 := Nat.mul_le_mul_left (hi (hS kids[0])) (show kids.length ≤ 8 by omega)
      show 2 * (lo (hS kids[0]) * 4) ≤ _ ∧ _ ≤ hi (hS kids[0]) * 8
      omega
theorem bounds_root {s : Sh} (hok : OkS s) (hs : soundS s true = true) (h0 : hS s ≠ 0) : lo (hS s) ≤ (flatS s).length ∧ (flatS s).length ≤ hi (hS s) := by
  rw [soundS_eq, Bool.and_eq_true] at hs
  obtain ⟨-, hk⟩ := hs
  cases hok with
  | leaf h hr => exact absurd (hS_nil (s := .mk _ []) rfl) h0
  | @inner kids h hi' =>
    have hk : soundL kids = true := hk
    have h2 := hi'.1
    have hin := (inner_iff h2.1).1 hi'
    have hb := flatL_bounds (a := 2 * lo (hS kids[0])) (b := hi (hS kids[0])) kids (fun k hm => by
      have := bounds_in k (h k hm) (soundL_all hk k hm)
      rw [(hin.2.1 k hm).2] at this
      exact this)
    have e := hS_cons (s := .mk [] kids) (show 0 < kids.length by omega)
    rw [flatS_inner (by omega), e, Nat.add_comm, lo_succ, hi_succ]
    have m1 := Nat.mul_le_mul_left (2 * lo (hS kids[0])) (show 2 ≤ kids.length by omega)
    have m2 := Nat.mul_le_mul_left (hi (hS kids[0])) (show kids.length ≤ 8 by omega)
    show lo (hS kids[0]) * 4 ≤ _ ∧ _ ≤ hi (hS kids[0]) * 8
    omega
theorem small_hS : ∀ (d : Nat) (s : Sh), smallS d s → hS s < d
  | 0, _, h => h.elim
  | d + 1, s, ⟨h1, h2, h3, h4⟩ => by
    by_cases h0 : s.kids.length = 0
    · rw [hS_nil h0]; omega
    · rw [hS_cons (s := s) (by omega)]
      have := small_hS d _ (h3 _ (List.getElem_mem (show 0 < s.kids.length by omega)))
      omega
theorem nodeBounds_ret (w : World) (a : Value) (s : Sh) (ha : SArg w s a) : Ret Try.prog 3 [a].toArray w fun v w' => v = .bool true ∧ Below w.heap.size w w' := by
  obtain ⟨c, rfl, hs⟩ := ha
  have hcl := hs.len
  have hmay := ok_may (s := s)
  refine Ret.of (n := 70) (rs := #[.tmp 2]) Try.func3 rfl rfl rfl (by simp) ?_
  refine WC.seqR rfl ?_
  refine WL.eex rfl (E.boxX) ?_
  rintro _ w1 ⟨rfl, hB1, hb1⟩
  refine WL.y rfl (Y.assign) ?_
  refine WL.nil ?_
  refine WC.seq ?_
  have hB : Blk w1 w.heap.size 25 c := hB1
  clear hB1
  have s1 := hb1.size
  by_cases hsm : smallS 5 s
  · have hnn := small_nodes hsm
    have hff := small_flat 5 s hsm
    have hhh := small_hS 5 s hsm
    by_cases hok : OkS s
    · by_cases h0 : hS s = 0
      · refine WC.seqR rfl ?_
        refine WL.y rfl (Y.loadK Try.underlying25 rfl ti25 (hcl) rfl (hB.cells)) ?_
        refine WL.call rfl (C.func go9) (smallT (d := 5) (by omega) (hs.bel hb1) hsm) ?_
        rintro _ w9 ⟨rfl, hb9'⟩
        have k9 := Below.step hb1 hb9'
        refine WL.y rfl (Y.not rfl) ?_
        refine WL.y rfl (Y.move) ?_
        refine WL.y rfl (Y.loadK Try.underlying25 rfl ti25 (hcl) rfl ((hB.bel hb9').cells)) ?_
        refine WL.call rfl (C.func go10) (rmayT (rmay_ret s) (hmay.1 hok) _ _ _ (hs.bel k9) (Below.refl _ _) (by omega) (by omega)) ?_
        rintro _ w13 ⟨rfl, hb13⟩
        have k13 := Below.step k9 hb13
        refine WL.y rfl (Y.not rfl) ?_
        refine WL.y rfl (Y.pickF rfl) ?_
        refine WL.nil ?_
        refine WC.condF (rfl) ?_
        refine WC.skip (thenQ.normal ?_)
        refine WC.seqR rfl ?_
        refine WL.y rfl (Y.loadK Try.underlying25 rfl ti25 (hcl) rfl (((hB.bel hb9').bel hb13).cells)) ?_
        refine WL.call rfl (C.func go12) (ofT _ _ (hs.bel k13) (by omega) (by omega) hok) ?_
        rintro _ w19 ⟨⟨b, rfl, n19⟩, hb19⟩
        have k19 := Below.step k13 hb19
        refine WL.y rfl (Y.move) ?_
        refine WL.y rfl (Y.extract rfl rfl) ?_
        refine WL.y rfl (Y.extract rfl rfl) ?_
        refine WL.y rfl (Y.assign) ?_
        refine WL.y rfl (Y.assign) ?_
        refine WL.nil ?_
        refine WC.seq ?_
        refine WC.seqR rfl ?_
        refine WL.y rfl (Y.move) ?_
        refine WL.y rfl (Y.dF (Y.nei rfl rfl) (fun h => h rfl)) ?_
        refine WL.y rfl (Y.move) ?_
        refine WL.y rfl (Y.move) ?_
        refine WL.y rfl (Y.bF (Y.eqpn Try.underlying29 rfl rfl) (rfl)) ?_
        refine WL.y rfl (Y.pickF rfl) ?_
        refine WL.y rfl (Y.move) ?_
        refine WL.y rfl (Y.move) ?_
        refine WL.call rfl (C.func go13) (nheight_ret n19) ?_
        rintro _ _ ⟨rfl, rfl⟩
        refine WL.y rfl (Y.dT (Y.eqi rfl rfl) (by rw [h0]; rfl)) ?_
        refine WL.y rfl (Y.pickF rfl) ?_
        refine WL.y rfl (Y.move) ?_
        refine WL.off rfl ?_
        refine WL.off rfl ?_
        refine WL.off rfl ?_
        refine WL.y rfl (Y.pickT rfl) ?_
        refine WL.nil ?_
        refine WC.condT (rfl) ?_
        refine WC.seqR rfl ?_
        refine WL.y rfl (Y.move) ?_
        refine WL.y rfl (Y.dT (Y.eqi rfl rfl) (rfl)) ?_
        refine WL.y rfl (Y.move) ?_
        refine WL.y rfl (Y.move) ?_
        refine WL.y rfl (Y.bT (Y.nepn Try.underlying29 rfl rfl) (rfl)) ?_
        refine WL.y rfl (Y.pickT rfl) ?_
        refine WL.y rfl (Y.move) ?_
        refine WL.call rfl (C.func go11) (known_ret _) ?_
        rintro _ w45 ⟨rfl, hb45⟩
        refine WL.y rfl (Y.pickT rfl) ?_
        refine WL.y rfl (Y.assign) ?_
        refine WL.nil ?_
        refine WC.ret (thenQ.ret (endQ.one (.inr rfl) ?_))
        exact ⟨rfl, Below.step k19 hb45⟩
      · cases hso : soundS s true with
        | false =>
          refine WC.seqR rfl ?_
          refine WL.y rfl (Y.loadK Try.underlying25 rfl ti25 (hcl) rfl (hB.cells)) ?_
          refine WL.call rfl (C.func go9) (smallT (d := 5) (by omega) (hs.bel hb1) hsm) ?_
          rintro _ w9 ⟨rfl, hb9'⟩
          have k9 := Below.step hb1 hb9'
          refine WL.y rfl (Y.not rfl) ?_
          refine WL.y rfl (Y.move) ?_
          refine WL.y rfl (Y.loadK Try.underlying25 rfl ti25 (hcl) rfl ((hB.bel hb9').cells)) ?_
          refine WL.call rfl (C.func go10) (rmayT (rmay_ret s) (hmay.1 hok) _ _ _ (hs.bel k9) (Below.refl _ _) (by omega) (by omega)) ?_
          rintro _ w13 ⟨rfl, hb13⟩
          have k13 := Below.step k9 hb13
          refine WL.y rfl (Y.not rfl) ?_
          refine WL.y rfl (Y.pickF rfl) ?_
          refine WL.nil ?_
          refine WC.condF (rfl) ?_
          refine WC.skip (thenQ.normal ?_)
          refine WC.seqR rfl ?_
          refine WL.y rfl (Y.loadK Try.underlying25 rfl ti25 (hcl) rfl (((hB.bel hb9').bel hb13).cells)) ?_
          refine WL.call rfl (C.func go12) (ofT _ _ (hs.bel k13) (by omega) (by omega) hok) ?_
          rintro _ w19 ⟨⟨b, rfl, n19⟩, hb19⟩
          have k19 := Below.step k13 hb19
          have hsd := nsound_ret n19 true
          rw [hso] at hsd
          refine WL.y rfl (Y.move) ?_
          refine WL.y rfl (Y.extract rfl rfl) ?_
          refine WL.y rfl (Y.extract rfl rfl) ?_
          refine WL.y rfl (Y.assign) ?_
          refine WL.y rfl (Y.assign) ?_
          refine WL.nil ?_
          refine WC.seq ?_
          refine WC.seqR rfl ?_
          refine WL.y rfl (Y.move) ?_
          refine WL.y rfl (Y.dF (Y.nei rfl rfl) (fun h => h rfl)) ?_
          refine WL.y rfl (Y.move) ?_
          refine WL.y rfl (Y.move) ?_
          refine WL.y rfl (Y.bF (Y.eqpn Try.underlying29 rfl rfl) (rfl)) ?_
          refine WL.y rfl (Y.pickF rfl) ?_
          refine WL.y rfl (Y.move) ?_
          refine WL.y rfl (Y.move) ?_
          refine WL.call rfl (C.func go13) (nheight_ret n19) ?_
          rintro _ _ ⟨rfl, rfl⟩
          refine WL.y rfl (Y.dF (Y.eqi rfl rfl) (by omega)) ?_
          refine WL.y rfl (Y.pickF rfl) ?_
          refine WL.y rfl (Y.move) ?_
          refine WL.y rfl (Y.move) ?_
          refine WL.call rfl (C.func go14) (hsd) ?_
          rintro _ w35 ⟨rfl, hb35⟩
          refine WL.y rfl (Y.not rfl) ?_
          refine WL.y rfl (Y.pickF rfl) ?_
          refine WL.nil ?_
          refine WC.condT (rfl) ?_
          refine WC.seqR rfl ?_
          refine WL.y rfl (Y.move) ?_
          refine WL.y rfl (Y.dT (Y.eqi rfl rfl) (rfl)) ?_
          refine WL.y rfl (Y.move) ?_
          refine WL.y rfl (Y.move) ?_
          refine WL.y rfl (Y.bT (Y.nepn Try.underlying29 rfl rfl) (rfl)) ?_
          refine WL.y rfl (Y.pickT rfl) ?_
          refine WL.y rfl (Y.move) ?_
          refine WL.call rfl (C.func go11) (known_ret _) ?_
          rintro _ w45 ⟨rfl, hb45⟩
          refine WL.y rfl (Y.pickT rfl) ?_
          refine WL.y rfl (Y.assign) ?_
          refine WL.nil ?_
          refine WC.ret (thenQ.ret (endQ.one (.inr rfl) ?_))
          exact ⟨rfl, Below.step (Below.step k19 hb35) hb45⟩
        | true =>
          have hbd := bounds_root hok hso h0
          have l4 := lo_le (show hS s ≤ 4 by omega)
          have h8 := hi_le (show hS s ≤ 4 by omega)
          refine WC.seqR rfl ?_
          refine WL.y rfl (Y.loadK Try.underlying25 rfl ti25 (hcl) rfl (hB.cells)) ?_
          refine WL.call rfl (C.func go9) (smallT (d := 5) (by omega) (hs.bel hb1) hsm) ?_
          rintro _ w9 ⟨rfl, hb9'⟩
          have k9 := Below.step hb1 hb9'
          refine WL.y rfl (Y.not rfl) ?_
          refine WL.y rfl (Y.move) ?_
          refine WL.y rfl (Y.loadK Try.underlying25 rfl ti25 (hcl) rfl ((hB.bel hb9').cells)) ?_
          refine WL.call rfl (C.func go10) (rmayT (rmay_ret s) (hmay.1 hok) _ _ _ (hs.bel k9) (Below.refl _ _) (by omega) (by omega)) ?_
          rintro _ w13 ⟨rfl, hb13⟩
          have k13 := Below.step k9 hb13
          refine WL.y rfl (Y.not rfl) ?_
          refine WL.y rfl (Y.pickF rfl) ?_
          refine WL.nil ?_
          refine WC.condF (rfl) ?_
          refine WC.skip (thenQ.normal ?_)
          refine WC.seqR rfl ?_
          refine WL.y rfl (Y.loadK Try.underlying25 rfl ti25 (hcl) rfl (((hB.bel hb9').bel hb13).cells)) ?_
          refine WL.call rfl (C.func go12) (ofT _ _ (hs.bel k13) (by omega) (by omega) hok) ?_
          rintro _ w19 ⟨⟨b, rfl, n19⟩, hb19⟩
          have k19 := Below.step k13 hb19
          have hsd := nsound_ret n19 true
          rw [hso] at hsd
          refine WL.y rfl (Y.move) ?_
          refine WL.y rfl (Y.extract rfl rfl) ?_
          refine WL.y rfl (Y.extract rfl rfl) ?_
          refine WL.y rfl (Y.assign) ?_
          refine WL.y rfl (Y.assign) ?_
          refine WL.nil ?_
          refine WC.seq ?_
          refine WC.seqR rfl ?_
          refine WL.y rfl (Y.move) ?_
          refine WL.y rfl (Y.dF (Y.nei rfl rfl) (fun h => h rfl)) ?_
          refine WL.y rfl (Y.move) ?_
          refine WL.y rfl (Y.move) ?_
          refine WL.y rfl (Y.bF (Y.eqpn Try.underlying29 rfl rfl) (rfl)) ?_
          refine WL.y rfl (Y.pickF rfl) ?_
          refine WL.y rfl (Y.move) ?_
          refine WL.y rfl (Y.move) ?_
          refine WL.call rfl (C.func go13) (nheight_ret n19) ?_
          rintro _ _ ⟨rfl, rfl⟩
          refine WL.y rfl (Y.dF (Y.eqi rfl rfl) (by omega)) ?_
          refine WL.y rfl (Y.pickF rfl) ?_
          refine WL.y rfl (Y.move) ?_
          refine WL.y rfl (Y.move) ?_
          refine WL.call rfl (C.func go14) (hsd) ?_
          rintro _ w35 ⟨rfl, hb35⟩
          refine WL.y rfl (Y.not rfl) ?_
          refine WL.y rfl (Y.pickF rfl) ?_
          refine WL.nil ?_
          refine WC.condF (rfl) ?_
          refine WC.skip (thenQ.normal ?_)
          refine WC.seqR rfl ?_
          refine WL.y rfl (Y.assign) ?_
          refine WL.y rfl (Y.assign) ?_
          refine WL.nil ?_
          refine WC.seq ?_
          refine WC.seqR rfl ?_
          refine WL.y rfl (Y.assign) ?_
          refine WL.nil ?_
          refine WC.block ?_
          have k35 := Below.step k19 hb35
          have n35 := n19.bel hb35
          refine WC.loop (fun j => hS s - j) (fun j f ds w' => j ≤ hS s ∧ ds = [] ∧ w35 = w' ∧ ∃ J, f = Go.Cx.ov J [(3, ptr b), (5, .int .i64 (lo j : Int)), (6, .int .i64 (hi j : Int)), (7, .int .i64 (j : Int))]) 0 ?_ ?_
          · exact ⟨by omega, rfl, rfl, _, ov_mk ⟨rfl, rfl, rfl, rfl, trivial⟩⟩
          · rintro j _ _ wL ⟨hj, rfl, rfl, J, rfl⟩
            have l4j := lo_le (show j ≤ 4 by omega)
            have h8j := hi_le (show j ≤ 4 by omega)
            have e1 := lo_succ j
            have e2 := hi_succ j
            refine WC.seq ?_
            refine WC.seqR rfl ?_
            refine WL.y rfl (Y.move) ?_
            refine WL.y rfl (Y.move) ?_
            refine WL.call rfl (C.func go13) (nheight_ret n35) ?_
            rintro _ _ ⟨rfl, rfl⟩
            refine WL.y rfl (Y.lss rfl rfl) ?_
            refine WL.nil ?_
            refine WC.condD rfl (fun h5 => ?_) (fun h5 => ?_)
            · refine WC.skip (thenQ.normal ?_)
              refine WC.seq ?_
              refine WC.block ?_
              refine WC.seqR rfl ?_
              refine WL.y rfl (Y.move) ?_
              refine WL.y rfl (Y.mul64 rfl rfl (by omega)) ?_
              refine WL.y rfl (Y.assign) ?_
              refine WL.nil ?_
              refine WC.region rfl ?_
              refine WL.y rfl (Y.move) ?_
              refine WL.y rfl (Y.mul64 rfl rfl (by omega)) ?_
              refine WL.y rfl (Y.assign) ?_
              refine WL.nil (inBlockQ.normal (thenQ.normal ?_))
              refine WC.region rfl ?_
              refine WL.y rfl (Y.move) ?_
              refine WL.y rfl (Y.add64 rfl rfl (by omega)) ?_
              refine WL.y rfl (Y.assign) ?_
              refine WL.nil (thenQ.normal ?_)
              exact ⟨j + 1, by omega, by omega, rfl, rfl, _, ov_mk ⟨rfl, int_eq (by omega), int_eq (by omega), rfl, trivial⟩⟩
            · have hje : j = hS s := by omega
              subst hje
              refine WC.exit (thenQ.exit (thenQ.exit (inBlockQ.hit (thenQ.normal ?_))))
              refine WC.seqR rfl ?_
              refine WL.y rfl (Y.move) ?_
              refine WL.call rfl (C.func go15) (ncount_ret n35) ?_
              rintro _ _ ⟨rfl, rfl⟩
              refine WL.y rfl (Y.move) ?_
              refine WL.y rfl (Y.dT (Y.geq rfl rfl) (by omega)) ?_
              refine WL.y rfl (Y.move) ?_
              refine WL.y rfl (Y.move) ?_
              refine WL.call rfl (C.func go15) (ncount_ret n35) ?_
              rintro _ _ ⟨rfl, rfl⟩
              refine WL.y rfl (Y.move) ?_
              refine WL.y rfl (Y.dT (Y.leq rfl rfl) (by omega)) ?_
              refine WL.y rfl (Y.pickT rfl) ?_
              refine WL.y rfl (Y.move) ?_
              refine WL.call rfl (C.func go11) (known_ret _) ?_
              rintro _ w68 ⟨rfl, hb68⟩
              refine WL.y rfl (Y.pickT rfl) ?_
              refine WL.y rfl (Y.assign) ?_
              refine WL.nil ?_
              refine WC.ret (endQ.one (.inr rfl) ?_)
              exact ⟨rfl, Below.step k35 hb68⟩
    · refine WC.seqR rfl ?_
      refine WL.y rfl (Y.loadK Try.underlying25 rfl ti25 (hcl) rfl (hB.cells)) ?_
      refine WL.call rfl (C.func go9) (smallT (d := 5) (by omega) (hs.bel hb1) hsm) ?_
      rintro _ w9 ⟨rfl, hb9'⟩
      have k9 := Below.step hb1 hb9'
      refine WL.y rfl (Y.not rfl) ?_
      refine WL.y rfl (Y.move) ?_
      refine WL.y rfl (Y.loadK Try.underlying25 rfl ti25 (hcl) rfl ((hB.bel hb9').cells)) ?_
      refine WL.call rfl (C.func go10) (rmayF (rmay_ret s) (fun h => hok (hmay.2 h)) _ _ _ (hs.bel k9) (Below.refl _ _) (by omega) (by omega)) ?_
      rintro _ w13 ⟨rfl, hb13⟩
      have k13 := Below.step k9 hb13
      refine WL.y rfl (Y.not rfl) ?_
      refine WL.y rfl (Y.pickF rfl) ?_
      refine WL.nil ?_
      refine WC.condT (rfl) ?_
      refine WC.seqR rfl ?_
      refine WL.call rfl (C.func go11) (known_ret _) ?_
      rintro _ w16 ⟨rfl, hb16⟩
      refine WL.y rfl (Y.assign) ?_
      refine WL.nil ?_
      refine WC.ret (thenQ.ret (endQ.one (.inr rfl) ?_))
      exact ⟨rfl, Below.step k13 hb16⟩
  · skip
    skip
    refine WC.seqR rfl ?_
    refine WL.y rfl (Y.loadK Try.underlying25 rfl ti25 (hcl) rfl (hB.cells)) ?_
    refine WL.call rfl (C.func go9) (smallF (d := 5) (by omega) (hs.bel hb1) hsm) ?_
    rintro _ w9 ⟨rfl, hb9'⟩
    refine WL.y rfl (Y.not rfl) ?_
    refine WL.y rfl (Y.move) ?_
    refine WL.off rfl ?_
    refine WL.off rfl ?_
    refine WL.off rfl ?_
    refine WL.y rfl (Y.pickT rfl) ?_
    refine WL.nil ?_
    refine WC.condT (rfl) ?_
    refine WC.seqR rfl ?_
    refine WL.call rfl (C.func go11) (known_ret _) ?_
    rintro _ w16 ⟨rfl, hb16⟩
    refine WL.y rfl (Y.assign) ?_
    refine WL.nil ?_
    refine WC.ret (thenQ.ret (endQ.one (.inr rfl) ?_))
    exact ⟨rfl, Below.step (Below.step hb1 hb9') hb16⟩
end Go.Proofs.Ytpefeefmdlfafaa
