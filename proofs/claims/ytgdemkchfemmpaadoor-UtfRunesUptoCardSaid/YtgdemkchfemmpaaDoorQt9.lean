/-
  ref01: Unquote: walk.
-/
import Derived.Test.YtgdemkchfemmpaaDoorQt8
namespace Go.Proofs.YtgdemkchfemmpaaDoor
open Go Go.RowKit Go.Cx
set_option linter.unusedVariables false
set_option maxHeartbeats 8000000
def lettersL : List UInt8 := [34, 92, 47, 98, 102, 110, 114, 116]
/-- the letter's place -/
theorem runOf_at (c : UInt8) (k : Nat) (hk : k < 8) (h : lettersL.getD k 0 = c) : runOf c.toNat = some (codes.getD k 0) := by
  subst h
  have hk8 : k = 0 ∨ k = 1 ∨ k = 2 ∨ k = 3 ∨ k = 4 ∨ k = 5 ∨ k = 6 ∨ k = 7 := by omega
  rcases hk8 with rfl | rfl | rfl | rfl | rfl | rfl | rfl | rfl <;> rfl
theorem runOf_none (c : UInt8) (h : ∀ j, j < 8 → lettersL.getD j 0 ≠ c) : runOf c.toNat = none := by
  have hh : ∀ j, j < 8 → (lettersL.getD j 0).toNat ≠ c.toNat := fun j hj e => h j hj (UInt8.toNat_inj.mp e)
  have h0 := hh 0 (by omega)
  have h1 := hh 1 (by omega)
  have h2 := hh 2 (by omega)
  have h3 := hh 3 (by omega)
  have h4 := hh 4 (by omega)
  have h5 := hh 5 (by omega)
  have h6 := hh 6 (by omega)
  have h7 := hh 7 (by omega)
  have e0 : (lettersL.getD 0 0).toNat = 34 := rfl
  have e1 : (lettersL.getD 1 0).toNat = 92 := rfl
  have e2 : (lettersL.getD 2 0).toNat = 47 := rfl
  have e3 : (lettersL.getD 3 0).toNat = 98 := rfl
  have e4 : (lettersL.getD 4 0).toNat = 102 := rfl
  have e5 : (lettersL.getD 5 0).toNat = 110 := rfl
  have e6 : (lettersL.getD 6 0).toNat = 114 := rfl
  have e7 : (lettersL.getD 7 0).toNat = 116 := rfl
  unfold runOf
  rw [if_neg (by omega), if_neg (by omega), if_neg (by omega), if_neg (by omega), if_neg (by omega), if_neg (by omega), if_neg (by omega), if_neg (by omega)]
theorem codes_ok (k : Nat) (hk : k < 8) : okR (codes.getD k 0) := by
  have hk8 : k = 0 ∨ k = 1 ∨ k = 2 ∨ k = 3 ∨ k = 4 ∨ k = 5 ∨ k = 6 ∨ k = 7 := by omega
  rcases hk8 with rfl | rfl | rfl | rfl | rfl | rfl | rfl | rfl <;> (show okR _; unfold okR codes; simp)
theorem hex_some (w : World) (s : List UInt8) (i : Nat) (hi : i ≤ 4611686018427387904) (hs : s.length ≤ 4611686018427387904) {n : Nat} (h : hexL (s.drop i) = some n) : Ret Tryd.prog 34 [strv s, .int .i64 (i : Int)].toArray w fun v w' => v = .int .i64 (n : Int) ∧ w = w' :=
  (hex_ret w s i hi hs).mono (by rintro v w' ⟨rfl, rfl⟩; unfold hexI; rw [h]; exact ⟨rfl, rfl⟩)
theorem hex_none (w : World) (s : List UInt8) (i : Nat) (hi : i ≤ 4611686018427387904) (hs : s.length ≤ 4611686018427387904) (h : hexL (s.drop i) = none) : Ret Tryd.prog 34 [strv s, .int .i64 (i : Int)].toArray w fun v w' => v = .int .i64 (-1) ∧ w = w' :=
  (hex_ret w s i hi hs).mono (by rintro v w' ⟨rfl, rfl⟩; unfold hexI; rw [h]; exact ⟨rfl, rfl⟩)
theorem bytes_eq (w : World) (r : Nat) (z : Int) (h : okR r) (e : z = (r : Int)) : Ret Tryd.prog 17 [.int .i64 z].toArray w fun v w' => v = strv (Lib.encodeRune (r : Int)) ∧ Below w.heap.size w w' := by
  subst e
  exact bytes_ret w r h
theorem at_eq (w : World) (s : List UInt8) (i : Nat) (hi : i ≤ 4611686018427387904) (hs : s.length ≤ 4611686018427387904) {r n : Nat} (h : atL (s.drop i) = (r, n)) : Ret Tryd.prog 22 [strv s, .int .i64 (i : Int)].toArray w fun v w' => v = .tuple #[.int .i64 (r : Int), .int .i64 (n : Int)] ∧ w = w' :=
  (at_ret w s i hi hs).mono (by rintro v w' ⟨rfl, rfl⟩; rw [h]; exact ⟨rfl, rfl⟩)
theorem runquote_ret (w : World) (s : List UInt8) (a : Int) (ha : -9223372036854775808 ≤ a ∧ a ≤ 9223372036854775807) (hs : s.length ≤ 140737488351232) : Ret Tryd.prog 15 [strv s, .int .i64 a].toArray w fun v w' => v = unqV (unquoteS s a) ∧ Below w.heap.size w w' := by
  have hend : ∀ {t : List UInt8} {n c : Nat} {z y : Int}, unquoteS s a = (t, n, c) → (n : Int) = z → (c : Int) = y → Value.tuple #[strv t, .int .i64 z, .int .i64 y] = unqV (unquoteS s a) := fun e e1 e2 => by rw [e]; subst e1; subst e2; rfl
  by_cases h0 : a < 0
  · have e : unquoteS s a = ([], 0, 17) := if_pos (.inl h0)
    refine Ret.of (n := 153) (rs := #[.tmp 4, .tmp 5, .tmp 6]) Tryd.func15 rfl rfl rfl (by simp) ?_
    refine WC.seqR rfl ?_
    refine WL.y rfl (Y.assign) ?_
    refine WL.y rfl (Y.assign) ?_
    refine WL.y rfl (Y.assign) ?_
    refine WL.nil ?_
    refine WC.seq ?_
    refine WC.seqR rfl ?_
    refine WL.y rfl (Y.move) ?_
    refine WL.y rfl (Y.dT (Y.lss rfl rfl) (by omega)) ?_
    refine WL.y rfl (Y.move) ?_
    refine WL.off rfl ?_
    refine WL.off rfl ?_
    refine WL.off rfl ?_
    refine WL.off rfl ?_
    refine WL.y rfl (Y.pickT rfl) ?_
    refine WL.nil ?_
    refine WC.condT (rfl) ?_
    refine WC.seqR rfl ?_
    refine WL.y rfl (Y.assign) ?_
    refine WL.y rfl (Y.assign) ?_
    refine WL.y rfl (Y.assign) ?_
    refine WL.nil ?_
    refine WC.ret (thenQ.ret (endQ.three (.inr rfl) ?_))
    exact ⟨hend e rfl rfl, Below.refl _ _⟩
  · by_cases h1 : (s.length : Int) < a
    · have e : unquoteS s a = ([], 0, 17) := if_pos (.inr h1)
      refine Ret.of (n := 153) (rs := #[.tmp 4, .tmp 5, .tmp 6]) Tryd.func15 rfl rfl rfl (by simp) ?_
      refine WC.seqR rfl ?_
      refine WL.y rfl (Y.assign) ?_
      refine WL.y rfl (Y.assign) ?_
      refine WL.y rfl (Y.assign) ?_
      refine WL.nil ?_
      refine WC.seq ?_
      refine WC.seqR rfl ?_
      refine WL.y rfl (Y.move) ?_
      refine WL.y rfl (Y.dF (Y.lss rfl rfl) (by omega)) ?_
      refine WL.y rfl (Y.move) ?_
      refine WL.y rfl (Y.move) ?_
      refine WL.y rfl (Y.move) ?_
      refine WL.y rfl (Y.lenS Tryd.underlying9 rfl _) ?_
      refine WL.y rfl (Y.dT (Y.gtr rfl rfl) (by omega)) ?_
      refine WL.y rfl (Y.pickF rfl) ?_
      refine WL.nil ?_
      refine WC.condT (rfl) ?_
      refine WC.seqR rfl ?_
      refine WL.y rfl (Y.assign) ?_
      refine WL.y rfl (Y.assign) ?_
      refine WL.y rfl (Y.assign) ?_
      refine WL.nil ?_
      refine WC.ret (thenQ.ret (endQ.three (.inr rfl) ?_))
      exact ⟨hend e rfl rfl, Below.refl _ _⟩
    · obtain ⟨k, rfl⟩ : ∃ k : Nat, a = (k : Int) := ⟨a.toNat, by omega⟩
      have hk : k ≤ s.length := by omega
      have e0 : unquoteS s (k : Int) = if s.drop k = [] ∨ bt (s.drop k) 0 ≠ 34 then ([], k, 4) else ((unq (s.drop (k + 1))).1, k + 1 + (unq (s.drop (k + 1))).2.1, (unq (s.drop (k + 1))).2.2) := if_neg (by omega)
      have hb0 := bt0 s k
      by_cases h2 : k = s.length
      · have e : unquoteS s (k : Int) = ([], k, 4) := e0.trans (if_pos (.inl (List.drop_eq_nil_of_le (by omega))))
        refine Ret.of (n := 153) (rs := #[.tmp 4, .tmp 5, .tmp 6]) Tryd.func15 rfl rfl rfl (by simp) ?_
        refine WC.seqR rfl ?_
        refine WL.y rfl (Y.assign) ?_
        refine WL.y rfl (Y.assign) ?_
        refine WL.y rfl (Y.assign) ?_
        refine WL.nil ?_
        refine WC.seq ?_
        refine WC.seqR rfl ?_
        refine WL.y rfl (Y.move) ?_
        refine WL.y rfl (Y.dF (Y.lss rfl rfl) (by omega)) ?_
        refine WL.y rfl (Y.move) ?_
        refine WL.y rfl (Y.move) ?_
        refine WL.y rfl (Y.move) ?_
        refine WL.y rfl (Y.lenS Tryd.underlying9 rfl _) ?_
        refine WL.y rfl (Y.dF (Y.gtr rfl rfl) (by omega)) ?_
        refine WL.y rfl (Y.pickF rfl) ?_
        refine WL.nil ?_
        refine WC.condF (rfl) ?_
        refine WC.skip (thenQ.normal ?_)
        refine WC.seq ?_
        refine WC.seqR rfl ?_
        refine WL.y rfl (Y.move) ?_
        refine WL.y rfl (Y.move) ?_
        refine WL.y rfl (Y.lenS Tryd.underlying9 rfl _) ?_
        refine WL.y rfl (Y.dT (Y.eqi rfl rfl) (by omega)) ?_
        refine WL.y rfl (Y.move) ?_
        refine WL.off rfl ?_
        refine WL.off rfl ?_
        refine WL.off rfl ?_
        refine WL.off rfl ?_
        refine WL.y rfl (Y.pickT rfl) ?_
        refine WL.nil ?_
        refine WC.condT (rfl) ?_
        refine WC.seqR rfl ?_
        refine WL.y rfl (Y.move) ?_
        refine WL.y rfl (Y.assign) ?_
        refine WL.y rfl (Y.assign) ?_
        refine WL.y rfl (Y.assign) ?_
        refine WL.nil ?_
        refine WC.ret (thenQ.ret (endQ.three (.inr rfl) ?_))
        exact ⟨hend e rfl rfl, Below.refl _ _⟩
      · by_cases h3 : bt (s.drop k) 0 = 34
        · have hne : s.drop k ≠ [] := by
            intro e
            have := List.drop_eq_nil_iff.mp e
            omega
          have e : unquoteS s (k : Int) = ((unq (s.drop (k + 1))).1, k + 1 + (unq (s.drop (k + 1))).2.1, (unq (s.drop (k + 1))).2.2) := e0.trans (if_neg (by simp only [hne, false_or, h3, ne_eq, not_true_eq_false, not_false_eq_true]))
          clear e0
          have hfin : ∀ {acc : List UInt8} {p : Nat} {t : List UInt8} {n c : Nat}, k + 1 ≤ p → unq (s.drop (k + 1)) = preU acc (p - (k + 1)) (unq (s.drop p)) → unq (s.drop p) = (t, n, c) → unquoteS s (k : Int) = (if c = 0 then acc ++ t else [], p + n, c) := by
            intro acc p t n c hp h4 h5
            rw [e, h4, h5]
            unfold preU
            simp only
            rw [show k + 1 + (p - (k + 1) + n) = p + n by omega]
          refine Ret.of (n := 153) (rs := #[.tmp 4, .tmp 5, .tmp 6]) Tryd.func15 rfl rfl rfl (by simp) ?_
          refine WC.seqR rfl ?_
          refine WL.y rfl (Y.assign) ?_
          refine WL.y rfl (Y.assign) ?_
          refine WL.y rfl (Y.assign) ?_
          refine WL.nil ?_
          refine WC.seq ?_
          refine WC.seqR rfl ?_
          refine WL.y rfl (Y.move) ?_
          refine WL.y rfl (Y.dF (Y.lss rfl rfl) (by omega)) ?_
          refine WL.y rfl (Y.move) ?_
          refine WL.y rfl (Y.move) ?_
          refine WL.y rfl (Y.move) ?_
          refine WL.y rfl (Y.lenS Tryd.underlying9 rfl _) ?_
          refine WL.y rfl (Y.dF (Y.gtr rfl rfl) (by omega)) ?_
          refine WL.y rfl (Y.pickF rfl) ?_
          refine WL.nil ?_
          refine WC.condF (rfl) ?_
          refine WC.skip (thenQ.normal ?_)
          refine WC.seq ?_
          refine WC.seqR rfl ?_
          refine WL.y rfl (Y.move) ?_
          refine WL.y rfl (Y.move) ?_
          refine WL.y rfl (Y.lenS Tryd.underlying9 rfl _) ?_
          refine WL.y rfl (Y.dF (Y.eqi rfl rfl) (by omega)) ?_
          refine WL.y rfl (Y.move) ?_
          refine WL.y rfl (Y.move) ?_
          refine WL.y rfl (Y.move) ?_
          refine WL.y rfl (Y.idxN _ Tryd.underlying9 rfl rfl rfl (by omega) _) ?_
          refine WL.y rfl (Y.dF (Y.nei rfl rfl) (by omega)) ?_
          refine WL.y rfl (Y.pickF rfl) ?_
          refine WL.nil ?_
          refine WC.condF (rfl) ?_
          refine WC.skip (thenQ.normal ?_)
          refine WC.seqR rfl ?_
          refine WL.y rfl (Y.assign) ?_
          refine WL.nil ?_
          refine WC.seqR rfl ?_
          refine WL.y rfl (Y.move) ?_
          refine WL.y rfl (Y.add64 rfl rfl (by omega)) ?_
          refine WL.y rfl (Y.assign) ?_
          refine WL.nil ?_
          refine WC.seq ?_
          refine WC.block ?_
          refine WC.loop (fun p => s.length - p) (fun p f ds w' => k + 1 ≤ p ∧ p ≤ s.length ∧ ds = [] ∧ Below w.heap.size w w' ∧ ∃ acc J, unq (s.drop (k + 1)) = preU acc (p - (k + 1)) (unq (s.drop p)) ∧ acc.length ≤ p ∧
            f = ov J [(0, strv s), (1, .int .i64 (k : Int)), (7, strv acc), (8, .int .i64 (p : Int))]) (k + 1) ?_ ?_
          · exact ⟨Nat.le_refl _, by omega, rfl, Below.refl _ _, [], _, by rw [Nat.sub_self, preU_nil], Nat.zero_le _, ov_mk ⟨rfl, rfl, rfl, rfl, trivial⟩⟩
          · rintro p _ _ w1 ⟨hp1, hp, rfl, hb1, acc, J, hacc, hal, rfl⟩
            have hs1 := hb1.size
            by_cases h4 : p < s.length
            · have hne2 : s.drop p ≠ [] := by
                intro e
                have := List.drop_eq_nil_iff.mp e
                omega
              have hbp := bt0 s p
              have hbl := bt_lt (s.drop p) 0
              have hdl : (s.drop p).length = s.length - p := List.length_drop
              have hgo : ∀ {b : List UInt8} {n : Nat}, stepU (s.drop p) = .go b n → unq (s.drop (k + 1)) = preU (acc ++ b) (p + n - (k + 1)) (unq (s.drop (p + n))) ∧ 1 ≤ n ∧ p + n ≤ s.length ∧ (acc ++ b).length ≤ p + n := by
                intro b n h
                have hg := stepU_go h
                have hu := unq_go h
                rw [List.drop_drop] at hu
                refine ⟨?_, hg.1, by omega, by rw [List.length_append]; omega⟩
                rw [hacc, hu, preU_preU, show p + n - (k + 1) = p - (k + 1) + n by omega]
              have hbad : ∀ {c : Nat}, stepU (s.drop p) = .bad c → unquoteS s (k : Int) = ([], p, c) := by
                intro c h
                have hr := hfin hp1 hacc (unq_bad h)
                rwa [if_neg (stepU_bad h)] at hr
              by_cases h5 : bt (s.drop p) 0 = 34
              · have hu : unq (s.drop p) = ([], 1, 0) := unq_fin (by unfold stepU; rw [if_neg hne2, if_pos h5])
                have hr := hfin hp1 hacc hu
                rw [if_pos rfl, List.append_nil] at hr
                refine WC.seq ?_
                refine WC.seqR rfl ?_
                refine WL.y rfl (Y.move) ?_
                refine WL.y rfl (Y.move) ?_
                refine WL.y rfl (Y.lenS Tryd.underlying9 rfl _) ?_
                refine WL.y rfl (Y.dT (Y.lss rfl rfl) (by omega)) ?_
                refine WL.y rfl (Y.move) ?_
                refine WL.y rfl (Y.move) ?_
                refine WL.y rfl (Y.move) ?_
                refine WL.y rfl (Y.idxN (p) Tryd.underlying9 rfl rfl (by omega) (by omega) _) ?_
                refine WL.y rfl (Y.dF (Y.nei rfl rfl) (by omega)) ?_
                refine WL.y rfl (Y.pickT rfl) ?_
                refine WL.nil ?_
                refine WC.condF (rfl) ?_
                refine WC.exit (thenQ.exit (thenQ.exit (inBlockQ.hit (thenQ.normal ?_))))
                refine WC.seq ?_
                refine WC.seqR rfl ?_
                refine WL.y rfl (Y.move) ?_
                refine WL.y rfl (Y.move) ?_
                refine WL.y rfl (Y.lenS Tryd.underlying9 rfl _) ?_
                refine WL.y rfl (Y.dF (Y.geq rfl rfl) (by omega)) ?_
                refine WL.nil ?_
                refine WC.condF (rfl) ?_
                refine WC.skip (thenQ.normal ?_)
                refine WC.seqR rfl ?_
                refine WL.y rfl (Y.move) ?_
                refine WL.y rfl (Y.move) ?_
                refine WL.y rfl (Y.add64 rfl rfl (by omega)) ?_
                refine WL.y rfl (Y.assign) ?_
                refine WL.y rfl (Y.assign) ?_
                refine WL.y rfl (Y.assign) ?_
                refine WL.nil ?_
                refine WC.ret (endQ.three (.inr rfl) ?_)
                exact ⟨hend (c := 0) hr (by omega) rfl, hb1⟩
              · by_cases h6 : bt (s.drop p) 0 < 32
                · have hr := hbad (c := 4) (by unfold stepU; rw [if_neg hne2, if_neg h5, if_neg (by omega), if_pos h6])
                  refine WC.seq ?_
                  refine WC.seqR rfl ?_
                  refine WL.y rfl (Y.move) ?_
                  refine WL.y rfl (Y.move) ?_
                  refine WL.y rfl (Y.lenS Tryd.underlying9 rfl _) ?_
                  refine WL.y rfl (Y.dT (Y.lss rfl rfl) (by omega)) ?_
                  refine WL.y rfl (Y.move) ?_
                  refine WL.y rfl (Y.move) ?_
                  refine WL.y rfl (Y.move) ?_
                  refine WL.y rfl (Y.idxN (p) Tryd.underlying9 rfl rfl (by omega) (by omega) _) ?_
                  refine WL.y rfl (Y.dT (Y.nei rfl rfl) (by omega)) ?_
                  refine WL.y rfl (Y.pickT rfl) ?_
                  refine WL.nil ?_
                  refine WC.condT (rfl) ?_
                  refine WC.skip (thenQ.normal ?_)
                  refine WC.block ?_
                  refine WC.seq ?_
                  refine WC.seqR rfl ?_
                  refine WL.y rfl (Y.move) ?_
                  refine WL.y rfl (Y.move) ?_
                  refine WL.y rfl (Y.idxN (p) Tryd.underlying9 rfl rfl (by omega) (by omega) _) ?_
                  refine WL.y rfl (Y.dT (Y.lss rfl rfl) (by omega)) ?_
                  refine WL.nil ?_
                  refine WC.condT (rfl) ?_
                  refine WC.seqR rfl ?_
                  refine WL.y rfl (Y.move) ?_
                  refine WL.y rfl (Y.assign) ?_
                  refine WL.y rfl (Y.assign) ?_
                  refine WL.y rfl (Y.assign) ?_
                  refine WL.nil ?_
                  refine WC.ret (thenQ.ret (inBlockQ.ret (thenQ.ret (inBlockQ.ret (thenQ.ret (endQ.three (.inr rfl) ?_))))))
                  exact ⟨hend (c := 4) hr (by omega) rfl, hb1⟩
                · by_cases h7 : bt (s.drop p) 0 = 92
                  · have hst : stepU (s.drop p) = if (escS (s.drop p)).2.2 = 0 then .go (Lib.encodeRune ((escS (s.drop p)).1 : Int)) (escS (s.drop p)).2.1 else .bad (escS (s.drop p)).2.2 := by unfold stepU; rw [if_neg hne2, if_neg h5, if_pos h7]
                    have hsg : ∀ {r n : Nat}, escS (s.drop p) = (r, n, 0) → stepU (s.drop p) = .go (Lib.encodeRune (r : Int)) n := fun h => by rw [hst, h]; rfl
                    have hsb : ∀ {r n c : Nat}, c ≠ 0 → escS (s.drop p) = (r, n, c) → stepU (s.drop p) = .bad c := fun hc h => by rw [hst, h]; exact if_neg hc
                    cases hn : hexL (s.drop p) with
                    | some n =>
                      have hes : escS (s.drop p) = pairS n ((s.drop p).drop 6) := by unfold escS; rw [hn]
                      rw [List.drop_drop] at hes
                      have hn6 := hexL_lt hn
                      by_cases hA : 55296 ≤ n ∧ n < 57344
                      · have hA1 := hA.1
                        have hA2 := hA.2
                        by_cases hB : 56320 ≤ n
                        · have hr := hbad (hsb (c := 3) (by decide) (hes.trans (by unfold pairS; rw [if_neg (by omega), if_pos hB])))
                          cases hm : hexL (s.drop (p + 6)) with
                          | none =>
                            refine WC.seq ?_
                            refine WC.seqR rfl ?_
                            refine WL.y rfl (Y.move) ?_
                            refine WL.y rfl (Y.move) ?_
                            refine WL.y rfl (Y.lenS Tryd.underlying9 rfl _) ?_
                            refine WL.y rfl (Y.dT (Y.lss rfl rfl) (by omega)) ?_
                            refine WL.y rfl (Y.move) ?_
                            refine WL.y rfl (Y.move) ?_
                            refine WL.y rfl (Y.move) ?_
                            refine WL.y rfl (Y.idxN (p) Tryd.underlying9 rfl rfl (by omega) (by omega) _) ?_
                            refine WL.y rfl (Y.dT (Y.nei rfl rfl) (by omega)) ?_
                            refine WL.y rfl (Y.pickT rfl) ?_
                            refine WL.nil ?_
                            refine WC.condT (rfl) ?_
                            refine WC.skip (thenQ.normal ?_)
                            refine WC.block ?_
                            refine WC.seq ?_
                            refine WC.seqR rfl ?_
                            refine WL.y rfl (Y.move) ?_
                            refine WL.y rfl (Y.move) ?_
                            refine WL.y rfl (Y.idxN (p) Tryd.underlying9 rfl rfl (by omega) (by omega) _) ?_
                            refine WL.y rfl (Y.dF (Y.lss rfl rfl) (by omega)) ?_
                            refine WL.nil ?_
                            refine WC.condF (rfl) ?_
                            refine WC.skip (thenQ.normal ?_)
                            refine WC.seq ?_
                            refine WC.seqR rfl ?_
                            refine WL.y rfl (Y.move) ?_
                            refine WL.y rfl (Y.move) ?_
                            refine WL.y rfl (Y.idxN (p) Tryd.underlying9 rfl rfl (by omega) (by omega) _) ?_
                            refine WL.y rfl (Y.dF (Y.nei rfl rfl) (by omega)) ?_
                            refine WL.nil ?_
                            refine WC.condF (rfl) ?_
                            refine WC.skip (thenQ.normal ?_)
                            refine WC.seqR rfl ?_
                            refine WL.y rfl (Y.move) ?_
                            refine WL.y rfl (Y.move) ?_
                            refine WL.call rfl (C.func go34) (hex_some _ s p (by omega) (by omega) hn) ?_
                            rintro _ _ ⟨rfl, rfl⟩
                            refine WL.y rfl (Y.assign) ?_
                            refine WL.nil ?_
                            refine WC.seq ?_
                            refine WC.seqR rfl ?_
                            refine WL.y rfl (Y.move) ?_
                            refine WL.y rfl (Y.dT (Y.geq rfl rfl) (by omega)) ?_
                            refine WL.y rfl (Y.move) ?_
                            refine WL.y rfl (Y.move) ?_
                            refine WL.y rfl (Y.dT (Y.lss rfl rfl) (by omega)) ?_
                            refine WL.y rfl (Y.pickT rfl) ?_
                            refine WL.nil ?_
                            refine WC.condT (rfl) ?_
                            refine WC.seqR rfl ?_
                            refine WL.y rfl (Y.move) ?_
                            refine WL.y rfl (Y.move) ?_
                            refine WL.y rfl (Y.add64 rfl rfl (by omega)) ?_
                            refine WL.call rfl (C.func go34) (hex_none _ s (p + 6) (by omega) (by omega) hm) ?_
                            rintro _ _ ⟨rfl, rfl⟩
                            refine WL.y rfl (Y.assign) ?_
                            refine WL.nil ?_
                            refine WC.seq ?_
                            refine WC.seqR rfl ?_
                            refine WL.y rfl (Y.move) ?_
                            refine WL.y rfl (Y.dT (Y.geq rfl rfl) (by omega)) ?_
                            refine WL.y rfl (Y.move) ?_
                            refine WL.off rfl ?_
                            refine WL.off rfl ?_
                            refine WL.y rfl (Y.pickT rfl) ?_
                            refine WL.y rfl (Y.move) ?_
                            refine WL.off rfl ?_
                            refine WL.off rfl ?_
                            refine WL.y rfl (Y.pickT rfl) ?_
                            refine WL.nil ?_
                            refine WC.condT (rfl) ?_
                            refine WC.seqR rfl ?_
                            refine WL.y rfl (Y.move) ?_
                            refine WL.y rfl (Y.assign) ?_
                            refine WL.y rfl (Y.assign) ?_
                            refine WL.y rfl (Y.assign) ?_
                            refine WL.nil ?_
                            refine WC.ret (thenQ.ret (thenQ.ret (inBlockQ.ret (thenQ.ret (inBlockQ.ret (thenQ.ret (endQ.three (.inr rfl) ?_)))))))
                            exact ⟨hend (c := 3) hr (by omega) rfl, hb1⟩
                          | some m =>
                            refine WC.seq ?_
                            refine WC.seqR rfl ?_
                            refine WL.y rfl (Y.move) ?_
                            refine WL.y rfl (Y.move) ?_
                            refine WL.y rfl (Y.lenS Tryd.underlying9 rfl _) ?_
                            refine WL.y rfl (Y.dT (Y.lss rfl rfl) (by omega)) ?_
                            refine WL.y rfl (Y.move) ?_
                            refine WL.y rfl (Y.move) ?_
                            refine WL.y rfl (Y.move) ?_
                            refine WL.y rfl (Y.idxN (p) Tryd.underlying9 rfl rfl (by omega) (by omega) _) ?_
                            refine WL.y rfl (Y.dT (Y.nei rfl rfl) (by omega)) ?_
                            refine WL.y rfl (Y.pickT rfl) ?_
                            refine WL.nil ?_
                            refine WC.condT (rfl) ?_
                            refine WC.skip (thenQ.normal ?_)
                            refine WC.block ?_
                            refine WC.seq ?_
                            refine WC.seqR rfl ?_
                            refine WL.y rfl (Y.move) ?_
                            refine WL.y rfl (Y.move) ?_
                            refine WL.y rfl (Y.idxN (p) Tryd.underlying9 rfl rfl (by omega) (by omega) _) ?_
                            refine WL.y rfl (Y.dF (Y.lss rfl rfl) (by omega)) ?_
                            refine WL.nil ?_
                            refine WC.condF (rfl) ?_
                            refine WC.skip (thenQ.normal ?_)
                            refine WC.seq ?_
                            refine WC.seqR rfl ?_
                            refine WL.y rfl (Y.move) ?_
                            refine WL.y rfl (Y.move) ?_
                            refine WL.y rfl (Y.idxN (p) Tryd.underlying9 rfl rfl (by omega) (by omega) _) ?_
                            refine WL.y rfl (Y.dF (Y.nei rfl rfl) (by omega)) ?_
                            refine WL.nil ?_
                            refine WC.condF (rfl) ?_
                            refine WC.skip (thenQ.normal ?_)
                            refine WC.seqR rfl ?_
                            refine WL.y rfl (Y.move) ?_
                            refine WL.y rfl (Y.move) ?_
                            refine WL.call rfl (C.func go34) (hex_some _ s p (by omega) (by omega) hn) ?_
                            rintro _ _ ⟨rfl, rfl⟩
                            refine WL.y rfl (Y.assign) ?_
                            refine WL.nil ?_
                            refine WC.seq ?_
                            refine WC.seqR rfl ?_
                            refine WL.y rfl (Y.move) ?_
                            refine WL.y rfl (Y.dT (Y.geq rfl rfl) (by omega)) ?_
                            refine WL.y rfl (Y.move) ?_
                            refine WL.y rfl (Y.move) ?_
                            refine WL.y rfl (Y.dT (Y.lss rfl rfl) (by omega)) ?_
                            refine WL.y rfl (Y.pickT rfl) ?_
                            refine WL.nil ?_
                            refine WC.condT (rfl) ?_
                            refine WC.seqR rfl ?_
                            refine WL.y rfl (Y.move) ?_
                            refine WL.y rfl (Y.move) ?_
                            refine WL.y rfl (Y.add64 rfl rfl (by omega)) ?_
                            refine WL.call rfl (C.func go34) (hex_some _ s (p + 6) (by omega) (by omega) hm) ?_
                            rintro _ _ ⟨rfl, rfl⟩
                            refine WL.y rfl (Y.assign) ?_
                            refine WL.nil ?_
                            refine WC.seq ?_
                            refine WC.seqR rfl ?_
                            refine WL.y rfl (Y.move) ?_
                            refine WL.y rfl (Y.dT (Y.geq rfl rfl) (by omega)) ?_
                            refine WL.y rfl (Y.move) ?_
                            refine WL.off rfl ?_
                            refine WL.off rfl ?_
                            refine WL.y rfl (Y.pickT rfl) ?_
                            refine WL.y rfl (Y.move) ?_
                            refine WL.off rfl ?_
                            refine WL.off rfl ?_
                            refine WL.y rfl (Y.pickT rfl) ?_
                            refine WL.nil ?_
                            refine WC.condT (rfl) ?_
                            refine WC.seqR rfl ?_
                            refine WL.y rfl (Y.move) ?_
                            refine WL.y rfl (Y.assign) ?_
                            refine WL.y rfl (Y.assign) ?_
                            refine WL.y rfl (Y.assign) ?_
                            refine WL.nil ?_
                            refine WC.ret (thenQ.ret (thenQ.ret (inBlockQ.ret (thenQ.ret (inBlockQ.ret (thenQ.ret (endQ.three (.inr rfl) ?_)))))))
                            exact ⟨hend (c := 3) hr (by omega) rfl, hb1⟩
                        · have hes2 : escS (s.drop p) = (match hexL (s.drop (p + 6)) with | none => (0, 0, 3) | some m => if 56320 ≤ m ∧ m < 57344 then (65536 + 1024 * (n - 55296) + (m - 56320), 12, 0) else (0, 0, 3)) := hes.trans (by unfold pairS; rw [if_neg (by omega), if_neg hB]; cases hexL (s.drop (p + 6)) <;> rfl)
                          cases hm : hexL (s.drop (p + 6)) with
                          | none =>
                            rw [hm] at hes2
                            have hr := hbad (hsb (c := 3) (by decide) hes2)
                            refine WC.seq ?_
                            refine WC.seqR rfl ?_
                            refine WL.y rfl (Y.move) ?_
                            refine WL.y rfl (Y.move) ?_
                            refine WL.y rfl (Y.lenS Tryd.underlying9 rfl _) ?_
                            refine WL.y rfl (Y.dT (Y.lss rfl rfl) (by omega)) ?_
                            refine WL.y rfl (Y.move) ?_
                            refine WL.y rfl (Y.move) ?_
                            refine WL.y rfl (Y.move) ?_
                            refine WL.y rfl (Y.idxN (p) Tryd.underlying9 rfl rfl (by omega) (by omega) _) ?_
                            refine WL.y rfl (Y.dT (Y.nei rfl rfl) (by omega)) ?_
                            refine WL.y rfl (Y.pickT rfl) ?_
                            refine WL.nil ?_
                            refine WC.condT (rfl) ?_
                            refine WC.skip (thenQ.normal ?_)
                            refine WC.block ?_
                            refine WC.seq ?_
                            refine WC.seqR rfl ?_
                            refine WL.y rfl (Y.move) ?_
                            refine WL.y rfl (Y.move) ?_
                            refine WL.y rfl (Y.idxN (p) Tryd.underlying9 rfl rfl (by omega) (by omega) _) ?_
                            refine WL.y rfl (Y.dF (Y.lss rfl rfl) (by omega)) ?_
                            refine WL.nil ?_
                            refine WC.condF (rfl) ?_
                            refine WC.skip (thenQ.normal ?_)
                            refine WC.seq ?_
                            refine WC.seqR rfl ?_
                            refine WL.y rfl (Y.move) ?_
                            refine WL.y rfl (Y.move) ?_
                            refine WL.y rfl (Y.idxN (p) Tryd.underlying9 rfl rfl (by omega) (by omega) _) ?_
                            refine WL.y rfl (Y.dF (Y.nei rfl rfl) (by omega)) ?_
                            refine WL.nil ?_
                            refine WC.condF (rfl) ?_
                            refine WC.skip (thenQ.normal ?_)
                            refine WC.seqR rfl ?_
                            refine WL.y rfl (Y.move) ?_
                            refine WL.y rfl (Y.move) ?_
                            refine WL.call rfl (C.func go34) (hex_some _ s p (by omega) (by omega) hn) ?_
                            rintro _ _ ⟨rfl, rfl⟩
                            refine WL.y rfl (Y.assign) ?_
                            refine WL.nil ?_
                            refine WC.seq ?_
                            refine WC.seqR rfl ?_
                            refine WL.y rfl (Y.move) ?_
                            refine WL.y rfl (Y.dT (Y.geq rfl rfl) (by omega)) ?_
                            refine WL.y rfl (Y.move) ?_
                            refine WL.y rfl (Y.move) ?_
                            refine WL.y rfl (Y.dT (Y.lss rfl rfl) (by omega)) ?_
                            refine WL.y rfl (Y.pickT rfl) ?_
                            refine WL.nil ?_
                            refine WC.condT (rfl) ?_
                            refine WC.seqR rfl ?_
                            refine WL.y rfl (Y.move) ?_
                            refine WL.y rfl (Y.move) ?_
                            refine WL.y rfl (Y.add64 rfl rfl (by omega)) ?_
                            refine WL.call rfl (C.func go34) (hex_none _ s (p + 6) (by omega) (by omega) hm) ?_
                            rintro _ _ ⟨rfl, rfl⟩
                            refine WL.y rfl (Y.assign) ?_
                            refine WL.nil ?_
                            refine WC.seq ?_
                            refine WC.seqR rfl ?_
                            refine WL.y rfl (Y.move) ?_
                            refine WL.y rfl (Y.dF (Y.geq rfl rfl) (by omega)) ?_
                            refine WL.y rfl (Y.move) ?_
                            refine WL.y rfl (Y.move) ?_
                            refine WL.y rfl (Y.dT (Y.lss rfl rfl) (by omega)) ?_
                            refine WL.y rfl (Y.pickF rfl) ?_
                            refine WL.y rfl (Y.move) ?_
                            refine WL.off rfl ?_
                            refine WL.off rfl ?_
                            refine WL.y rfl (Y.pickT rfl) ?_
                            refine WL.nil ?_
                            refine WC.condT (rfl) ?_
                            refine WC.seqR rfl ?_
                            refine WL.y rfl (Y.move) ?_
                            refine WL.y rfl (Y.assign) ?_
                            refine WL.y rfl (Y.assign) ?_
                            refine WL.y rfl (Y.assign) ?_
                            refine WL.nil ?_
                            refine WC.ret (thenQ.ret (thenQ.ret (inBlockQ.ret (thenQ.ret (inBlockQ.ret (thenQ.ret (endQ.three (.inr rfl) ?_)))))))
                            exact ⟨hend (c := 3) hr (by omega) rfl, hb1⟩
                          | some m =>
                            rw [hm] at hes2
                            have hm6 := hexL_lt hm
                            by_cases hC : 56320 ≤ m
                            · by_cases hD : m < 57344
                              · have hok : okR (65536 + 1024 * (n - 55296) + (m - 56320)) := by unfold okR; omega
                                have hq := hgo (hsg (hes2.trans (if_pos ⟨hC, hD⟩)))
                                have hl4 := enc_len (65536 + 1024 * (n - 55296) + (m - 56320))
                                refine WC.seq ?_
                                refine WC.seqR rfl ?_
                                refine WL.y rfl (Y.move) ?_
                                refine WL.y rfl (Y.move) ?_
                                refine WL.y rfl (Y.lenS Tryd.underlying9 rfl _) ?_
                                refine WL.y rfl (Y.dT (Y.lss rfl rfl) (by omega)) ?_
                                refine WL.y rfl (Y.move) ?_
                                refine WL.y rfl (Y.move) ?_
                                refine WL.y rfl (Y.move) ?_
                                refine WL.y rfl (Y.idxN (p) Tryd.underlying9 rfl rfl (by omega) (by omega) _) ?_
                                refine WL.y rfl (Y.dT (Y.nei rfl rfl) (by omega)) ?_
                                refine WL.y rfl (Y.pickT rfl) ?_
                                refine WL.nil ?_
                                refine WC.condT (rfl) ?_
                                refine WC.skip (thenQ.normal ?_)
                                refine WC.block ?_
                                refine WC.seq ?_
                                refine WC.seqR rfl ?_
                                refine WL.y rfl (Y.move) ?_
                                refine WL.y rfl (Y.move) ?_
                                refine WL.y rfl (Y.idxN (p) Tryd.underlying9 rfl rfl (by omega) (by omega) _) ?_
                                refine WL.y rfl (Y.dF (Y.lss rfl rfl) (by omega)) ?_
                                refine WL.nil ?_
                                refine WC.condF (rfl) ?_
                                refine WC.skip (thenQ.normal ?_)
                                refine WC.seq ?_
                                refine WC.seqR rfl ?_
                                refine WL.y rfl (Y.move) ?_
                                refine WL.y rfl (Y.move) ?_
                                refine WL.y rfl (Y.idxN (p) Tryd.underlying9 rfl rfl (by omega) (by omega) _) ?_
                                refine WL.y rfl (Y.dF (Y.nei rfl rfl) (by omega)) ?_
                                refine WL.nil ?_
                                refine WC.condF (rfl) ?_
                                refine WC.skip (thenQ.normal ?_)
                                refine WC.seqR rfl ?_
                                refine WL.y rfl (Y.move) ?_
                                refine WL.y rfl (Y.move) ?_
                                refine WL.call rfl (C.func go34) (hex_some _ s p (by omega) (by omega) hn) ?_
                                rintro _ _ ⟨rfl, rfl⟩
                                refine WL.y rfl (Y.assign) ?_
                                refine WL.nil ?_
                                refine WC.seq ?_
                                refine WC.seqR rfl ?_
                                refine WL.y rfl (Y.move) ?_
                                refine WL.y rfl (Y.dT (Y.geq rfl rfl) (by omega)) ?_
                                refine WL.y rfl (Y.move) ?_
                                refine WL.y rfl (Y.move) ?_
                                refine WL.y rfl (Y.dT (Y.lss rfl rfl) (by omega)) ?_
                                refine WL.y rfl (Y.pickT rfl) ?_
                                refine WL.nil ?_
                                refine WC.condT (rfl) ?_
                                refine WC.seqR rfl ?_
                                refine WL.y rfl (Y.move) ?_
                                refine WL.y rfl (Y.move) ?_
                                refine WL.y rfl (Y.add64 rfl rfl (by omega)) ?_
                                refine WL.call rfl (C.func go34) (hex_some _ s (p + 6) (by omega) (by omega) hm) ?_
                                rintro _ _ ⟨rfl, rfl⟩
                                refine WL.y rfl (Y.assign) ?_
                                refine WL.nil ?_
                                refine WC.seq ?_
                                refine WC.seqR rfl ?_
                                refine WL.y rfl (Y.move) ?_
                                refine WL.y rfl (Y.dF (Y.geq rfl rfl) (by omega)) ?_
                                refine WL.y rfl (Y.move) ?_
                                refine WL.y rfl (Y.move) ?_
                                refine WL.y rfl (Y.dF (Y.lss rfl rfl) (by omega)) ?_
                                refine WL.y rfl (Y.pickF rfl) ?_
                                refine WL.y rfl (Y.move) ?_
                                refine WL.y rfl (Y.move) ?_
                                refine WL.y rfl (Y.dF (Y.geq rfl rfl) (by omega)) ?_
                                refine WL.y rfl (Y.pickF rfl) ?_
                                refine WL.nil ?_
                                refine WC.condF (rfl) ?_
                                refine WC.skip (thenQ.normal ?_)
                                refine WC.seqR rfl ?_
                                refine WL.y rfl (Y.move) ?_
                                refine WL.y rfl (Y.move) ?_
                                refine WL.y rfl (Y.sub64 rfl rfl (by omega)) ?_
                                refine WL.y rfl (Y.mul64 rfl rfl (by omega)) ?_
                                refine WL.y rfl (Y.add64 rfl rfl (by omega)) ?_
                                refine WL.y rfl (Y.move) ?_
                                refine WL.y rfl (Y.add64 rfl rfl (by omega)) ?_
                                refine WL.y rfl (Y.sub64 rfl rfl (by omega)) ?_
                                refine WL.call rfl (C.func go17) (bytes_eq _ (65536 + 1024 * (n - 55296) + (m - 56320)) (65536 + 1024 * ((n : Int) - 55296) + (m : Int) - 56320) hok (by omega)) ?_
                                rintro _ w102 ⟨rfl, hb102⟩
                                refine WL.y rfl (Y.catS rfl rfl (by omega)) ?_
                                refine WL.y rfl (Y.assign) ?_
                                refine WL.nil ?_
                                refine WC.seqR rfl ?_
                                refine WL.y rfl (Y.move) ?_
                                refine WL.y rfl (Y.add64 rfl rfl (by omega)) ?_
                                refine WL.y rfl (Y.assign) ?_
                                refine WL.nil ?_
                                refine WC.exit (thenQ.exit (inBlockQ.hit (thenQ.normal ?_)))
                                exact ⟨p + 12, by omega, by omega, hq.2.2.1, rfl, Below.step hb1 hb102, _, _, hq.1, hq.2.2.2, ov_mk ⟨rfl, rfl, rfl, rfl, trivial⟩⟩
                              · have hr := hbad (hsb (c := 3) (by decide) (hes2.trans (if_neg (by omega))))
                                refine WC.seq ?_
                                refine WC.seqR rfl ?_
                                refine WL.y rfl (Y.move) ?_
                                refine WL.y rfl (Y.move) ?_
                                refine WL.y rfl (Y.lenS Tryd.underlying9 rfl _) ?_
                                refine WL.y rfl (Y.dT (Y.lss rfl rfl) (by omega)) ?_
                                refine WL.y rfl (Y.move) ?_
                                refine WL.y rfl (Y.move) ?_
                                refine WL.y rfl (Y.move) ?_
                                refine WL.y rfl (Y.idxN (p) Tryd.underlying9 rfl rfl (by omega) (by omega) _) ?_
                                refine WL.y rfl (Y.dT (Y.nei rfl rfl) (by omega)) ?_
                                refine WL.y rfl (Y.pickT rfl) ?_
                                refine WL.nil ?_
                                refine WC.condT (rfl) ?_
                                refine WC.skip (thenQ.normal ?_)
                                refine WC.block ?_
                                refine WC.seq ?_
                                refine WC.seqR rfl ?_
                                refine WL.y rfl (Y.move) ?_
                                refine WL.y rfl (Y.move) ?_
                                refine WL.y rfl (Y.idxN (p) Tryd.underlying9 rfl rfl (by omega) (by omega) _) ?_
                                refine WL.y rfl (Y.dF (Y.lss rfl rfl) (by omega)) ?_
                                refine WL.nil ?_
                                refine WC.condF (rfl) ?_
                                refine WC.skip (thenQ.normal ?_)
                                refine WC.seq ?_
                                refine WC.seqR rfl ?_
                                refine WL.y rfl (Y.move) ?_
                                refine WL.y rfl (Y.move) ?_
                                refine WL.y rfl (Y.idxN (p) Tryd.underlying9 rfl rfl (by omega) (by omega) _) ?_
                                refine WL.y rfl (Y.dF (Y.nei rfl rfl) (by omega)) ?_
                                refine WL.nil ?_
                                refine WC.condF (rfl) ?_
                                refine WC.skip (thenQ.normal ?_)
                                refine WC.seqR rfl ?_
                                refine WL.y rfl (Y.move) ?_
                                refine WL.y rfl (Y.move) ?_
                                refine WL.call rfl (C.func go34) (hex_some _ s p (by omega) (by omega) hn) ?_
                                rintro _ _ ⟨rfl, rfl⟩
                                refine WL.y rfl (Y.assign) ?_
                                refine WL.nil ?_
                                refine WC.seq ?_
                                refine WC.seqR rfl ?_
                                refine WL.y rfl (Y.move) ?_
                                refine WL.y rfl (Y.dT (Y.geq rfl rfl) (by omega)) ?_
                                refine WL.y rfl (Y.move) ?_
                                refine WL.y rfl (Y.move) ?_
                                refine WL.y rfl (Y.dT (Y.lss rfl rfl) (by omega)) ?_
                                refine WL.y rfl (Y.pickT rfl) ?_
                                refine WL.nil ?_
                                refine WC.condT (rfl) ?_
                                refine WC.seqR rfl ?_
                                refine WL.y rfl (Y.move) ?_
                                refine WL.y rfl (Y.move) ?_
                                refine WL.y rfl (Y.add64 rfl rfl (by omega)) ?_
                                refine WL.call rfl (C.func go34) (hex_some _ s (p + 6) (by omega) (by omega) hm) ?_
                                rintro _ _ ⟨rfl, rfl⟩
                                refine WL.y rfl (Y.assign) ?_
                                refine WL.nil ?_
                                refine WC.seq ?_
                                refine WC.seqR rfl ?_
                                refine WL.y rfl (Y.move) ?_
                                refine WL.y rfl (Y.dF (Y.geq rfl rfl) (by omega)) ?_
                                refine WL.y rfl (Y.move) ?_
                                refine WL.y rfl (Y.move) ?_
                                refine WL.y rfl (Y.dF (Y.lss rfl rfl) (by omega)) ?_
                                refine WL.y rfl (Y.pickF rfl) ?_
                                refine WL.y rfl (Y.move) ?_
                                refine WL.y rfl (Y.move) ?_
                                refine WL.y rfl (Y.dT (Y.geq rfl rfl) (by omega)) ?_
                                refine WL.y rfl (Y.pickF rfl) ?_
                                refine WL.nil ?_
                                refine WC.condT (rfl) ?_
                                refine WC.seqR rfl ?_
                                refine WL.y rfl (Y.move) ?_
                                refine WL.y rfl (Y.assign) ?_
                                refine WL.y rfl (Y.assign) ?_
                                refine WL.y rfl (Y.assign) ?_
                                refine WL.nil ?_
                                refine WC.ret (thenQ.ret (thenQ.ret (inBlockQ.ret (thenQ.ret (inBlockQ.ret (thenQ.ret (endQ.three (.inr rfl) ?_)))))))
                                exact ⟨hend (c := 3) hr (by omega) rfl, hb1⟩
                            · have hr := hbad (hsb (c := 3) (by decide) (hes2.trans (if_neg (by omega))))
                              refine WC.seq ?_
                              refine WC.seqR rfl ?_
                              refine WL.y rfl (Y.move) ?_
                              refine WL.y rfl (Y.move) ?_
                              refine WL.y rfl (Y.lenS Tryd.underlying9 rfl _) ?_
                              refine WL.y rfl (Y.dT (Y.lss rfl rfl) (by omega)) ?_
                              refine WL.y rfl (Y.move) ?_
                              refine WL.y rfl (Y.move) ?_
                              refine WL.y rfl (Y.move) ?_
                              refine WL.y rfl (Y.idxN (p) Tryd.underlying9 rfl rfl (by omega) (by omega) _) ?_
                              refine WL.y rfl (Y.dT (Y.nei rfl rfl) (by omega)) ?_
                              refine WL.y rfl (Y.pickT rfl) ?_
                              refine WL.nil ?_
                              refine WC.condT (rfl) ?_
                              refine WC.skip (thenQ.normal ?_)
                              refine WC.block ?_
                              refine WC.seq ?_
                              refine WC.seqR rfl ?_
                              refine WL.y rfl (Y.move) ?_
                              refine WL.y rfl (Y.move) ?_
                              refine WL.y rfl (Y.idxN (p) Tryd.underlying9 rfl rfl (by omega) (by omega) _) ?_
                              refine WL.y rfl (Y.dF (Y.lss rfl rfl) (by omega)) ?_
                              refine WL.nil ?_
                              refine WC.condF (rfl) ?_
                              refine WC.skip (thenQ.normal ?_)
                              refine WC.seq ?_
                              refine WC.seqR rfl ?_
                              refine WL.y rfl (Y.move) ?_
                              refine WL.y rfl (Y.move) ?_
                              refine WL.y rfl (Y.idxN (p) Tryd.underlying9 rfl rfl (by omega) (by omega) _) ?_
                              refine WL.y rfl (Y.dF (Y.nei rfl rfl) (by omega)) ?_
                              refine WL.nil ?_
                              refine WC.condF (rfl) ?_
                              refine WC.skip (thenQ.normal ?_)
                              refine WC.seqR rfl ?_
                              refine WL.y rfl (Y.move) ?_
                              refine WL.y rfl (Y.move) ?_
                              refine WL.call rfl (C.func go34) (hex_some _ s p (by omega) (by omega) hn) ?_
                              rintro _ _ ⟨rfl, rfl⟩
                              refine WL.y rfl (Y.assign) ?_
                              refine WL.nil ?_
                              refine WC.seq ?_
                              refine WC.seqR rfl ?_
                              refine WL.y rfl (Y.move) ?_
                              refine WL.y rfl (Y.dT (Y.geq rfl rfl) (by omega)) ?_
                              refine WL.y rfl (Y.move) ?_
                              refine WL.y rfl (Y.move) ?_
                              refine WL.y rfl (Y.dT (Y.lss rfl rfl) (by omega)) ?_
                              refine WL.y rfl (Y.pickT rfl) ?_
                              refine WL.nil ?_
                              refine WC.condT (rfl) ?_
                              refine WC.seqR rfl ?_
                              refine WL.y rfl (Y.move) ?_
                              refine WL.y rfl (Y.move) ?_
                              refine WL.y rfl (Y.add64 rfl rfl (by omega)) ?_
                              refine WL.call rfl (C.func go34) (hex_some _ s (p + 6) (by omega) (by omega) hm) ?_
                              rintro _ _ ⟨rfl, rfl⟩
                              refine WL.y rfl (Y.assign) ?_
                              refine WL.nil ?_
                              refine WC.seq ?_
                              refine WC.seqR rfl ?_
                              refine WL.y rfl (Y.move) ?_
                              refine WL.y rfl (Y.dF (Y.geq rfl rfl) (by omega)) ?_
                              refine WL.y rfl (Y.move) ?_
                              refine WL.y rfl (Y.move) ?_
                              refine WL.y rfl (Y.dT (Y.lss rfl rfl) (by omega)) ?_
                              refine WL.y rfl (Y.pickF rfl) ?_
                              refine WL.y rfl (Y.move) ?_
                              refine WL.off rfl ?_
                              refine WL.off rfl ?_
                              refine WL.y rfl (Y.pickT rfl) ?_
                              refine WL.nil ?_
                              refine WC.condT (rfl) ?_
                              refine WC.seqR rfl ?_
                              refine WL.y rfl (Y.move) ?_
                              refine WL.y rfl (Y.assign) ?_
                              refine WL.y rfl (Y.assign) ?_
                              refine WL.y rfl (Y.assign) ?_
                              refine WL.nil ?_
                              refine WC.ret (thenQ.ret (thenQ.ret (inBlockQ.ret (thenQ.ret (inBlockQ.ret (thenQ.ret (endQ.three (.inr rfl) ?_)))))))
                              exact ⟨hend (c := 3) hr (by omega) rfl, hb1⟩
                      · have hok : okR n := by unfold okR; omega
                        have hq := hgo (hsg (hes.trans (by unfold pairS; rw [if_pos (by omega)])))
                        have hl4 := enc_len n
                        by_cases hB : 55296 ≤ n
                        · skip
                          refine WC.seq ?_
                          refine WC.seqR rfl ?_
                          refine WL.y rfl (Y.move) ?_
                          refine WL.y rfl (Y.move) ?_
                          refine WL.y rfl (Y.lenS Tryd.underlying9 rfl _) ?_
                          refine WL.y rfl (Y.dT (Y.lss rfl rfl) (by omega)) ?_
                          refine WL.y rfl (Y.move) ?_
                          refine WL.y rfl (Y.move) ?_
                          refine WL.y rfl (Y.move) ?_
                          refine WL.y rfl (Y.idxN (p) Tryd.underlying9 rfl rfl (by omega) (by omega) _) ?_
                          refine WL.y rfl (Y.dT (Y.nei rfl rfl) (by omega)) ?_
                          refine WL.y rfl (Y.pickT rfl) ?_
                          refine WL.nil ?_
                          refine WC.condT (rfl) ?_
                          refine WC.skip (thenQ.normal ?_)
                          refine WC.block ?_
                          refine WC.seq ?_
                          refine WC.seqR rfl ?_
                          refine WL.y rfl (Y.move) ?_
                          refine WL.y rfl (Y.move) ?_
                          refine WL.y rfl (Y.idxN (p) Tryd.underlying9 rfl rfl (by omega) (by omega) _) ?_
                          refine WL.y rfl (Y.dF (Y.lss rfl rfl) (by omega)) ?_
                          refine WL.nil ?_
                          refine WC.condF (rfl) ?_
                          refine WC.skip (thenQ.normal ?_)
                          refine WC.seq ?_
                          refine WC.seqR rfl ?_
                          refine WL.y rfl (Y.move) ?_
                          refine WL.y rfl (Y.move) ?_
                          refine WL.y rfl (Y.idxN (p) Tryd.underlying9 rfl rfl (by omega) (by omega) _) ?_
                          refine WL.y rfl (Y.dF (Y.nei rfl rfl) (by omega)) ?_
                          refine WL.nil ?_
                          refine WC.condF (rfl) ?_
                          refine WC.skip (thenQ.normal ?_)
                          refine WC.seqR rfl ?_
                          refine WL.y rfl (Y.move) ?_
                          refine WL.y rfl (Y.move) ?_
                          refine WL.call rfl (C.func go34) (hex_some _ s p (by omega) (by omega) hn) ?_
                          rintro _ _ ⟨rfl, rfl⟩
                          refine WL.y rfl (Y.assign) ?_
                          refine WL.nil ?_
                          refine WC.seq ?_
                          refine WC.seqR rfl ?_
                          refine WL.y rfl (Y.move) ?_
                          refine WL.y rfl (Y.dT (Y.geq rfl rfl) (by omega)) ?_
                          refine WL.y rfl (Y.move) ?_
                          refine WL.y rfl (Y.move) ?_
                          refine WL.y rfl (Y.dF (Y.lss rfl rfl) (by omega)) ?_
                          refine WL.y rfl (Y.pickT rfl) ?_
                          refine WL.nil ?_
                          refine WC.condF (rfl) ?_
                          refine WC.skip (thenQ.normal ?_)
                          refine WC.seq ?_
                          refine WC.seqR rfl ?_
                          refine WL.y rfl (Y.move) ?_
                          refine WL.y rfl (Y.dT (Y.geq rfl rfl) (by omega)) ?_
                          refine WL.nil ?_
                          refine WC.condT (rfl) ?_
                          refine WC.seqR rfl ?_
                          refine WL.y rfl (Y.move) ?_
                          refine WL.y rfl (Y.move) ?_
                          refine WL.call rfl (C.func go17) (bytes_ret _ n hok) ?_
                          rintro _ w110 ⟨rfl, hb110⟩
                          refine WL.y rfl (Y.catS rfl rfl (by omega)) ?_
                          refine WL.y rfl (Y.assign) ?_
                          refine WL.nil ?_
                          refine WC.seqR rfl ?_
                          refine WL.y rfl (Y.move) ?_
                          refine WL.y rfl (Y.add64 rfl rfl (by omega)) ?_
                          refine WL.y rfl (Y.assign) ?_
                          refine WL.nil ?_
                          refine WC.exit (thenQ.exit (inBlockQ.hit (thenQ.normal ?_)))
                          exact ⟨p + 6, by omega, by omega, hq.2.2.1, rfl, Below.step hb1 hb110, _, _, hq.1, hq.2.2.2, ov_mk ⟨rfl, rfl, rfl, rfl, trivial⟩⟩
                        · skip
                          refine WC.seq ?_
                          refine WC.seqR rfl ?_
                          refine WL.y rfl (Y.move) ?_
                          refine WL.y rfl (Y.move) ?_
                          refine WL.y rfl (Y.lenS Tryd.underlying9 rfl _) ?_
                          refine WL.y rfl (Y.dT (Y.lss rfl rfl) (by omega)) ?_
                          refine WL.y rfl (Y.move) ?_
                          refine WL.y rfl (Y.move) ?_
                          refine WL.y rfl (Y.move) ?_
                          refine WL.y rfl (Y.idxN (p) Tryd.underlying9 rfl rfl (by omega) (by omega) _) ?_
                          refine WL.y rfl (Y.dT (Y.nei rfl rfl) (by omega)) ?_
                          refine WL.y rfl (Y.pickT rfl) ?_
                          refine WL.nil ?_
                          refine WC.condT (rfl) ?_
                          refine WC.skip (thenQ.normal ?_)
                          refine WC.block ?_
                          refine WC.seq ?_
                          refine WC.seqR rfl ?_
                          refine WL.y rfl (Y.move) ?_
                          refine WL.y rfl (Y.move) ?_
                          refine WL.y rfl (Y.idxN (p) Tryd.underlying9 rfl rfl (by omega) (by omega) _) ?_
                          refine WL.y rfl (Y.dF (Y.lss rfl rfl) (by omega)) ?_
                          refine WL.nil ?_
                          refine WC.condF (rfl) ?_
                          refine WC.skip (thenQ.normal ?_)
                          refine WC.seq ?_
                          refine WC.seqR rfl ?_
                          refine WL.y rfl (Y.move) ?_
                          refine WL.y rfl (Y.move) ?_
                          refine WL.y rfl (Y.idxN (p) Tryd.underlying9 rfl rfl (by omega) (by omega) _) ?_
                          refine WL.y rfl (Y.dF (Y.nei rfl rfl) (by omega)) ?_
                          refine WL.nil ?_
                          refine WC.condF (rfl) ?_
                          refine WC.skip (thenQ.normal ?_)
                          refine WC.seqR rfl ?_
                          refine WL.y rfl (Y.move) ?_
                          refine WL.y rfl (Y.move) ?_
                          refine WL.call rfl (C.func go34) (hex_some _ s p (by omega) (by omega) hn) ?_
                          rintro _ _ ⟨rfl, rfl⟩
                          refine WL.y rfl (Y.assign) ?_
                          refine WL.nil ?_
                          refine WC.seq ?_
                          refine WC.seqR rfl ?_
                          refine WL.y rfl (Y.move) ?_
                          refine WL.y rfl (Y.dF (Y.geq rfl rfl) (by omega)) ?_
                          refine WL.y rfl (Y.move) ?_
                          refine WL.off rfl ?_
                          refine WL.off rfl ?_
                          refine WL.y rfl (Y.pickF rfl) ?_
                          refine WL.nil ?_
                          refine WC.condF (rfl) ?_
                          refine WC.skip (thenQ.normal ?_)
                          refine WC.seq ?_
                          refine WC.seqR rfl ?_
                          refine WL.y rfl (Y.move) ?_
                          refine WL.y rfl (Y.dT (Y.geq rfl rfl) (by omega)) ?_
                          refine WL.nil ?_
                          refine WC.condT (rfl) ?_
                          refine WC.seqR rfl ?_
                          refine WL.y rfl (Y.move) ?_
                          refine WL.y rfl (Y.move) ?_
                          refine WL.call rfl (C.func go17) (bytes_ret _ n hok) ?_
                          rintro _ w110 ⟨rfl, hb110⟩
                          refine WL.y rfl (Y.catS rfl rfl (by omega)) ?_
                          refine WL.y rfl (Y.assign) ?_
                          refine WL.nil ?_
                          refine WC.seqR rfl ?_
                          refine WL.y rfl (Y.move) ?_
                          refine WL.y rfl (Y.add64 rfl rfl (by omega)) ?_
                          refine WL.y rfl (Y.assign) ?_
                          refine WL.nil ?_
                          refine WC.exit (thenQ.exit (inBlockQ.hit (thenQ.normal ?_)))
                          exact ⟨p + 6, by omega, by omega, hq.2.2.1, rfl, Below.step hb1 hb110, _, _, hq.1, hq.2.2.2, ov_mk ⟨rfl, rfl, rfl, rfl, trivial⟩⟩
                    | none =>
                      have hes : escS (s.drop p) = (if 2 ≤ (s.drop p).length then match runOf (bt (s.drop p) 1) with | some r => (r, 2, 0) | none => (0, 0, 4) else (0, 0, 4)) := by unfold escS; rw [hn]; cases runOf (bt (s.drop p) 1) <;> rfl
                      have hb1p : bt (s.drop p) 1 = (s.getD (p + 1) 0).toNat := bt_drop s p 1
                      refine WC.seq ?_
                      refine WC.seqR rfl ?_
                      refine WL.y rfl (Y.move) ?_
                      refine WL.y rfl (Y.move) ?_
                      refine WL.y rfl (Y.lenS Tryd.underlying9 rfl _) ?_
                      refine WL.y rfl (Y.dT (Y.lss rfl rfl) (by omega)) ?_
                      refine WL.y rfl (Y.move) ?_
                      refine WL.y rfl (Y.move) ?_
                      refine WL.y rfl (Y.move) ?_
                      refine WL.y rfl (Y.idxN (p) Tryd.underlying9 rfl rfl (by omega) (by omega) _) ?_
                      refine WL.y rfl (Y.dT (Y.nei rfl rfl) (by omega)) ?_
                      refine WL.y rfl (Y.pickT rfl) ?_
                      refine WL.nil ?_
                      refine WC.condT (rfl) ?_
                      refine WC.skip (thenQ.normal ?_)
                      refine WC.block ?_
                      refine WC.seq ?_
                      refine WC.seqR rfl ?_
                      refine WL.y rfl (Y.move) ?_
                      refine WL.y rfl (Y.move) ?_
                      refine WL.y rfl (Y.idxN (p) Tryd.underlying9 rfl rfl (by omega) (by omega) _) ?_
                      refine WL.y rfl (Y.dF (Y.lss rfl rfl) (by omega)) ?_
                      refine WL.nil ?_
                      refine WC.condF (rfl) ?_
                      refine WC.skip (thenQ.normal ?_)
                      refine WC.seq ?_
                      refine WC.seqR rfl ?_
                      refine WL.y rfl (Y.move) ?_
                      refine WL.y rfl (Y.move) ?_
                      refine WL.y rfl (Y.idxN (p) Tryd.underlying9 rfl rfl (by omega) (by omega) _) ?_
                      refine WL.y rfl (Y.dF (Y.nei rfl rfl) (by omega)) ?_
                      refine WL.nil ?_
                      refine WC.condF (rfl) ?_
                      refine WC.skip (thenQ.normal ?_)
                      refine WC.seqR rfl ?_
                      refine WL.y rfl (Y.move) ?_
                      refine WL.y rfl (Y.move) ?_
                      refine WL.call rfl (C.func go34) (hex_none _ s p (by omega) (by omega) hn) ?_
                      rintro _ _ ⟨rfl, rfl⟩
                      refine WL.y rfl (Y.assign) ?_
                      refine WL.nil ?_
                      refine WC.seq ?_
                      refine WC.seqR rfl ?_
                      refine WL.y rfl (Y.move) ?_
                      refine WL.y rfl (Y.dF (Y.geq rfl rfl) (by omega)) ?_
                      refine WL.y rfl (Y.move) ?_
                      refine WL.off rfl ?_
                      refine WL.off rfl ?_
                      refine WL.y rfl (Y.pickF rfl) ?_
                      refine WL.nil ?_
                      refine WC.condF (rfl) ?_
                      refine WC.skip (thenQ.normal ?_)
                      refine WC.seq ?_
                      refine WC.seqR rfl ?_
                      refine WL.y rfl (Y.move) ?_
                      refine WL.y rfl (Y.dF (Y.geq rfl rfl) (by omega)) ?_
                      refine WL.nil ?_
                      refine WC.condF (rfl) ?_
                      refine WC.skip (thenQ.normal ?_)
                      refine WC.seqR rfl ?_
                      refine WL.y rfl (Y.assign) ?_
                      refine WL.nil ?_
                      refine WC.seq ?_
                      refine WC.block ?_
                      refine WC.loop (fun j => 8 - j) (fun j f ds w' => j ≤ 8 ∧ ds = [] ∧ Below w.heap.size w w' ∧ (∀ i, i < j → p + 1 < s.length → lettersL.getD i 0 ≠ s.getD (p + 1) 0) ∧ ∃ J, f = ov J [(0, strv s), (1, .int .i64 (k : Int)), (7, strv acc), (8, .int .i64 (p : Int)), (13, .int .i64 (j : Int))]) 0 ?_ ?_
                      · exact ⟨by omega, rfl, hb1, fun i h => by omega, _, ov_mk ⟨rfl, rfl, rfl, rfl, rfl, trivial⟩⟩
                      · rintro j _ _ w2 ⟨hj, rfl, hb2, hnot, J2, rfl⟩
                        have hs2 := hb2.size
                        by_cases hj8 : j < 8
                        · by_cases hp1l : p + 1 < s.length
                          · by_cases hlt : lettersL.getD j 0 = s.getD (p + 1) 0
                            · have hrn : runOf (bt (s.drop p) 1) = some (codes.getD j 0) := by rw [hb1p]; exact runOf_at _ j hj8 hlt
                              have hes2 : escS (s.drop p) = (codes.getD j 0, 2, 0) := by rw [hes, if_pos (by omega), hrn]
                              have hq := hgo (hsg hes2)
                              have hok := codes_ok j hj8
                              have hl4 := enc_len (codes.getD j 0)
                              have hee : ((s.getD (p + 1) 0).toNat : Int) = ((lettersL.getD j 0).toNat : Int) := by rw [hlt]
                              refine WC.seq ?_
                              refine WC.seq ?_
                              refine WC.regionB (fun _ => false) [(0, .any), (1, .any), (2, .any), (3, .any), (4, .any), (5, .any), (6, .any), (7, .any), (8, .any), (9, .any), (10, .any), (11, .any), (12, .any), (13, .any), (14, .any), (15, .any), (16, .any), (17, .any)] mixed (by kernel_rfl) (fun w27 hS27 hheap => ?_)
                              refine RL.any rfl rfl (fun _ => Y.move) ?_
                              refine RL.any rfl rfl (fun _ => Y.dT (Y.lss rfl rfl) (by omega)) ?_
                              refine RL.any rfl rfl (fun _ => Y.move) ?_
                              refine RL.any rfl rfl (fun _ => Y.move) ?_
                              refine RL.any rfl rfl (fun _ => Y.add64 rfl rfl (by omega)) ?_
                              refine RL.any rfl rfl (fun _ => Y.move) ?_
                              refine RL.any rfl rfl (fun _ => Y.lenS Tryd.underlying9 rfl _) ?_
                              refine RL.any rfl rfl (fun _ => Y.dF (Y.geq rfl rfl) (by omega)) ?_
                              refine RL.any rfl rfl (fun _ => Y.move) ?_
                              refine RL.any rfl rfl (fun _ => Y.move) ?_
                              refine RL.any rfl rfl (fun _ => Y.move) ?_
                              refine RL.any rfl rfl (fun _ => Y.add64 rfl rfl (by omega)) ?_
                              refine RL.any rfl rfl (fun _ => Y.idxN (p+1) Tryd.underlying9 rfl rfl (by omega) (by omega) _) ?_
                              refine RL.any rfl rfl (fun _ => Y.move) ?_
                              refine RL.any rfl rfl (fun _ => Y.idxN (j) Tryd.underlying9 rfl rfl (by omega) (by simp only [List.length_cons, List.length_nil]; omega) _) ?_
                              refine RL.any rfl rfl (fun _ => Y.dF (Y.nei rfl rfl) (fun h => h hee)) ?_
                              refine RL.any rfl rfl (fun _ => Y.pickF rfl) ?_
                              refine RL.any rfl rfl (fun _ => Y.pickT rfl) ?_
                              refine RL.nil (thenQ.normal ?_)
                              refine WC.condF (rfl) ?_
                              refine WC.exit (thenQ.exit (thenQ.exit (inBlockQ.hit (thenQ.normal ?_))))
                              refine WC.seq ?_
                              refine WC.seqR rfl ?_
                              refine WL.y rfl (Y.move) ?_
                              refine WL.y rfl (Y.dF (Y.eqi rfl rfl) (by omega)) ?_
                              refine WL.nil ?_
                              refine WC.condF (rfl) ?_
                              refine WC.skip (thenQ.normal ?_)
                              refine WC.seqR rfl ?_
                              refine WL.y rfl (Y.move) ?_
                              refine WL.y rfl (Y.move) ?_
                              refine WL.call rfl (C.func go29) (code_ret _ j hj8) ?_
                              rintro _ w139 ⟨rfl, hb139⟩
                              refine WL.call rfl (C.func go17) (bytes_ret _ (codes.getD j 0) hok) ?_
                              rintro _ w140 ⟨rfl, hb140⟩
                              refine WL.y rfl (Y.catS rfl rfl (by omega)) ?_
                              refine WL.y rfl (Y.assign) ?_
                              refine WL.nil ?_
                              refine WC.region rfl ?_
                              refine WL.y rfl (Y.move) ?_
                              refine WL.y rfl (Y.add64 rfl rfl (by omega)) ?_
                              refine WL.y rfl (Y.assign) ?_
                              refine WL.nil (inBlockQ.normal (thenQ.normal ?_))
                              have hbb : Below w.heap.size w w140 := Below.step (Below.step (Below.step hb2 hS27) hb139) hb140
                              exact ⟨p + 2, by omega, by omega, hq.2.2.1, rfl, hbb, _, _, hq.1, hq.2.2.2, ov_mk ⟨rfl, rfl, rfl, rfl, trivial⟩⟩
                            · have hee : ((s.getD (p + 1) 0).toNat : Int) ≠ ((lettersL.getD j 0).toNat : Int) := fun h => hlt (UInt8.toNat_inj.mp (by omega)).symm
                              refine WC.seq ?_
                              refine WC.seq ?_
                              refine WC.regionB (fun _ => false) [(0, .any), (1, .any), (2, .any), (3, .any), (4, .any), (5, .any), (6, .any), (7, .any), (8, .any), (9, .any), (10, .any), (11, .any), (12, .any), (13, .any), (14, .any), (15, .any), (16, .any), (17, .any)] mixed (by kernel_rfl) (fun w27 hS27 hheap => ?_)
                              refine RL.any rfl rfl (fun _ => Y.move) ?_
                              refine RL.any rfl rfl (fun _ => Y.dT (Y.lss rfl rfl) (by omega)) ?_
                              refine RL.any rfl rfl (fun _ => Y.move) ?_
                              refine RL.any rfl rfl (fun _ => Y.move) ?_
                              refine RL.any rfl rfl (fun _ => Y.add64 rfl rfl (by omega)) ?_
                              refine RL.any rfl rfl (fun _ => Y.move) ?_
                              refine RL.any rfl rfl (fun _ => Y.lenS Tryd.underlying9 rfl _) ?_
                              refine RL.any rfl rfl (fun _ => Y.dF (Y.geq rfl rfl) (by omega)) ?_
                              refine RL.any rfl rfl (fun _ => Y.move) ?_
                              refine RL.any rfl rfl (fun _ => Y.move) ?_
                              refine RL.any rfl rfl (fun _ => Y.move) ?_
                              refine RL.any rfl rfl (fun _ => Y.add64 rfl rfl (by omega)) ?_
                              refine RL.any rfl rfl (fun _ => Y.idxN (p+1) Tryd.underlying9 rfl rfl (by omega) (by omega) _) ?_
                              refine RL.any rfl rfl (fun _ => Y.move) ?_
                              refine RL.any rfl rfl (fun _ => Y.idxN (j) Tryd.underlying9 rfl rfl (by omega) (by simp only [List.length_cons, List.length_nil]; omega) _) ?_
                              refine RL.any rfl rfl (fun _ => Y.dT (Y.nei rfl rfl) (hee)) ?_
                              refine RL.any rfl rfl (fun _ => Y.pickF rfl) ?_
                              refine RL.any rfl rfl (fun _ => Y.pickT rfl) ?_
                              refine RL.nil (thenQ.normal ?_)
                              refine WC.condT (rfl) ?_
                              refine WC.skip (thenQ.normal ?_)
                              refine WC.block ?_
                              refine WC.region rfl ?_
                              refine WL.y rfl (Y.move) ?_
                              refine WL.y rfl (Y.add64 rfl rfl (by omega)) ?_
                              refine WL.y rfl (Y.assign) ?_
                              refine WL.nil (inBlockQ.normal (thenQ.normal ?_))
                              refine ⟨j + 1, by omega, by omega, rfl, Below.step hb2 hS27, fun i hi hl => ?_, _, ov_mk ⟨rfl, rfl, rfl, rfl, rfl, trivial⟩⟩
                              by_cases hij : i = j
                              · subst hij; exact hlt
                              · exact hnot i (by omega) hl
                          · skip
                            refine WC.seq ?_
                            refine WC.seq ?_
                            refine WC.regionB (fun _ => false) [(0, .any), (1, .any), (2, .any), (3, .any), (4, .any), (5, .any), (6, .any), (7, .any), (8, .any), (9, .any), (10, .any), (11, .any), (12, .any), (13, .any), (14, .any), (15, .any), (16, .any), (17, .any)] mixed (by kernel_rfl) (fun w27 hS27 hheap => ?_)
                            refine RL.any rfl rfl (fun _ => Y.move) ?_
                            refine RL.any rfl rfl (fun _ => Y.dT (Y.lss rfl rfl) (by omega)) ?_
                            refine RL.any rfl rfl (fun _ => Y.move) ?_
                            refine RL.any rfl rfl (fun _ => Y.move) ?_
                            refine RL.any rfl rfl (fun _ => Y.add64 rfl rfl (by omega)) ?_
                            refine RL.any rfl rfl (fun _ => Y.move) ?_
                            refine RL.any rfl rfl (fun _ => Y.lenS Tryd.underlying9 rfl _) ?_
                            refine RL.any rfl rfl (fun _ => Y.dT (Y.geq rfl rfl) (by omega)) ?_
                            refine RL.any rfl rfl (fun _ => Y.move) ?_
                            refine RL.off rfl rfl ?_
                            refine RL.off rfl rfl ?_
                            refine RL.off rfl rfl ?_
                            refine RL.off rfl rfl ?_
                            refine RL.off rfl rfl ?_
                            refine RL.off rfl rfl ?_
                            refine RL.off rfl rfl ?_
                            refine RL.any rfl rfl (fun _ => Y.pickT rfl) ?_
                            refine RL.any rfl rfl (fun _ => Y.pickT rfl) ?_
                            refine RL.nil (thenQ.normal ?_)
                            refine WC.condT (rfl) ?_
                            refine WC.skip (thenQ.normal ?_)
                            refine WC.block ?_
                            refine WC.region rfl ?_
                            refine WL.y rfl (Y.move) ?_
                            refine WL.y rfl (Y.add64 rfl rfl (by omega)) ?_
                            refine WL.y rfl (Y.assign) ?_
                            refine WL.nil (inBlockQ.normal (thenQ.normal ?_))
                            exact ⟨j + 1, by omega, by omega, rfl, Below.step hb2 hS27, fun i hi hl => absurd hl hp1l, _, ov_mk ⟨rfl, rfl, rfl, rfl, rfl, trivial⟩⟩
                        · have hj8' : j = 8 := by omega
                          have hes2 : escS (s.drop p) = (0, 0, 4) := by
                            rw [hes]
                            by_cases hl2 : 2 ≤ (s.drop p).length
                            · rw [if_pos hl2, hb1p, runOf_none _ (fun i hi => hnot i (by omega) (by omega))]
                            · rw [if_neg hl2]
                          have hr := hbad (hsb (c := 4) (by decide) hes2)
                          skip
                          refine WC.seq ?_
                          refine WC.seq ?_
                          refine WC.regionB (fun _ => false) [(0, .any), (1, .any), (2, .any), (3, .any), (4, .any), (5, .any), (6, .any), (7, .any), (8, .any), (9, .any), (10, .any), (11, .any), (12, .any), (13, .any), (14, .any), (15, .any), (16, .any), (17, .any)] mixed (by kernel_rfl) (fun w27 hS27 hheap => ?_)
                          refine RL.any rfl rfl (fun _ => Y.move) ?_
                          refine RL.any rfl rfl (fun _ => Y.dF (Y.lss rfl rfl) (by omega)) ?_
                          refine RL.any rfl rfl (fun _ => Y.move) ?_
                          refine RL.off rfl rfl ?_
                          refine RL.off rfl rfl ?_
                          refine RL.off rfl rfl ?_
                          refine RL.off rfl rfl ?_
                          refine RL.off rfl rfl ?_
                          refine RL.off rfl rfl ?_
                          refine RL.off rfl rfl ?_
                          refine RL.off rfl rfl ?_
                          refine RL.off rfl rfl ?_
                          refine RL.off rfl rfl ?_
                          refine RL.off rfl rfl ?_
                          refine RL.off rfl rfl ?_
                          refine RL.off rfl rfl ?_
                          refine RL.off rfl rfl ?_
                          refine RL.any rfl rfl (fun _ => Y.pickF rfl) ?_
                          refine RL.nil (thenQ.normal ?_)
                          refine WC.condF (rfl) ?_
                          refine WC.exit (thenQ.exit (thenQ.exit (inBlockQ.hit (thenQ.normal ?_))))
                          refine WC.seq ?_
                          refine WC.seqR rfl ?_
                          refine WL.y rfl (Y.move) ?_
                          refine WL.y rfl (Y.dT (Y.eqi rfl rfl) (by omega)) ?_
                          refine WL.nil ?_
                          refine WC.condT (rfl) ?_
                          refine WC.seqR rfl ?_
                          refine WL.y rfl (Y.move) ?_
                          refine WL.y rfl (Y.assign) ?_
                          refine WL.y rfl (Y.assign) ?_
                          refine WL.y rfl (Y.assign) ?_
                          refine WL.nil ?_
                          refine WC.ret (thenQ.ret (inBlockQ.ret (thenQ.ret (inBlockQ.ret (thenQ.ret (endQ.three (.inr rfl) ?_))))))
                          exact ⟨hend (c := 4) hr (by omega) rfl, Below.step hb2 hS27⟩
                  · skip
                    have hqa : ∃ r n, atL (s.drop p) = (r, n) := ⟨_, _, rfl⟩
                    obtain ⟨r, n, hqa⟩ := hqa
                    have hsh := atL_shape (s.drop p)
                    rw [hqa] at hsh
                    simp only at hsh
                    have hst : stepU (s.drop p) = if n = 0 then .bad 3 else .go ((s.drop p).take n) n := by unfold stepU; rw [if_neg hne2, if_neg h5, if_neg h7, if_neg h6, hqa]
                    refine WC.seq ?_
                    refine WC.seqR rfl ?_
                    refine WL.y rfl (Y.move) ?_
                    refine WL.y rfl (Y.move) ?_
                    refine WL.y rfl (Y.lenS Tryd.underlying9 rfl _) ?_
                    refine WL.y rfl (Y.dT (Y.lss rfl rfl) (by omega)) ?_
                    refine WL.y rfl (Y.move) ?_
                    refine WL.y rfl (Y.move) ?_
                    refine WL.y rfl (Y.move) ?_
                    refine WL.y rfl (Y.idxN (p) Tryd.underlying9 rfl rfl (by omega) (by omega) _) ?_
                    refine WL.y rfl (Y.dT (Y.nei rfl rfl) (by omega)) ?_
                    refine WL.y rfl (Y.pickT rfl) ?_
                    refine WL.nil ?_
                    refine WC.condT (rfl) ?_
                    refine WC.skip (thenQ.normal ?_)
                    refine WC.block ?_
                    refine WC.seq ?_
                    refine WC.seqR rfl ?_
                    refine WL.y rfl (Y.move) ?_
                    refine WL.y rfl (Y.move) ?_
                    refine WL.y rfl (Y.idxN (p) Tryd.underlying9 rfl rfl (by omega) (by omega) _) ?_
                    refine WL.y rfl (Y.dF (Y.lss rfl rfl) (by omega)) ?_
                    refine WL.nil ?_
                    refine WC.condF (rfl) ?_
                    refine WC.skip (thenQ.normal ?_)
                    refine WC.seq ?_
                    refine WC.seqR rfl ?_
                    refine WL.y rfl (Y.move) ?_
                    refine WL.y rfl (Y.move) ?_
                    refine WL.y rfl (Y.idxN (p) Tryd.underlying9 rfl rfl (by omega) (by omega) _) ?_
                    refine WL.y rfl (Y.dT (Y.nei rfl rfl) (by omega)) ?_
                    refine WL.nil ?_
                    refine WC.condT (rfl) ?_
                    refine WC.seqR rfl ?_
                    refine WL.y rfl (Y.move) ?_
                    refine WL.y rfl (Y.move) ?_
                    refine WL.call rfl (C.func go22) (at_eq _ s p (by omega) (by omega) hqa) ?_
                    rintro _ _ ⟨rfl, rfl⟩
                    refine WL.y rfl (Y.move) ?_
                    refine WL.y rfl (Y.extract rfl rfl) ?_
                    refine WL.y rfl (Y.extract rfl rfl) ?_
                    refine WL.y rfl (Y.assign) ?_
                    refine WL.y rfl (Y.assign) ?_
                    refine WL.nil ?_
                    refine WC.seq ?_
                    refine WC.seqR rfl ?_
                    refine WL.y rfl (Y.move) ?_
                    refine WL.y rfl (Y.eqi rfl rfl) ?_
                    refine WL.nil ?_
                    refine WC.condD rfl (fun h8 => ?_) (fun h8 => ?_)
                    · have hr := hbad (hst.trans (if_pos (by omega)))
                      refine WC.seqR rfl ?_
                      refine WL.y rfl (Y.move) ?_
                      refine WL.y rfl (Y.assign) ?_
                      refine WL.y rfl (Y.assign) ?_
                      refine WL.y rfl (Y.assign) ?_
                      refine WL.nil ?_
                      refine WC.ret (thenQ.ret (thenQ.ret (inBlockQ.ret (thenQ.ret (inBlockQ.ret (thenQ.ret (endQ.three (.inr rfl) ?_)))))))
                      exact ⟨hend (c := 3) hr (by omega) rfl, hb1⟩
                    · have hsh := hsh (by omega)
                      rw [if_neg (by omega), ← hsh.2.2.1] at hst
                      have hq := hgo hst
                      have hl4 := enc_len r
                      refine WC.skip (thenQ.normal ?_)
                      refine WC.seqR rfl ?_
                      refine WL.y rfl (Y.move) ?_
                      refine WL.y rfl (Y.move) ?_
                      refine WL.call rfl (C.func go17) (bytes_ret _ r hsh.1) ?_
                      rintro _ w65 ⟨rfl, hb65⟩
                      refine WL.y rfl (Y.catS rfl rfl (by omega)) ?_
                      refine WL.y rfl (Y.assign) ?_
                      refine WL.nil ?_
                      refine WC.seqR rfl ?_
                      refine WL.y rfl (Y.move) ?_
                      refine WL.y rfl (Y.move) ?_
                      refine WL.y rfl (Y.add64 rfl rfl (by omega)) ?_
                      refine WL.y rfl (Y.assign) ?_
                      refine WL.nil ?_
                      refine WC.exit (thenQ.exit (inBlockQ.hit (thenQ.normal ?_)))
                      exact ⟨p + n, by omega, by omega, hq.2.2.1, rfl, Below.step hb1 hb65, _, _, hq.1, hq.2.2.2, ov_mk ⟨rfl, rfl, rfl, rfl, trivial⟩⟩
            · have hpe : p = s.length := by omega
              have hu : unq (s.drop p) = ([], 0, 4) := unq_bad (by rw [List.drop_eq_nil_of_le (by omega)]; rfl)
              have hr := hfin hp1 hacc hu
              rw [if_neg (by decide)] at hr
              skip
              refine WC.seq ?_
              refine WC.seqR rfl ?_
              refine WL.y rfl (Y.move) ?_
              refine WL.y rfl (Y.move) ?_
              refine WL.y rfl (Y.lenS Tryd.underlying9 rfl _) ?_
              refine WL.y rfl (Y.dF (Y.lss rfl rfl) (by omega)) ?_
              refine WL.y rfl (Y.move) ?_
              refine WL.off rfl ?_
              refine WL.off rfl ?_
              refine WL.off rfl ?_
              refine WL.off rfl ?_
              refine WL.y rfl (Y.pickF rfl) ?_
              refine WL.nil ?_
              refine WC.condF (rfl) ?_
              refine WC.exit (thenQ.exit (thenQ.exit (inBlockQ.hit (thenQ.normal ?_))))
              refine WC.seq ?_
              refine WC.seqR rfl ?_
              refine WL.y rfl (Y.move) ?_
              refine WL.y rfl (Y.move) ?_
              refine WL.y rfl (Y.lenS Tryd.underlying9 rfl _) ?_
              refine WL.y rfl (Y.dT (Y.geq rfl rfl) (by omega)) ?_
              refine WL.nil ?_
              refine WC.condT (rfl) ?_
              refine WC.seqR rfl ?_
              refine WL.y rfl (Y.move) ?_
              refine WL.y rfl (Y.lenS Tryd.underlying9 rfl _) ?_
              refine WL.y rfl (Y.assign) ?_
              refine WL.y rfl (Y.assign) ?_
              refine WL.y rfl (Y.assign) ?_
              refine WL.nil ?_
              refine WC.ret (thenQ.ret (endQ.three (.inr rfl) ?_))
              exact ⟨hend (c := 4) hr (by omega) rfl, hb1⟩
        · have e : unquoteS s (k : Int) = ([], k, 4) := e0.trans (if_pos (.inr h3))
          refine Ret.of (n := 153) (rs := #[.tmp 4, .tmp 5, .tmp 6]) Tryd.func15 rfl rfl rfl (by simp) ?_
          refine WC.seqR rfl ?_
          refine WL.y rfl (Y.assign) ?_
          refine WL.y rfl (Y.assign) ?_
          refine WL.y rfl (Y.assign) ?_
          refine WL.nil ?_
          refine WC.seq ?_
          refine WC.seqR rfl ?_
          refine WL.y rfl (Y.move) ?_
          refine WL.y rfl (Y.dF (Y.lss rfl rfl) (by omega)) ?_
          refine WL.y rfl (Y.move) ?_
          refine WL.y rfl (Y.move) ?_
          refine WL.y rfl (Y.move) ?_
          refine WL.y rfl (Y.lenS Tryd.underlying9 rfl _) ?_
          refine WL.y rfl (Y.dF (Y.gtr rfl rfl) (by omega)) ?_
          refine WL.y rfl (Y.pickF rfl) ?_
          refine WL.nil ?_
          refine WC.condF (rfl) ?_
          refine WC.skip (thenQ.normal ?_)
          refine WC.seq ?_
          refine WC.seqR rfl ?_
          refine WL.y rfl (Y.move) ?_
          refine WL.y rfl (Y.move) ?_
          refine WL.y rfl (Y.lenS Tryd.underlying9 rfl _) ?_
          refine WL.y rfl (Y.dF (Y.eqi rfl rfl) (by omega)) ?_
          refine WL.y rfl (Y.move) ?_
          refine WL.y rfl (Y.move) ?_
          refine WL.y rfl (Y.move) ?_
          refine WL.y rfl (Y.idxN (k) Tryd.underlying9 rfl rfl (by omega) (by omega) _) ?_
          refine WL.y rfl (Y.dT (Y.nei rfl rfl) (by omega)) ?_
          refine WL.y rfl (Y.pickF rfl) ?_
          refine WL.nil ?_
          refine WC.condT (rfl) ?_
          refine WC.seqR rfl ?_
          refine WL.y rfl (Y.move) ?_
          refine WL.y rfl (Y.assign) ?_
          refine WL.y rfl (Y.assign) ?_
          refine WL.y rfl (Y.assign) ?_
          refine WL.nil ?_
          refine WC.ret (thenQ.ret (endQ.three (.inr rfl) ?_))
          exact ⟨hend e rfl rfl, Below.refl _ _⟩
end Go.Proofs.YtgdemkchfemmpaaDoor
