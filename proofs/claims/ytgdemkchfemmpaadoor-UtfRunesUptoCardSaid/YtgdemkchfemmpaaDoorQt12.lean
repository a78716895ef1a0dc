/-
  ref01: Runes, Quote: walks.
-/
import Derived.Test.YtgdemkchfemmpaaDoorQt10
namespace Go.Proofs.YtgdemkchfemmpaaDoor
open Go Go.RowKit Go.Cx
set_option linter.unusedVariables false
set_option maxHeartbeats 4000000
section
variable {w w' : World} {b1 b2 bl B : Nat} {t : TypeId} {v1 v1' v2 : Value} {n1 n1' n2 : Nat} {xs1 xs1' xs2 : List Value}
/-- two rows of one's own: one is appended to -/
theorem two_app (h1 : OwnK w b1 t 1 v1 n1 xs1) (h2 : OwnK w b2 t 1 v2 n2 xs2) (hne : b1 ≠ b2) (hB1 : B ≤ b1) (hB2 : B ≤ b2) (hB : B ≤ w.heap.size) (hg : w.grownBy w' v1.ownBlock) (h' : OwnK w' bl t 1 v1' n1' xs1') (hbl : bl = b1 ∨ w.heap.size ≤ bl) :
    ∃ c2, OwnK w' c2 t 1 v2 n2 xs2 ∧ bl ≠ c2 ∧ B ≤ bl ∧ B ≤ c2 := by
  have hBl : B ≤ bl := by rcases hbl with rfl | h <;> omega
  have hk : v2.ownBlock = none ∨ v2.ownBlock ≠ v1.ownBlock := by
    rcases h2.own with e | e
    · exact .inl e
    · refine .inr (fun e2 => ?_)
      rw [e] at e2
      rcases h1.own with e3 | e3
      · rw [e3] at e2; cases e2
      · rw [e3] at e2; exact hne (Option.some.inj e2).symm
  rcases h2.2 with ⟨rfl, rfl⟩ | ⟨o, cap, cur, rfl, hb, _⟩
  · have : xs2 = [] := List.eq_nil_of_length_eq_zero (by simpa using h2.1)
    subst this
    exact ⟨bl + 1, OwnK.nil, by omega, hBl, by omega⟩
  · have hl := (Array.getElem?_eq_some_iff.1 hb).1
    exact ⟨b2, h2.keptR hg hk, by rcases hbl with rfl | h <;> omega, hBl, hB2⟩
end
theorem one_i64 (n : Nat) : ∀ u ∈ [i64v n], One u = true := by
  intro u hu
  simp only [List.mem_singleton] at hu
  subst hu
  rfl
theorem rrunes_ret (w : World) (s : List UInt8) (hs : s.length ≤ 1099511627776) : Ret Tryd.prog 18 [strv s].toArray w fun v w' => (∃ lv av, v = .tuple #[lv, av] ∧ SlK w' 1 lv (rns s 0).length ((rns s 0).map fun p => i64v p.2) ∧ SlK w' 1 av (rns s 0).length ((rns s 0).map fun p => i64v p.1)) ∧ Below w.heap.size w w' := by
  have hrl := rns_len s 0
  refine Ret.of (n := 34) (rs := #[.tmp 2, .tmp 3]) Tryd.func18 rfl rfl rfl (by simp) ?_
  refine WC.seqR rfl ?_
  refine WL.y rfl (Y.assign) ?_
  refine WL.y rfl (Y.assign) ?_
  refine WL.nil ?_
  refine WC.seqR rfl ?_
  refine WL.y rfl (Y.assign) ?_
  refine WL.y rfl (Y.assign) ?_
  refine WL.nil ?_
  refine WC.seq ?_
  refine WC.seqR rfl ?_
  refine WL.y rfl (Y.assign) ?_
  refine WL.nil ?_
  refine WC.block ?_
  refine WC.loop (fun i => s.length - i) (fun i f ds w' => i ≤ s.length ∧ ds = [] ∧ Below w.heap.size w w' ∧ ∃ pre v1 v2 b1 b2 J, rns s 0 = pre ++ rns (s.drop i) i ∧ OwnK w' b1 3 1 v1 pre.length (pre.map fun p => i64v p.2) ∧ OwnK w' b2 3 1 v2 pre.length (pre.map fun p => i64v p.1) ∧ b1 ≠ b2 ∧ w.heap.size ≤ b1 ∧ w.heap.size ≤ b2 ∧
    f = ov J [(0, strv s), (4, v1), (5, v2), (6, .int .i64 (i : Int))]) 0 ?_ ?_
  · exact ⟨by omega, rfl, Below.refl _ _, [], _, _, w.heap.size, w.heap.size + 1, _, rfl, OwnK.nil, OwnK.nil, by omega, by omega, by omega, ov_mk ⟨rfl, rfl, rfl, rfl, trivial⟩⟩
  · rintro i _ _ w1 ⟨hi, rfl, hb1, pre, v1, v2, b1, b2, J, hpre, ho1, ho2, hne, hB1, hB2, rfl⟩
    have hs1 := hb1.size
    refine WC.seq ?_
    refine WC.seqR rfl ?_
    refine WL.y rfl (Y.move) ?_
    refine WL.y rfl (Y.move) ?_
    refine WL.y rfl (Y.lenS Tryd.underlying9 rfl _) ?_
    refine WL.y rfl (Y.lss rfl rfl) ?_
    refine WL.nil ?_
    refine WC.condD rfl (fun h0 => ?_) (fun h0 => ?_)
    · have hdl : (s.drop i).length = s.length - i := List.length_drop
      have hle := atL_le (s.drop i)
      have hqa : ∃ r n, atL (s.drop i) = (r, n) := ⟨_, _, rfl⟩
      obtain ⟨r, n, hqa⟩ := hqa
      have hst := rns_stop (l := s.drop i) i
      have hgo := rns_go (l := s.drop i) i
      rw [hqa] at hst hgo hle
      simp only at hst hgo hle
      refine WC.skip (thenQ.normal ?_)
      refine WC.block ?_
      refine WC.seqR rfl ?_
      refine WL.y rfl (Y.move) ?_
      refine WL.y rfl (Y.move) ?_
      refine WL.call rfl (C.func go22) (at_eq _ s i (by omega) (by omega) hqa) ?_
      rintro _ _ ⟨rfl, rfl⟩
      refine WL.y rfl (Y.move) ?_
      refine WL.y rfl (Y.extract rfl rfl) ?_
      refine WL.y rfl (Y.extract rfl rfl) ?_
      refine WL.y rfl (Y.assign) ?_
      refine WL.y rfl (Y.assign) ?_
      refine WL.nil ?_
      refine WC.seq ?_
      refine WC.seqR rfl ?_
      refine WL.y rfl (Y.move) ?_
      refine WL.y rfl (Y.eqi rfl rfl) ?_
      refine WL.nil ?_
      refine WC.condD rfl (fun h1 => ?_) (fun h1 => ?_)
      · rw [hst (by omega), List.append_nil] at hpre
        rw [← hpre] at ho1 ho2
        refine WC.exit (thenQ.exit (inBlockQ.miss rfl (thenQ.exit (inBlockQ.hit (thenQ.normal ?_)))))
        refine WC.seqR rfl ?_
        refine WL.y rfl (Y.move) ?_
        refine WL.y rfl (Y.move) ?_
        refine WL.y rfl (Y.assign) ?_
        refine WL.y rfl (Y.assign) ?_
        refine WL.nil ?_
        refine WC.ret (endQ.two (.inr rfl) ?_)
        exact ⟨⟨_, _, rfl, ho1.sl, ho2.sl⟩, hb1⟩
      · rw [hgo (by omega)] at hpre
        have hpre2 : rns s 0 = (pre ++ [(i, r)]) ++ rns ((s.drop i).drop n) (i + n) := by rw [hpre, List.append_assoc]; rfl
        rw [List.drop_drop] at hpre2
        have hpl : pre.length + 1 ≤ s.length := by
          have := congrArg List.length hpre2
          rw [List.length_append, List.length_append, List.length_singleton] at this
          omega
        have e1 : (pre ++ [(i, r)]).length = pre.length + 1 := by simp
        have e2 : ((pre ++ [(i, r)]).map fun p => i64v p.2) = (pre.map fun p => i64v p.2) ++ [i64v r] := by simp
        have e3 : ((pre ++ [(i, r)]).map fun p => i64v p.1) = (pre.map fun p => i64v p.1) ++ [i64v i] := by simp
        have hmx : maxLen = 9223372036854775807 := rfl
        refine WC.skip (thenQ.normal ?_)
        refine WC.seqR rfl ?_
        refine WL.y rfl (Y.move) ?_
        refine WL.y rfl (Y.move) ?_
        refine WL.eex rfl (E.build1 Tryd.underlying38 ti3 rfl rfl rfl) ?_
        rintro v23 w23 ⟨hs23, hb23, _⟩
        refine WL.eex rfl (E.appendK (news := [i64v r]) Tryd.underlying38 Tryd.underlying38 ti3 rfl (by decide) (ho1.bel hb23) hs23 (one_i64 r) (by omega) (by omega)) ?_
        rintro v24 w24 ⟨⟨c1, ho24, hc1⟩, hg24⟩
        have hs23' := hb23.size
        have htw := two_app (ho1.bel hb23) (ho2.bel hb23) hne hB1 hB2 (by omega) hg24 ho24 hc1
        obtain ⟨c2, ho2', hne', hC1, hC2⟩ := htw
        refine WL.y rfl (Y.assign) ?_
        refine WL.nil ?_
        refine WC.seqR rfl ?_
        refine WL.y rfl (Y.move) ?_
        refine WL.y rfl (Y.move) ?_
        refine WL.eex rfl (E.build1 Tryd.underlying38 ti3 rfl rfl rfl) ?_
        rintro v27 w27 ⟨hs27, hb27, _⟩
        refine WL.eex rfl (E.appendK (news := [i64v i]) Tryd.underlying38 Tryd.underlying38 ti3 rfl (by decide) (ho2'.bel hb27) hs27 (one_i64 i) (by omega) (by omega)) ?_
        rintro v28 w28 ⟨⟨d2, ho28, hd2⟩, hg28⟩
        refine WL.y rfl (Y.assign) ?_
        refine WL.nil ?_
        refine WC.region rfl ?_
        refine WL.y rfl (Y.move) ?_
        refine WL.y rfl (Y.move) ?_
        refine WL.y rfl (Y.add64 rfl rfl (by omega)) ?_
        refine WL.y rfl (Y.assign) ?_
        refine WL.nil (inBlockQ.normal (thenQ.normal ?_))
        have hg24' : w23.grownBy w24 v1.ownBlock := hg24
        have hg28' : w27.grownBy w28 v2.ownBlock := hg28
        have hs24' := hg24.size
        have hs27' := hb27.size
        have htw := two_app (ho2'.bel hb27) (ho24.bel hb27) (fun e => hne' e.symm) hC2 hC1 (by omega) hg28 ho28 hd2
        obtain ⟨d1, ho1', hne2, hD2, hD1⟩ := htw
        have hbb : Below w.heap.size w w24 := (Below.step hb1 hb23).trans (below_of_grown hg24' (by omega) (fun k e => by rcases ho1.own with e' | e' <;> rw [e'] at e <;> cases e; omega))
        have hbc : Below w.heap.size w w28 := (Below.step hbb hb27).trans (below_of_grown hg28' (by omega) (fun k e => by rcases ho2'.own with e' | e' <;> rw [e'] at e <;> cases e; omega))
        exact ⟨i + n, by omega, by omega, rfl, hbc, pre ++ [(i, r)], _, _, d1, d2, _, hpre2, by rw [e1, e2]; exact ho1', by rw [e1, e3]; exact ho28, fun e => hne2 e.symm, hD1, hD2, ov_mk ⟨rfl, rfl, rfl, rfl, trivial⟩⟩
    · have e : s.drop i = [] := List.drop_eq_nil_of_le (by omega)
      rw [rns_stop i (by rw [e]; rfl), List.append_nil] at hpre
      rw [← hpre] at ho1 ho2
      refine WC.exit (thenQ.exit (thenQ.exit (inBlockQ.hit (thenQ.normal ?_))))
      refine WC.seqR rfl ?_
      refine WL.y rfl (Y.move) ?_
      refine WL.y rfl (Y.move) ?_
      refine WL.y rfl (Y.assign) ?_
      refine WL.y rfl (Y.assign) ?_
      refine WL.nil ?_
      refine WC.ret (endQ.two (.inr rfl) ?_)
      exact ⟨⟨_, _, rfl, ho1.sl, ho2.sl⟩, hb1⟩
end Go.Proofs.YtgdemkchfemmpaaDoor
