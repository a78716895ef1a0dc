/-
  utf: Unquote: walk.
-/
import Derived.Test.YtgdemkchfemmpaaDoorQt6
namespace Go.Proofs.YtgdemkchfemmpaaDoor
open Go Go.RowKit Go.Cx
set_option linter.unusedVariables false
set_option maxHeartbeats 8000000
theorem bt0 (s : List UInt8) (p : Nat) : bt (s.drop p) 0 = (s.getD p 0).toNat := bt_drop s p 0
theorem escape_eq (w : World) (l : List UInt8) (b : Nat) (hl : l.length ≤ 4611686018427387904) (hm : MapAt w b (encM runM)) {r n c : Nat} (he : escS l = (r, n, c)) : Ret Tryd.prog 31 [strv l, .map (some b)].toArray w fun v w' => v = .tuple #[.int .i32 (r : Int), .int .i64 (n : Int), .int .i64 (c : Int)] ∧ w = w' :=
  (escape_ret w l b hl hm).mono (by rintro v w' ⟨rfl, rfl⟩; rw [he]; exact ⟨rfl, rfl⟩)
theorem plain_eq (w : World) (s : List UInt8) (hT : Tabs w) (hs : s.length ≤ 1152921504606846976) {m : Nat} (hm : plainN s = m) : Ret Tryd.prog 32 [strv s].toArray w fun v w' => v = .int .i64 (m : Int) ∧ Below w.heap.size w w' :=
  (plain_ret w s hT hs).mono (by rintro v w' ⟨rfl, h⟩; rw [hm]; exact ⟨rfl, h⟩)
theorem refused_eq (w : World) (c : Nat) (hc : c < 256) {e : Nat} (he : (if c < 32 then 4 else 3) = e) : Ret Tryd.prog 33 [.int .u8 (c : Int)].toArray w fun v w' => v = .int .i64 (e : Int) ∧ w = w' :=
  (refused_ret w c hc).mono (by rintro v w' ⟨rfl, rfl⟩; subst he; refine ⟨?_, rfl⟩; split <;> rfl)
theorem unquote_ret (w : World) (s : List UInt8) (a : Int) (ha : -9223372036854775808 ≤ a ∧ a ≤ 9223372036854775807) (hT : Tabs w) (hs : s.length ≤ 140737488351232) : Ret Tryd.prog 14 [strv s, .int .i64 a].toArray w fun v w' => v = unqV (unquoteS s a) ∧ Below w.heap.size w w' := by
  have hend : ∀ {t : List UInt8} {n c : Nat} {z y : Int}, unquoteS s a = (t, n, c) → (n : Int) = z → (c : Int) = y → Value.tuple #[strv t, .int .i64 z, .int .i64 y] = unqV (unquoteS s a) := fun e e1 e2 => by rw [e]; subst e1; subst e2; rfl
  by_cases h0 : a < 0
  · have e : unquoteS s a = ([], 0, 17) := if_pos (.inl h0)
    refine Ret.of (n := 96) (rs := #[.tmp 4, .tmp 5, .tmp 6]) Tryd.func14 rfl rfl rfl (by simp) ?_
    refine WC.seqR rfl ?_
    refine WL.y rfl (Y.assign) ?_
    refine WL.y rfl (Y.assign) ?_
    refine WL.y rfl (Y.assign) ?_
    refine WL.nil ?_
    refine WC.scope ?_
    refine WC.seq ?_
    refine WC.seqR rfl ?_
    refine WL.y rfl (Y.move) ?_
    refine WL.y rfl (Y.dT (Y.lss rfl rfl) (by omega)) ?_
    refine WL.y rfl (Y.move) ?_
    refine WL.off rfl ?_
    refine WL.off rfl ?_
    refine WL.off rfl ?_
    refine WL.off rfl ?_
    refine WL.y rfl (Y.pickT rfl) ?_
    refine WL.nil ?_
    refine WC.condT (rfl) ?_
    refine WC.seqR rfl ?_
    refine WL.y rfl (Y.assign) ?_
    refine WL.y rfl (Y.assign) ?_
    refine WL.y rfl (Y.assign) ?_
    refine WL.nil ?_
    refine WC.ret (thenQ.ret (noJump.ret (endQ.three (.inr rfl) ?_)))
    exact ⟨hend e rfl rfl, Below.refl _ _⟩
  · by_cases h1 : (s.length : Int) < a
    · have e : unquoteS s a = ([], 0, 17) := if_pos (.inr h1)
      refine Ret.of (n := 96) (rs := #[.tmp 4, .tmp 5, .tmp 6]) Tryd.func14 rfl rfl rfl (by simp) ?_
      refine WC.seqR rfl ?_
      refine WL.y rfl (Y.assign) ?_
      refine WL.y rfl (Y.assign) ?_
      refine WL.y rfl (Y.assign) ?_
      refine WL.nil ?_
      refine WC.scope ?_
      refine WC.seq ?_
      refine WC.seqR rfl ?_
      refine WL.y rfl (Y.move) ?_
      refine WL.y rfl (Y.dF (Y.lss rfl rfl) (by omega)) ?_
      refine WL.y rfl (Y.move) ?_
      refine WL.y rfl (Y.move) ?_
      refine WL.y rfl (Y.move) ?_
      refine WL.y rfl (Y.lenS Tryd.underlying9 rfl _) ?_
      refine WL.y rfl (Y.dT (Y.gtr rfl rfl) (by omega)) ?_
      refine WL.y rfl (Y.pickF rfl) ?_
      refine WL.nil ?_
      refine WC.condT (rfl) ?_
      refine WC.seqR rfl ?_
      refine WL.y rfl (Y.assign) ?_
      refine WL.y rfl (Y.assign) ?_
      refine WL.y rfl (Y.assign) ?_
      refine WL.nil ?_
      refine WC.ret (thenQ.ret (noJump.ret (endQ.three (.inr rfl) ?_)))
      exact ⟨hend e rfl rfl, Below.refl _ _⟩
    · obtain ⟨k, rfl⟩ : ∃ k : Nat, a = (k : Int) := ⟨a.toNat, by omega⟩
      have hk : k ≤ s.length := by omega
      have e0 : unquoteS s (k : Int) = if s.drop k = [] ∨ bt (s.drop k) 0 ≠ 34 then ([], k, 4) else ((unq (s.drop (k + 1))).1, k + 1 + (unq (s.drop (k + 1))).2.1, (unq (s.drop (k + 1))).2.2) := if_neg (by omega)
      have hb0 := bt0 s k
      by_cases h2 : k = s.length
      · have e : unquoteS s (k : Int) = ([], k, 4) := e0.trans (if_pos (.inl (List.drop_eq_nil_of_le (by omega))))
        refine Ret.of (n := 96) (rs := #[.tmp 4, .tmp 5, .tmp 6]) Tryd.func14 rfl rfl rfl (by simp) ?_
        refine WC.seqR rfl ?_
        refine WL.y rfl (Y.assign) ?_
        refine WL.y rfl (Y.assign) ?_
        refine WL.y rfl (Y.assign) ?_
        refine WL.nil ?_
        refine WC.scope ?_
        refine WC.seq ?_
        refine WC.seqR rfl ?_
        refine WL.y rfl (Y.move) ?_
        refine WL.y rfl (Y.dF (Y.lss rfl rfl) (by omega)) ?_
        refine WL.y rfl (Y.move) ?_
        refine WL.y rfl (Y.move) ?_
        refine WL.y rfl (Y.move) ?_
        refine WL.y rfl (Y.lenS Tryd.underlying9 rfl _) ?_
        refine WL.y rfl (Y.dF (Y.gtr rfl rfl) (by omega)) ?_
        refine WL.y rfl (Y.pickF rfl) ?_
        refine WL.nil ?_
        refine WC.condF (rfl) ?_
        refine WC.skip (thenQ.normal ?_)
        refine WC.seq ?_
        refine WC.seqR rfl ?_
        refine WL.y rfl (Y.move) ?_
        refine WL.y rfl (Y.move) ?_
        refine WL.y rfl (Y.lenS Tryd.underlying9 rfl _) ?_
        refine WL.y rfl (Y.dT (Y.eqi rfl rfl) (by omega)) ?_
        refine WL.y rfl (Y.move) ?_
        refine WL.off rfl ?_
        refine WL.off rfl ?_
        refine WL.off rfl ?_
        refine WL.off rfl ?_
        refine WL.y rfl (Y.pickT rfl) ?_
        refine WL.nil ?_
        refine WC.condT (rfl) ?_
        refine WC.seqR rfl ?_
        refine WL.y rfl (Y.move) ?_
        refine WL.y rfl (Y.assign) ?_
        refine WL.y rfl (Y.assign) ?_
        refine WL.y rfl (Y.assign) ?_
        refine WL.nil ?_
        refine WC.ret (thenQ.ret (noJump.ret (endQ.three (.inr rfl) ?_)))
        exact ⟨hend e rfl rfl, Below.refl _ _⟩
      · by_cases h3 : bt (s.drop k) 0 = 34
        · have hne : s.drop k ≠ [] := by
            intro e
            have := List.drop_eq_nil_iff.mp e
            omega
          have e : unquoteS s (k : Int) = ((unq (s.drop (k + 1))).1, k + 1 + (unq (s.drop (k + 1))).2.1, (unq (s.drop (k + 1))).2.2) := e0.trans (if_neg (by simp only [hne, false_or, h3, ne_eq, not_true_eq_false, not_false_eq_true]))
          clear e0
          have hfin : ∀ {acc : List UInt8} {p : Nat} {t : List UInt8} {n c : Nat}, k + 1 ≤ p → unq (s.drop (k + 1)) = preU acc (p - (k + 1)) (unq (s.drop p)) → unq (s.drop p) = (t, n, c) → unquoteS s (k : Int) = (if c = 0 then acc ++ t else [], p + n, c) := by
            intro acc p t n c hp h4 h5
            rw [e, h4, h5]
            unfold preU
            simp only
            rw [show k + 1 + (p - (k + 1) + n) = p + n by omega]
          refine Ret.of (n := 96) (rs := #[.tmp 4, .tmp 5, .tmp 6]) Tryd.func14 rfl rfl rfl (by simp) ?_
          refine WC.seqR rfl ?_
          refine WL.y rfl (Y.assign) ?_
          refine WL.y rfl (Y.assign) ?_
          refine WL.y rfl (Y.assign) ?_
          refine WL.nil ?_
          refine WC.scope ?_
          refine WC.seq ?_
          refine WC.seqR rfl ?_
          refine WL.y rfl (Y.move) ?_
          refine WL.y rfl (Y.dF (Y.lss rfl rfl) (by omega)) ?_
          refine WL.y rfl (Y.move) ?_
          refine WL.y rfl (Y.move) ?_
          refine WL.y rfl (Y.move) ?_
          refine WL.y rfl (Y.lenS Tryd.underlying9 rfl _) ?_
          refine WL.y rfl (Y.dF (Y.gtr rfl rfl) (by omega)) ?_
          refine WL.y rfl (Y.pickF rfl) ?_
          refine WL.nil ?_
          refine WC.condF (rfl) ?_
          refine WC.skip (thenQ.normal ?_)
          refine WC.seq ?_
          refine WC.seqR rfl ?_
          refine WL.y rfl (Y.move) ?_
          refine WL.y rfl (Y.move) ?_
          refine WL.y rfl (Y.lenS Tryd.underlying9 rfl _) ?_
          refine WL.y rfl (Y.dF (Y.eqi rfl rfl) (by omega)) ?_
          refine WL.y rfl (Y.move) ?_
          refine WL.y rfl (Y.move) ?_
          refine WL.y rfl (Y.move) ?_
          refine WL.y rfl (Y.idxN _ Tryd.underlying9 rfl rfl rfl (by omega) _) ?_
          refine WL.y rfl (Y.dF (Y.nei rfl rfl) (by omega)) ?_
          refine WL.y rfl (Y.pickF rfl) ?_
          refine WL.nil ?_
          refine WC.condF (rfl) ?_
          refine WC.skip (thenQ.normal ?_)
          refine WC.seqR rfl ?_
          refine WL.y rfl (Y.assign) ?_
          refine WL.nil ?_
          refine WC.seqR rfl ?_
          refine WL.eex rfl (E.allocX ti51) ?_
          rintro _ w8 ⟨rfl, hB8, hb8⟩
          refine WL.nil ?_
          refine WC.seqR rfl ?_
          refine WL.y rfl (Y.move) ?_
          refine WL.y rfl (Y.add64 rfl rfl (by omega)) ?_
          refine WL.y rfl (Y.assign) ?_
          refine WL.nil ?_
          refine WC.seq ?_
          refine WC.label (thenQ.normal ?_)
          refine WC.seq ?_
          refine WC.block ?_
          have lB := hB8.lt
          refine WC.loop (fun p => s.length - p) (fun p f ds w' => k + 1 ≤ p ∧ p ≤ s.length ∧ ds = [] ∧ Below w.heap.size w w' ∧ ∃ acc mo J, unq (s.drop (k + 1)) = preU acc (p - (k + 1)) (unq (s.drop p)) ∧ acc.length ≤ p ∧ BdA w' w.heap.size w.heap.size acc ∧ (∀ mb, mo = some mb → MapAt w' mb (encM runM)) ∧
            f = ov J [(0, strv s), (1, .int .i64 (k : Int)), (7, .map mo), (8, slf w.heap.size), (9, .int .i64 (p : Int))]) (k + 1) ?_ ?_
          · exact ⟨Nat.le_refl _, by omega, rfl, hb8, [], none, _, by rw [Nat.sub_self, preU_nil], Nat.zero_le _, ⟨Nat.le_refl _, _, _, .inl rfl, hB8, World.ownsRow_nil _ _ _ _, by simp [Value.ownBlock]⟩, (fun mb e => by cases e), ov_mk ⟨rfl, rfl, rfl, rfl, rfl, trivial⟩⟩
          · rintro p _ _ w1 ⟨hp1, hp, rfl, hb1, acc, mo, J, hacc, hal, hbd, hmo, rfl⟩
            have hs1 := hb1.size
            refine WC.seq ?_
            refine WC.seqR rfl ?_
            refine WL.y rfl (Y.move) ?_
            refine WL.y rfl (Y.move) ?_
            refine WL.y rfl (Y.lenS Tryd.underlying9 rfl _) ?_
            refine WL.y rfl (Y.lss rfl rfl) ?_
            refine WL.nil ?_
            refine WC.condD rfl (fun h4 => ?_) (fun h4 => ?_)
            · have hpl : p < s.length := by omega
              have hne2 : s.drop p ≠ [] := by
                intro e
                have := List.drop_eq_nil_iff.mp e
                omega
              have hbp := bt0 s p
              have hbl := bt_lt (s.drop p) 0
              have hdl : (s.drop p).length = s.length - p := List.length_drop
              by_cases h5 : bt (s.drop p) 0 = 34
              · have hu : unq (s.drop p) = ([], 1, 0) := unq_fin (by unfold stepU; rw [if_neg hne2, if_pos h5])
                have hr := hfin hp1 hacc hu
                rw [if_pos rfl, List.append_nil] at hr
                refine WC.skip (thenQ.normal ?_)
                refine WC.block ?_
                refine WC.seqR rfl ?_
                refine WL.y rfl (Y.move) ?_
                refine WL.y rfl (Y.move) ?_
                refine WL.y rfl (Y.idxN (p) Tryd.underlying9 rfl rfl (by omega) (by omega) _) ?_
                refine WL.nil ?_
                refine WC.block ?_
                refine WC.seqR rfl ?_
                refine WL.y rfl (Y.dT (Y.eqi rfl rfl) (by omega)) ?_
                refine WL.y rfl (Y.assign) ?_
                refine WL.nil ?_
                refine WC.condT (rfl) ?_
                refine WC.exit (inBlockQ.miss rfl (inBlockQ.miss rfl (thenQ.exit (inBlockQ.hit (thenQ.normal ?_)))))
                refine WC.seq ?_
                refine WC.seqR rfl ?_
                refine WL.y rfl (Y.move) ?_
                refine WL.y rfl (Y.move) ?_
                refine WL.y rfl (Y.lenS Tryd.underlying9 rfl _) ?_
                refine WL.y rfl (Y.dF (Y.eqi rfl rfl) (by omega)) ?_
                refine WL.nil ?_
                refine WC.condF (rfl) ?_
                refine WC.skip (thenQ.normal ?_)
                refine WC.seqR rfl ?_
                refine WL.call rfl (C.func go28) (builderString_ret _ w.heap.size w.heap.size acc hbd hs1) ?_
                rintro _ w93 ⟨rfl, hwr93⟩
                refine WL.y rfl (Y.move) ?_
                refine WL.y rfl (Y.add64 rfl rfl (by omega)) ?_
                refine WL.y rfl (Y.assign) ?_
                refine WL.y rfl (Y.assign) ?_
                refine WL.y rfl (Y.assign) ?_
                refine WL.nil ?_
                refine WC.ret (noJump.ret (endQ.three (.inr rfl) ?_))
                exact ⟨hend (c := 0) hr (by omega) rfl, hb1.trans hwr93.1⟩
              · by_cases h6 : bt (s.drop p) 0 = 92
                · have hst : stepU (s.drop p) = if (escS (s.drop p)).2.2 = 0 then .go (Lib.encodeRune ((escS (s.drop p)).1 : Int)) (escS (s.drop p)).2.1 else .bad (escS (s.drop p)).2.2 := by unfold stepU; rw [if_neg hne2, if_neg h5, if_pos h6]
                  refine WC.skip (thenQ.normal ?_)
                  refine WC.block ?_
                  refine WC.seqR rfl ?_
                  refine WL.y rfl (Y.move) ?_
                  refine WL.y rfl (Y.move) ?_
                  refine WL.y rfl (Y.idxN (p) Tryd.underlying9 rfl rfl (by omega) (by omega) _) ?_
                  refine WL.nil ?_
                  refine WC.block ?_
                  refine WC.seqR rfl ?_
                  refine WL.y rfl (Y.dF (Y.eqi rfl rfl) (by omega)) ?_
                  refine WL.y rfl (Y.assign) ?_
                  refine WL.nil ?_
                  refine WC.condF (rfl) ?_
                  refine WC.seqR rfl ?_
                  refine WL.y rfl (Y.dT (Y.eqi rfl rfl) (by omega)) ?_
                  refine WL.y rfl (Y.assign) ?_
                  refine WL.nil ?_
                  refine WC.condT (rfl) ?_
                  refine WC.seq ?_
                  refine WC.seqR rfl ?_
                  refine WL.y rfl (Y.move) ?_
                  refine WL.y rfl (Y.eqmn Tryd.underlying47 rfl rfl) ?_
                  refine WL.nil ?_
                  refine WC.cut (fun f ds w' => ds = [] ∧ ∃ mb J, BdA w' w.heap.size w.heap.size acc ∧ MapAt w' mb (encM runM) ∧ Below w.heap.size w w' ∧ f = ov J [(0, strv s), (1, .int .i64 (k : Int)), (7, .map (some mb)), (8, slf w.heap.size), (9, .int .i64 (p : Int))]) ?_ ?_
                  · skip
                    refine WC.cond rfl (fun h7 => ?_) (fun h7 => ?_)
                    · refine WC.region rfl ?_
                      refine WL.call rfl (C.func go30) (runMap_ret _) ?_
                      rintro _ w69 ⟨rfl, hm69, hb69⟩
                      refine WL.y rfl (Y.assign) ?_
                      refine WL.nil (thenQ.normal ?_)
                      exact ⟨rfl, _, _, hbd.bel hb69, hm69, Below.step hb1 hb69, ov_mk ⟨rfl, rfl, rfl, rfl, rfl, trivial⟩⟩
                    · obtain ⟨mb, rfl⟩ : ∃ mb, mo = some mb := by cases mo with | none => cases h7 | some q => exact ⟨q, rfl⟩
                      refine WC.skip (thenQ.normal ?_)
                      exact ⟨rfl, mb, _, hbd, hmo _ rfl, hb1, ov_mk ⟨rfl, rfl, rfl, rfl, rfl, trivial⟩⟩
                  · rintro _ _ W2 ⟨rfl, mb, J2, hbd2, hm2, hb2, rfl⟩
                    have hs2 := hb2.size
                    have hqe : ∃ r n c, escS (s.drop p) = (r, n, c) := ⟨_, _, _, rfl⟩
                    obtain ⟨r, n, c, hqe⟩ := hqe
                    have hok := escS_ok (l := s.drop p)
                    rw [hqe] at hok hst
                    simp only at hok hst
                    refine WC.seqR rfl ?_
                    refine WL.y rfl (Y.move) ?_
                    refine WL.y rfl (Y.move) ?_
                    refine WL.y rfl (Y.sliceFromN (p) Tryd.underlying9 rfl rfl (by omega) (by omega) _) ?_
                    refine WL.y rfl (Y.move) ?_
                    refine WL.call rfl (C.func go31) (escape_eq _ (s.drop p) mb (by omega) hm2 hqe) ?_
                    rintro _ _ ⟨rfl, rfl⟩
                    refine WL.y rfl (Y.move) ?_
                    refine WL.y rfl (Y.extract rfl rfl) ?_
                    refine WL.y rfl (Y.extract rfl rfl) ?_
                    refine WL.y rfl (Y.extract rfl rfl) ?_
                    refine WL.y rfl (Y.assign) ?_
                    refine WL.y rfl (Y.assign) ?_
                    refine WL.y rfl (Y.assign) ?_
                    refine WL.nil ?_
                    refine WC.seq ?_
                    refine WC.seqR rfl ?_
                    refine WL.y rfl (Y.move) ?_
                    refine WL.y rfl (Y.nei rfl rfl) ?_
                    refine WL.nil ?_
                    refine WC.condD rfl (fun h8 => ?_) (fun h8 => ?_)
                    · have hc0 : c ≠ 0 := by omega
                      have hu : unq (s.drop p) = ([], 0, c) := unq_bad (by rw [hst, if_neg hc0])
                      have hr := hfin hp1 hacc hu
                      rw [if_neg hc0] at hr
                      refine WC.seqR rfl ?_
                      refine WL.y rfl (Y.move) ?_
                      refine WL.y rfl (Y.move) ?_
                      refine WL.y rfl (Y.assign) ?_
                      refine WL.y rfl (Y.assign) ?_
                      refine WL.y rfl (Y.assign) ?_
                      refine WL.nil ?_
                      refine WC.ret (thenQ.ret (inBlockQ.ret (inBlockQ.ret (thenQ.ret (inBlockQ.ret (thenQ.ret (noJump.ret (endQ.three (.inr rfl) ?_))))))))
                      exact ⟨hend hr rfl rfl, hb2⟩
                    · have hc0 : c = 0 := by omega
                      have hok := hok hc0
                      rw [if_pos hc0] at hst
                      have hg := stepU_go hst
                      have hu := unq_go hst
                      rw [List.drop_drop] at hu
                      rw [hu, preU_preU] at hacc
                      refine WC.skip (thenQ.normal ?_)
                      refine WC.seqR rfl ?_
                      refine WL.y rfl (Y.move) ?_
                      refine WL.call rfl (C.func go25) (writeRune_ret _ w.heap.size w.heap.size acc r hbd2 hok.1.1 (by omega) hs2) ?_
                      rintro _ w84 ⟨hbd84, hwr84⟩
                      refine WL.nil ?_
                      refine WC.region rfl ?_
                      refine WL.y rfl (Y.move) ?_
                      refine WL.y rfl (Y.move) ?_
                      refine WL.y rfl (Y.add64 rfl rfl (by omega)) ?_
                      refine WL.y rfl (Y.assign) ?_
                      refine WL.nil (inBlockQ.normal (inBlockQ.normal (thenQ.normal ?_)))
                      exact ⟨p + n, by omega, by omega, by omega, rfl, hb2.trans hwr84.1, _, some mb, _, by rw [show p + n - (k + 1) = p - (k + 1) + n by omega]; exact hacc, by rw [List.length_append]; omega, hbd84, fun mb' e' => by cases e'; exact hwr84.map hm2 (map_ne hm2 hbd2), ov_mk ⟨rfl, rfl, rfl, rfl, rfl, trivial⟩⟩
                · have hm : ∃ m, plainN (s.drop p) = m := ⟨_, rfl⟩
                  obtain ⟨m, hm⟩ := hm
                  have hu := unq_plain (s.drop p)
                  have hple := plainN_le (s.drop p)
                  have href : plainN (s.drop p) = 0 → stepU (s.drop p) = .bad (if bt (s.drop p) 0 < 32 then 4 else 3) := stepU_refused hne2 h5 h6
                  rw [hm] at hu hple href
                  have htl : ((s.drop p).take (p + m - p)).length = m := by rw [List.length_take]; omega
                  have hte : (s.drop p).take (p + m - p) = (s.drop p).take m := by rw [Nat.add_sub_cancel_left]
                  skip
                  refine WC.skip (thenQ.normal ?_)
                  refine WC.block ?_
                  refine WC.seqR rfl ?_
                  refine WL.y rfl (Y.move) ?_
                  refine WL.y rfl (Y.move) ?_
                  refine WL.y rfl (Y.idxN (p) Tryd.underlying9 rfl rfl (by omega) (by omega) _) ?_
                  refine WL.nil ?_
                  refine WC.block ?_
                  refine WC.seqR rfl ?_
                  refine WL.y rfl (Y.dF (Y.eqi rfl rfl) (by omega)) ?_
                  refine WL.y rfl (Y.assign) ?_
                  refine WL.nil ?_
                  refine WC.condF (rfl) ?_
                  refine WC.seqR rfl ?_
                  refine WL.y rfl (Y.dF (Y.eqi rfl rfl) (by omega)) ?_
                  refine WL.y rfl (Y.assign) ?_
                  refine WL.nil ?_
                  refine WC.condF (rfl) ?_
                  refine WC.seqR rfl ?_
                  refine WL.y rfl (Y.move) ?_
                  refine WL.y rfl (Y.move) ?_
                  refine WL.y rfl (Y.sliceFromN (p) Tryd.underlying9 rfl rfl (by omega) (by omega) _) ?_
                  refine WL.call rfl (C.func go32) (plain_eq _ (s.drop p) (hT.bel hb1) (by omega) hm) ?_
                  rintro _ w45 ⟨rfl, hb45⟩
                  refine WL.y rfl (Y.assign) ?_
                  refine WL.nil ?_
                  refine WC.seq ?_
                  refine WC.seqR rfl ?_
                  refine WL.y rfl (Y.move) ?_
                  refine WL.y rfl (Y.eqi rfl rfl) ?_
                  refine WL.nil ?_
                  have hb45' : Below w.heap.size w w45 := Below.step hb1 hb45
                  have hs45 := hb45'.size
                  refine WC.condD rfl (fun h7 => ?_) (fun h7 => ?_)
                  · have hp0 : m = 0 := by omega
                    have hu2 : unq (s.drop p) = ([], 0, if bt (s.drop p) 0 < 32 then 4 else 3) := unq_bad (href hp0)
                    have hr := hfin hp1 hacc hu2
                    rw [if_neg (by split <;> decide)] at hr
                    have hee : ∃ e, (if (s.getD p 0).toNat < 32 then 4 else 3) = e := ⟨_, rfl⟩
                    obtain ⟨e9, hee⟩ := hee
                    rw [hbp, hee] at hr
                    refine WC.seqR rfl ?_
                    refine WL.y rfl (Y.move) ?_
                    refine WL.y rfl (Y.move) ?_
                    refine WL.y rfl (Y.move) ?_
                    refine WL.y rfl (Y.idxN (p) Tryd.underlying9 rfl rfl (by omega) (by omega) _) ?_
                    refine WL.call rfl (C.func go33) (refused_eq _ (s.getD p 0).toNat (by omega) hee) ?_
                    rintro _ _ ⟨rfl, rfl⟩
                    refine WL.y rfl (Y.assign) ?_
                    refine WL.y rfl (Y.assign) ?_
                    refine WL.y rfl (Y.assign) ?_
                    refine WL.nil ?_
                    refine WC.ret (thenQ.ret (inBlockQ.ret (inBlockQ.ret (thenQ.ret (inBlockQ.ret (thenQ.ret (noJump.ret (endQ.three (.inr rfl) ?_))))))))
                    exact ⟨hend hr rfl rfl, hb45'⟩
                  · rw [List.drop_drop] at hu
                    rw [hu, preU_preU] at hacc
                    refine WC.skip (thenQ.normal ?_)
                    refine WC.seqR rfl ?_
                    refine WL.y rfl (Y.move) ?_
                    refine WL.y rfl (Y.move) ?_
                    refine WL.y rfl (Y.move) ?_
                    refine WL.y rfl (Y.move) ?_
                    refine WL.y rfl (Y.add64 rfl rfl (by omega)) ?_
                    refine WL.y rfl (Y.sliceBothN (p) (p+m) Tryd.underlying9 rfl rfl (by omega) rfl (by omega) (by omega) (by omega) _) ?_
                    refine WL.call rfl (C.func go27) (writeString_ret _ w.heap.size w.heap.size acc ((s.drop p).take (p + m - p)) (hbd.bel hb45) (by omega) hs45) ?_
                    rintro _ w59 ⟨hbd59, hwr59⟩
                    refine WL.nil ?_
                    refine WC.region rfl ?_
                    refine WL.y rfl (Y.move) ?_
                    refine WL.y rfl (Y.move) ?_
                    refine WL.y rfl (Y.add64 rfl rfl (by omega)) ?_
                    refine WL.y rfl (Y.assign) ?_
                    refine WL.nil (inBlockQ.normal (inBlockQ.normal (thenQ.normal ?_)))
                    have hbd59' : BdA w59 w.heap.size w.heap.size (acc ++ (s.drop p).take m) := hte ▸ hbd59
                    exact ⟨p + m, by omega, by omega, by omega, rfl, hb45'.trans hwr59.1, _, mo, _, by rw [show p + m - (k + 1) = p - (k + 1) + m by omega]; exact hacc, by rw [List.length_append, ← hte, htl]; omega, hbd59', fun mb e' => hwr59.map ((hmo mb e').bel hb45) (map_ne ((hmo mb e').bel hb45) (hbd.bel hb45)), ov_mk ⟨rfl, rfl, rfl, rfl, rfl, trivial⟩⟩
            · have hpe : p = s.length := by omega
              have hu : unq (s.drop p) = ([], 0, 4) := unq_bad (by rw [List.drop_eq_nil_of_le (by omega)]; rfl)
              have hr := hfin hp1 hacc hu
              rw [if_neg (by decide)] at hr
              refine WC.exit (thenQ.exit (thenQ.exit (inBlockQ.hit (thenQ.normal ?_))))
              refine WC.seq ?_
              refine WC.seqR rfl ?_
              refine WL.y rfl (Y.move) ?_
              refine WL.y rfl (Y.move) ?_
              refine WL.y rfl (Y.lenS Tryd.underlying9 rfl _) ?_
              refine WL.y rfl (Y.dT (Y.eqi rfl rfl) (by omega)) ?_
              refine WL.nil ?_
              refine WC.condT (rfl) ?_
              refine WC.seqR rfl ?_
              refine WL.y rfl (Y.move) ?_
              refine WL.y rfl (Y.assign) ?_
              refine WL.y rfl (Y.assign) ?_
              refine WL.y rfl (Y.assign) ?_
              refine WL.nil ?_
              refine WC.ret (thenQ.ret (noJump.ret (endQ.three (.inr rfl) ?_)))
              exact ⟨hend (c := 4) hr (by omega) rfl, hb1⟩
        · have e : unquoteS s (k : Int) = ([], k, 4) := e0.trans (if_pos (.inr h3))
          refine Ret.of (n := 96) (rs := #[.tmp 4, .tmp 5, .tmp 6]) Tryd.func14 rfl rfl rfl (by simp) ?_
          refine WC.seqR rfl ?_
          refine WL.y rfl (Y.assign) ?_
          refine WL.y rfl (Y.assign) ?_
          refine WL.y rfl (Y.assign) ?_
          refine WL.nil ?_
          refine WC.scope ?_
          refine WC.seq ?_
          refine WC.seqR rfl ?_
          refine WL.y rfl (Y.move) ?_
          refine WL.y rfl (Y.dF (Y.lss rfl rfl) (by omega)) ?_
          refine WL.y rfl (Y.move) ?_
          refine WL.y rfl (Y.move) ?_
          refine WL.y rfl (Y.move) ?_
          refine WL.y rfl (Y.lenS Tryd.underlying9 rfl _) ?_
          refine WL.y rfl (Y.dF (Y.gtr rfl rfl) (by omega)) ?_
          refine WL.y rfl (Y.pickF rfl) ?_
          refine WL.nil ?_
          refine WC.condF (rfl) ?_
          refine WC.skip (thenQ.normal ?_)
          refine WC.seq ?_
          refine WC.seqR rfl ?_
          refine WL.y rfl (Y.move) ?_
          refine WL.y rfl (Y.move) ?_
          refine WL.y rfl (Y.lenS Tryd.underlying9 rfl _) ?_
          refine WL.y rfl (Y.dF (Y.eqi rfl rfl) (by omega)) ?_
          refine WL.y rfl (Y.move) ?_
          refine WL.y rfl (Y.move) ?_
          refine WL.y rfl (Y.move) ?_
          refine WL.y rfl (Y.idxN (k) Tryd.underlying9 rfl rfl (by omega) (by omega) _) ?_
          refine WL.y rfl (Y.dT (Y.nei rfl rfl) (by omega)) ?_
          refine WL.y rfl (Y.pickF rfl) ?_
          refine WL.nil ?_
          refine WC.condT (rfl) ?_
          refine WC.seqR rfl ?_
          refine WL.y rfl (Y.move) ?_
          refine WL.y rfl (Y.assign) ?_
          refine WL.y rfl (Y.assign) ?_
          refine WL.y rfl (Y.assign) ?_
          refine WL.nil ?_
          refine WC.ret (thenQ.ret (noJump.ret (endQ.three (.inr rfl) ?_)))
          exact ⟨hend e rfl rfl, Below.refl _ _⟩
end Go.Proofs.YtgdemkchfemmpaaDoor
