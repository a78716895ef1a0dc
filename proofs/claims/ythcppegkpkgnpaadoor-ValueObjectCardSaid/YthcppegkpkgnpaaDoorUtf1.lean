/-
  ref01: At, Valid: walks.
-/
import Derived.Test.YthcppegkpkgnpaaDoorUtf0
namespace Go.Proofs.YthcppegkpkgnpaaDoor
open Go Go.RowKit Go.Cx
set_option linter.unusedVariables false
set_option maxHeartbeats 4000000
theorem at_ret (w : World) (s : List UInt8) (i : Nat) (hi : i ≤ 4611686018427387904) (hs : s.length ≤ 4611686018427387904) :
    Ret Tryd.prog 81 [strv s, .int .i64 (i : Int)].toArray w fun v w' => v = .tuple #[.int .i64 ((atL (s.drop i)).1 : Int), .int .i64 ((atL (s.drop i)).2 : Int)] ∧ w = w' := by
  have hz : atL (s.drop i) = (0, 0) → Value.tuple #[.int .i64 0, .int .i64 0] = Value.tuple #[.int .i64 ((atL (s.drop i)).1 : Int), .int .i64 ((atL (s.drop i)).2 : Int)] := fun e => by rw [e]; rfl
  have hg : ∀ {a b : Nat} {z : Int}, atL (s.drop i) = (a, b) → (a : Int) = z → Value.tuple #[.int .i64 z, .int .i64 (b : Int)] = Value.tuple #[.int .i64 ((atL (s.drop i)).1 : Int), .int .i64 ((atL (s.drop i)).2 : Int)] := fun e e2 => by subst e2; rw [e]
  refine Ret.of (n := 96) (rs := #[.tmp 4, .tmp 5]) Tryd.func81 rfl rfl rfl (by simp) ?_
  refine WC.seqR rfl ?_
  refine WL.y rfl (Y.assign) ?_
  refine WL.y rfl (Y.assign) ?_
  refine WL.nil ?_
  refine WC.seq ?_
  refine WC.seqR rfl ?_
  refine WL.y rfl (Y.move) ?_
  refine WL.y rfl (Y.move) ?_
  refine WL.y rfl (Y.lenS Tryd.underlying9 rfl _) ?_
  refine WL.y rfl (Y.geq rfl rfl) ?_
  refine WL.nil ?_
  refine WC.condD rfl (fun h0 => ?_) (fun h0 => ?_)
  · have e : s.drop i = [] := List.drop_eq_nil_of_le (by omega)
    refine WC.seqR rfl ?_
    refine WL.y rfl (Y.assign) ?_
    refine WL.y rfl (Y.assign) ?_
    refine WL.nil ?_
    refine WC.ret (thenQ.ret (endQ.two (.inr rfl) ?_))
    exact ⟨hz (by rw [e]; exact atL_nil), rfl⟩
  · have hil : i < s.length := by omega
    have hne : s.drop i ≠ [] := by
      intro e
      have := List.drop_eq_nil_iff.mp e
      omega
    have hdl : (s.drop i).length = s.length - i := List.length_drop
    have hb0 : bt (s.drop i) 0 = (s.getD i 0).toNat := bt_drop s i 0
    have hlt := bt_lt (s.drop i) 0
    have hbad : 128 ≤ bt (s.drop i) 0 → ¬ (192 ≤ bt (s.drop i) 0 ∧ bt (s.drop i) 0 < 248) → atL (s.drop i) = (0, 0) := atL_bad _ hne
    refine WC.skip (thenQ.normal ?_)
    refine WC.seqR rfl ?_
    refine WL.y rfl (Y.move) ?_
    refine WL.y rfl (Y.move) ?_
    refine WL.y rfl (Y.idxN _ Tryd.underlying9 rfl rfl rfl (by omega) _) ?_
    refine WL.y rfl (Y.u8i Tryd.underlying5 Tryd.underlying3 rfl) ?_
    refine WL.y rfl (Y.assign) ?_
    refine WL.nil ?_
    refine WC.seqR rfl ?_
    refine WL.y rfl (Y.assign) ?_
    refine WL.y rfl (Y.assign) ?_
    refine WL.y rfl (Y.assign) ?_
    refine WL.nil ?_
    refine WC.seq ?_
    refine WC.cut (fun f ds w' => ds = [] ∧ w = w' ∧ ∃ n r least J, Kind (bt (s.drop i) 0) n r least ∧ f = ov J [(0, strv s), (1, .int .i64 (i : Int)), (7, .int .i64 (n : Int)), (8, .int .i64 r), (9, .int .i64 least)]) ?_ ?_
    · refine WC.block ?_
      refine WC.seqR rfl ?_
      refine WL.y rfl (Y.move) ?_
      refine WL.y rfl (Y.lss rfl rfl) ?_
      refine WL.y rfl (Y.assign) ?_
      refine WL.nil ?_
      refine WC.condD rfl (fun h1 => ?_) (fun h1 => ?_)
      · refine WC.seqR rfl ?_
        refine WL.y rfl (Y.move) ?_
        refine WL.y rfl (Y.assign) ?_
        refine WL.y rfl (Y.assign) ?_
        refine WL.nil ?_
        refine WC.ret (inBlockQ.ret (thenQ.ret (endQ.two (.inr rfl) ?_)))
        have e1 : atL (s.drop i) = ((s.getD i 0).toNat, 1) := by rw [atL_one _ hne (by omega), hb0]
        have e2 : Value.tuple #[.int .i64 ((s.getD i 0).toNat : Int), .int .i64 1] = Value.tuple #[.int .i64 ((atL (s.drop i)).1 : Int), .int .i64 ((atL (s.drop i)).2 : Int)] := by rw [e1]; rfl
        exact ⟨e2, rfl⟩
      · by_cases h2 : 192 ≤ bt (s.drop i) 0 ∧ bt (s.drop i) 0 < 224
        · have h2' := h2
          refine WC.seqR rfl ?_
          refine WL.y rfl (Y.move) ?_
          refine WL.y rfl (Y.dT (Y.geq rfl rfl) (by omega)) ?_
          refine WL.y rfl (Y.move) ?_
          refine WL.y rfl (Y.move) ?_
          refine WL.y rfl (Y.dT (Y.lss rfl rfl) (by omega)) ?_
          refine WL.y rfl (Y.pickT rfl) ?_
          refine WL.y rfl (Y.assign) ?_
          refine WL.nil ?_
          refine WC.condT (rfl) ?_
          refine WC.region rfl ?_
          refine WL.y rfl (Y.move) ?_
          refine WL.y rfl (Y.sub64 rfl rfl (by omega)) ?_
          refine WL.y rfl (Y.assign) ?_
          refine WL.y rfl (Y.assign) ?_
          refine WL.y rfl (Y.assign) ?_
          refine WL.nil (inBlockQ.normal (thenQ.normal ?_))
          exact ⟨rfl, rfl, 2, _, 128, _, .inl ⟨h2.1, h2.2, rfl, rfl, rfl⟩, ov_mk ⟨rfl, rfl, rfl, congrArg (fun x : Nat => Value.int .i64 ((x : Int) - 192)) hb0.symm, rfl, trivial⟩⟩
        · by_cases h3 : 224 ≤ bt (s.drop i) 0
          · by_cases h4 : bt (s.drop i) 0 < 240
            · have h2' := h2
              refine WC.seqR rfl ?_
              refine WL.y rfl (Y.move) ?_
              refine WL.y rfl (Y.dT (Y.geq rfl rfl) (by omega)) ?_
              refine WL.y rfl (Y.move) ?_
              refine WL.y rfl (Y.move) ?_
              refine WL.y rfl (Y.dF (Y.lss rfl rfl) (by omega)) ?_
              refine WL.y rfl (Y.pickT rfl) ?_
              refine WL.y rfl (Y.assign) ?_
              refine WL.nil ?_
              refine WC.condF (rfl) ?_
              refine WC.seqR rfl ?_
              refine WL.y rfl (Y.move) ?_
              refine WL.y rfl (Y.dT (Y.geq rfl rfl) (by omega)) ?_
              refine WL.y rfl (Y.move) ?_
              refine WL.y rfl (Y.move) ?_
              refine WL.y rfl (Y.dT (Y.lss rfl rfl) (by omega)) ?_
              refine WL.y rfl (Y.pickT rfl) ?_
              refine WL.y rfl (Y.assign) ?_
              refine WL.nil ?_
              refine WC.condT (rfl) ?_
              refine WC.region rfl ?_
              refine WL.y rfl (Y.move) ?_
              refine WL.y rfl (Y.sub64 rfl rfl (by omega)) ?_
              refine WL.y rfl (Y.assign) ?_
              refine WL.y rfl (Y.assign) ?_
              refine WL.y rfl (Y.assign) ?_
              refine WL.nil (inBlockQ.normal (thenQ.normal ?_))
              exact ⟨rfl, rfl, 3, _, 2048, _, .inr (.inl ⟨h3, h4, rfl, rfl, rfl⟩), ov_mk ⟨rfl, rfl, rfl, congrArg (fun x : Nat => Value.int .i64 ((x : Int) - 224)) hb0.symm, rfl, trivial⟩⟩
            · by_cases h5 : bt (s.drop i) 0 < 248
              · have h2' := h2
                refine WC.seqR rfl ?_
                refine WL.y rfl (Y.move) ?_
                refine WL.y rfl (Y.dT (Y.geq rfl rfl) (by omega)) ?_
                refine WL.y rfl (Y.move) ?_
                refine WL.y rfl (Y.move) ?_
                refine WL.y rfl (Y.dF (Y.lss rfl rfl) (by omega)) ?_
                refine WL.y rfl (Y.pickT rfl) ?_
                refine WL.y rfl (Y.assign) ?_
                refine WL.nil ?_
                refine WC.condF (rfl) ?_
                refine WC.seqR rfl ?_
                refine WL.y rfl (Y.move) ?_
                refine WL.y rfl (Y.dT (Y.geq rfl rfl) (by omega)) ?_
                refine WL.y rfl (Y.move) ?_
                refine WL.y rfl (Y.move) ?_
                refine WL.y rfl (Y.dF (Y.lss rfl rfl) (by omega)) ?_
                refine WL.y rfl (Y.pickT rfl) ?_
                refine WL.y rfl (Y.assign) ?_
                refine WL.nil ?_
                refine WC.condF (rfl) ?_
                refine WC.seqR rfl ?_
                refine WL.y rfl (Y.move) ?_
                refine WL.y rfl (Y.dT (Y.geq rfl rfl) (by omega)) ?_
                refine WL.y rfl (Y.move) ?_
                refine WL.y rfl (Y.move) ?_
                refine WL.y rfl (Y.dT (Y.lss rfl rfl) (by omega)) ?_
                refine WL.y rfl (Y.pickT rfl) ?_
                refine WL.y rfl (Y.assign) ?_
                refine WL.nil ?_
                refine WC.condT (rfl) ?_
                refine WC.region rfl ?_
                refine WL.y rfl (Y.move) ?_
                refine WL.y rfl (Y.sub64 rfl rfl (by omega)) ?_
                refine WL.y rfl (Y.assign) ?_
                refine WL.y rfl (Y.assign) ?_
                refine WL.y rfl (Y.assign) ?_
                refine WL.nil (inBlockQ.normal (thenQ.normal ?_))
                exact ⟨rfl, rfl, 4, _, 65536, _, .inr (.inr ⟨by omega, h5, rfl, rfl, rfl⟩), ov_mk ⟨rfl, rfl, rfl, congrArg (fun x : Nat => Value.int .i64 ((x : Int) - 240)) hb0.symm, rfl, trivial⟩⟩
              · have h2' := h2
                refine WC.seqR rfl ?_
                refine WL.y rfl (Y.move) ?_
                refine WL.y rfl (Y.dT (Y.geq rfl rfl) (by omega)) ?_
                refine WL.y rfl (Y.move) ?_
                refine WL.y rfl (Y.move) ?_
                refine WL.y rfl (Y.dF (Y.lss rfl rfl) (by omega)) ?_
                refine WL.y rfl (Y.pickT rfl) ?_
                refine WL.y rfl (Y.assign) ?_
                refine WL.nil ?_
                refine WC.condF (rfl) ?_
                refine WC.seqR rfl ?_
                refine WL.y rfl (Y.move) ?_
                refine WL.y rfl (Y.dT (Y.geq rfl rfl) (by omega)) ?_
                refine WL.y rfl (Y.move) ?_
                refine WL.y rfl (Y.move) ?_
                refine WL.y rfl (Y.dF (Y.lss rfl rfl) (by omega)) ?_
                refine WL.y rfl (Y.pickT rfl) ?_
                refine WL.y rfl (Y.assign) ?_
                refine WL.nil ?_
                refine WC.condF (rfl) ?_
                refine WC.seqR rfl ?_
                refine WL.y rfl (Y.move) ?_
                refine WL.y rfl (Y.dT (Y.geq rfl rfl) (by omega)) ?_
                refine WL.y rfl (Y.move) ?_
                refine WL.y rfl (Y.move) ?_
                refine WL.y rfl (Y.dF (Y.lss rfl rfl) (by omega)) ?_
                refine WL.y rfl (Y.pickT rfl) ?_
                refine WL.y rfl (Y.assign) ?_
                refine WL.nil ?_
                refine WC.condF (rfl) ?_
                refine WC.seqR rfl ?_
                refine WL.y rfl (Y.assign) ?_
                refine WL.y rfl (Y.assign) ?_
                refine WL.nil ?_
                refine WC.ret (inBlockQ.ret (thenQ.ret (endQ.two (.inr rfl) ?_)))
                have hA : 128 ≤ bt (s.drop i) 0 := by omega
                have hB : ¬ (192 ≤ bt (s.drop i) 0 ∧ bt (s.drop i) 0 < 248) := by omega
                exact ⟨hz (hbad hA hB), rfl⟩
          · have h2' := h2
            refine WC.seqR rfl ?_
            refine WL.y rfl (Y.move) ?_
            refine WL.y rfl (Y.dF (Y.geq rfl rfl) (by omega)) ?_
            refine WL.y rfl (Y.move) ?_
            refine WL.off rfl ?_
            refine WL.off rfl ?_
            refine WL.y rfl (Y.pickF rfl) ?_
            refine WL.y rfl (Y.assign) ?_
            refine WL.nil ?_
            refine WC.condF (rfl) ?_
            refine WC.seqR rfl ?_
            refine WL.y rfl (Y.move) ?_
            refine WL.y rfl (Y.dF (Y.geq rfl rfl) (by omega)) ?_
            refine WL.y rfl (Y.move) ?_
            refine WL.off rfl ?_
            refine WL.off rfl ?_
            refine WL.y rfl (Y.pickF rfl) ?_
            refine WL.y rfl (Y.assign) ?_
            refine WL.nil ?_
            refine WC.condF (rfl) ?_
            refine WC.seqR rfl ?_
            refine WL.y rfl (Y.move) ?_
            refine WL.y rfl (Y.dF (Y.geq rfl rfl) (by omega)) ?_
            refine WL.y rfl (Y.move) ?_
            refine WL.off rfl ?_
            refine WL.off rfl ?_
            refine WL.y rfl (Y.pickF rfl) ?_
            refine WL.y rfl (Y.assign) ?_
            refine WL.nil ?_
            refine WC.condF (rfl) ?_
            refine WC.seqR rfl ?_
            refine WL.y rfl (Y.assign) ?_
            refine WL.y rfl (Y.assign) ?_
            refine WL.nil ?_
            refine WC.ret (inBlockQ.ret (thenQ.ret (endQ.two (.inr rfl) ?_)))
            have hA : 128 ≤ bt (s.drop i) 0 := by omega
            have hB : ¬ (192 ≤ bt (s.drop i) 0 ∧ bt (s.drop i) 0 < 248) := by omega
            exact ⟨hz (hbad hA hB), rfl⟩
    · rintro _ _ _ ⟨rfl, rfl, n, r, least, J, hk, rfl⟩
      have hn : 2 ≤ n ∧ n ≤ 4 ∧ 0 ≤ r ∧ r < 4096 := by rcases hk with ⟨_, _, rfl, rfl, _⟩ | ⟨_, _, rfl, rfl, _⟩ | ⟨_, _, rfl, rfl, _⟩ <;> omega
      refine WC.seq ?_
      refine WC.seqR rfl ?_
      refine WL.y rfl (Y.move) ?_
      refine WL.y rfl (Y.move) ?_
      refine WL.y rfl (Y.add64 rfl rfl (by omega)) ?_
      refine WL.y rfl (Y.move) ?_
      refine WL.y rfl (Y.lenS Tryd.underlying9 rfl _) ?_
      refine WL.y rfl (Y.gtr rfl rfl) ?_
      refine WL.nil ?_
      refine WC.condD rfl (fun h1 => ?_) (fun h1 => ?_)
      · have e := atL_short _ hne hk (by omega)
        refine WC.seqR rfl ?_
        refine WL.y rfl (Y.assign) ?_
        refine WL.y rfl (Y.assign) ?_
        refine WL.nil ?_
        refine WC.ret (thenQ.ret (endQ.two (.inr rfl) ?_))
        exact ⟨hz e, rfl⟩
      · have hnl : n ≤ (s.drop i).length := by omega
        refine WC.skip (thenQ.normal ?_)
        refine WC.seq ?_
        refine WC.seqR rfl ?_
        refine WL.y rfl (Y.assign) ?_
        refine WL.nil ?_
        refine WC.block ?_
        refine WC.loop (fun m => n - m) (fun m f ds w' => 1 ≤ m ∧ m ≤ n ∧ ds = [] ∧ w = w' ∧ (∀ j, 1 ≤ j → j < m → 128 ≤ bt (s.drop i) j ∧ bt (s.drop i) j < 192) ∧ ∃ J, f = ov J [(0, strv s), (1, .int .i64 (i : Int)), (7, .int .i64 (n : Int)), (8, .int .i64 (contR (s.drop i) r (m - 1))), (9, .int .i64 least), (10, .int .i64 (m : Int))]) 1 ?_ ?_
        · exact ⟨by omega, by omega, rfl, rfl, fun j h1 h2 => by omega, _, ov_mk ⟨rfl, rfl, rfl, rfl, rfl, rfl, trivial⟩⟩
        · rintro m _ _ _ ⟨hm1, hmn, rfl, rfl, hall, J, rfl⟩
          have hcb := contR_lt (s.drop i) r (m - 1) (fun j h1 h2 => hall j h1 (by omega)) (by omega) (by omega)
          refine WC.seq ?_
          refine WC.seqR rfl ?_
          refine WL.y rfl (Y.move) ?_
          refine WL.y rfl (Y.move) ?_
          refine WL.y rfl (Y.lss rfl rfl) ?_
          refine WL.nil ?_
          refine WC.condD rfl (fun h2 => ?_) (fun h2 => ?_)
          · have hbm : bt (s.drop i) m = (s.getD (i + m) 0).toNat := bt_drop s i m
            have hbl := bt_lt (s.drop i) m
            have hcb := hcb (by omega)
            by_cases h3 : bt (s.drop i) m < 128
            · have e := atL_cont _ hne hk hm1 (by omega) (.inl h3)
              refine WC.skip (thenQ.normal ?_)
              refine WC.seq ?_
              refine WC.block ?_
              refine WC.seqR rfl ?_
              refine WL.y rfl (Y.move) ?_
              refine WL.y rfl (Y.move) ?_
              refine WL.y rfl (Y.move) ?_
              refine WL.y rfl (Y.add64 rfl rfl (by omega)) ?_
              refine WL.y rfl (Y.idxN (i + m) Tryd.underlying9 rfl rfl (by omega) (by omega) _) ?_
              refine WL.y rfl (Y.u8i Tryd.underlying5 Tryd.underlying3 rfl) ?_
              refine WL.y rfl (Y.assign) ?_
              refine WL.nil ?_
              refine WC.seq ?_
              refine WC.seqR rfl ?_
              refine WL.y rfl (Y.move) ?_
              refine WL.y rfl (Y.dT (Y.lss rfl rfl) (by omega)) ?_
              refine WL.y rfl (Y.move) ?_
              refine WL.off rfl ?_
              refine WL.off rfl ?_
              refine WL.y rfl (Y.pickT rfl) ?_
              refine WL.nil ?_
              refine WC.condT (rfl) ?_
              refine WC.seqR rfl ?_
              refine WL.y rfl (Y.assign) ?_
              refine WL.y rfl (Y.assign) ?_
              refine WL.nil ?_
              refine WC.ret (thenQ.ret (inBlockQ.ret (thenQ.ret (thenQ.ret (inBlockQ.ret (thenQ.ret (endQ.two (.inr rfl) ?_)))))))
              exact ⟨hz e, rfl⟩
            · by_cases h4 : 192 ≤ bt (s.drop i) m
              · have e := atL_cont _ hne hk hm1 (by omega) (.inr h4)
                refine WC.skip (thenQ.normal ?_)
                refine WC.seq ?_
                refine WC.block ?_
                refine WC.seqR rfl ?_
                refine WL.y rfl (Y.move) ?_
                refine WL.y rfl (Y.move) ?_
                refine WL.y rfl (Y.move) ?_
                refine WL.y rfl (Y.add64 rfl rfl (by omega)) ?_
                refine WL.y rfl (Y.idxN (i + m) Tryd.underlying9 rfl rfl (by omega) (by omega) _) ?_
                refine WL.y rfl (Y.u8i Tryd.underlying5 Tryd.underlying3 rfl) ?_
                refine WL.y rfl (Y.assign) ?_
                refine WL.nil ?_
                refine WC.seq ?_
                refine WC.seqR rfl ?_
                refine WL.y rfl (Y.move) ?_
                refine WL.y rfl (Y.dF (Y.lss rfl rfl) (by omega)) ?_
                refine WL.y rfl (Y.move) ?_
                refine WL.y rfl (Y.move) ?_
                refine WL.y rfl (Y.dT (Y.geq rfl rfl) (by omega)) ?_
                refine WL.y rfl (Y.pickF rfl) ?_
                refine WL.nil ?_
                refine WC.condT (rfl) ?_
                refine WC.seqR rfl ?_
                refine WL.y rfl (Y.assign) ?_
                refine WL.y rfl (Y.assign) ?_
                refine WL.nil ?_
                refine WC.ret (thenQ.ret (inBlockQ.ret (thenQ.ret (thenQ.ret (inBlockQ.ret (thenQ.ret (endQ.two (.inr rfl) ?_)))))))
                exact ⟨hz e, rfl⟩
              · skip
                skip
                refine WC.skip (thenQ.normal ?_)
                refine WC.seq ?_
                refine WC.block ?_
                refine WC.seqR rfl ?_
                refine WL.y rfl (Y.move) ?_
                refine WL.y rfl (Y.move) ?_
                refine WL.y rfl (Y.move) ?_
                refine WL.y rfl (Y.add64 rfl rfl (by omega)) ?_
                refine WL.y rfl (Y.idxN (i + m) Tryd.underlying9 rfl rfl (by omega) (by omega) _) ?_
                refine WL.y rfl (Y.u8i Tryd.underlying5 Tryd.underlying3 rfl) ?_
                refine WL.y rfl (Y.assign) ?_
                refine WL.nil ?_
                refine WC.seq ?_
                refine WC.seqR rfl ?_
                refine WL.y rfl (Y.move) ?_
                refine WL.y rfl (Y.dF (Y.lss rfl rfl) (by omega)) ?_
                refine WL.y rfl (Y.move) ?_
                refine WL.y rfl (Y.move) ?_
                refine WL.y rfl (Y.dF (Y.geq rfl rfl) (by omega)) ?_
                refine WL.y rfl (Y.pickF rfl) ?_
                refine WL.nil ?_
                have e9 : contR (s.drop i) r (m + 1 - 1) = 64 * contR (s.drop i) r (m - 1) + ((s.getD (i + m) 0).toNat : Int) - 128 := by
                  obtain ⟨q, rfl⟩ : ∃ q, m = q + 1 := ⟨m - 1, by omega⟩
                  rw [← hbm]
                  rfl
                refine WC.condF (rfl) ?_
                refine WC.skip (thenQ.normal ?_)
                refine WC.region rfl ?_
                refine WL.y rfl (Y.move) ?_
                refine WL.y rfl (Y.mul64 rfl rfl (by omega)) ?_
                refine WL.y rfl (Y.move) ?_
                refine WL.y rfl (Y.add64 rfl rfl (by omega)) ?_
                refine WL.y rfl (Y.sub64 rfl rfl (by omega)) ?_
                refine WL.y rfl (Y.assign) ?_
                refine WL.nil (inBlockQ.normal (thenQ.normal ?_))
                refine WC.region rfl ?_
                refine WL.y rfl (Y.move) ?_
                refine WL.y rfl (Y.add64 rfl rfl (by omega)) ?_
                refine WL.y rfl (Y.assign) ?_
                refine WL.nil (thenQ.normal ?_)
                refine ⟨m + 1, by omega, by omega, by omega, rfl, rfl, fun j h5 h6 => ?_, _, ov_mk ⟨rfl, rfl, rfl, congrArg (Value.int .i64) e9.symm, rfl, rfl, trivial⟩⟩
                by_cases h7 : j = m
                · subst h7; omega
                · exact hall j h5 (by omega)
          · have hmn' : m = n := by omega
            subst hmn'
            have hend := atL_end _ hne hk hnl hall
            have hcb := contR_lt (s.drop i) r (m - 1) (fun j h1 h2 => hall j h1 (by omega)) (by omega) (by omega) (by omega)
            obtain ⟨h90, h9⟩ := hend
            by_cases h3 : contR (s.drop i) r (m - 1) < least
            · rw [if_pos (.inl h3)] at h9
              refine WC.exit (thenQ.exit (thenQ.exit (inBlockQ.hit (thenQ.normal ?_))))
              refine WC.seq ?_
              refine WC.seqR rfl ?_
              refine WL.y rfl (Y.move) ?_
              refine WL.y rfl (Y.move) ?_
              refine WL.y rfl (Y.dT (Y.lss rfl rfl) (by omega)) ?_
              refine WL.y rfl (Y.move) ?_
              refine WL.off rfl ?_
              refine WL.off rfl ?_
              refine WL.y rfl (Y.pickT rfl) ?_
              refine WL.y rfl (Y.move) ?_
              refine WL.off rfl ?_
              refine WL.off rfl ?_
              refine WL.off rfl ?_
              refine WL.off rfl ?_
              refine WL.off rfl ?_
              refine WL.off rfl ?_
              refine WL.y rfl (Y.pickT rfl) ?_
              refine WL.nil ?_
              refine WC.condT (rfl) ?_
              refine WC.seqR rfl ?_
              refine WL.y rfl (Y.assign) ?_
              refine WL.y rfl (Y.assign) ?_
              refine WL.nil ?_
              refine WC.ret (thenQ.ret (endQ.two (.inr rfl) ?_))
              exact ⟨hz h9, rfl⟩
            · by_cases h4 : contR (s.drop i) r (m - 1) > 1114111
              · rw [if_pos (.inr (.inl h4))] at h9
                refine WC.exit (thenQ.exit (thenQ.exit (inBlockQ.hit (thenQ.normal ?_))))
                refine WC.seq ?_
                refine WC.seqR rfl ?_
                refine WL.y rfl (Y.move) ?_
                refine WL.y rfl (Y.move) ?_
                refine WL.y rfl (Y.dF (Y.lss rfl rfl) (by omega)) ?_
                refine WL.y rfl (Y.move) ?_
                refine WL.y rfl (Y.move) ?_
                refine WL.y rfl (Y.dT (Y.gtr rfl rfl) (by omega)) ?_
                refine WL.y rfl (Y.pickF rfl) ?_
                refine WL.y rfl (Y.move) ?_
                refine WL.off rfl ?_
                refine WL.off rfl ?_
                refine WL.off rfl ?_
                refine WL.off rfl ?_
                refine WL.off rfl ?_
                refine WL.off rfl ?_
                refine WL.y rfl (Y.pickT rfl) ?_
                refine WL.nil ?_
                refine WC.condT (rfl) ?_
                refine WC.seqR rfl ?_
                refine WL.y rfl (Y.assign) ?_
                refine WL.y rfl (Y.assign) ?_
                refine WL.nil ?_
                refine WC.ret (thenQ.ret (endQ.two (.inr rfl) ?_))
                exact ⟨hz h9, rfl⟩
              · by_cases h5 : contR (s.drop i) r (m - 1) ≥ 55296
                · by_cases h6 : contR (s.drop i) r (m - 1) < 57344
                  · rw [if_pos (.inr (.inr ⟨h5, h6⟩))] at h9
                    refine WC.exit (thenQ.exit (thenQ.exit (inBlockQ.hit (thenQ.normal ?_))))
                    refine WC.seq ?_
                    refine WC.seqR rfl ?_
                    refine WL.y rfl (Y.move) ?_
                    refine WL.y rfl (Y.move) ?_
                    refine WL.y rfl (Y.dF (Y.lss rfl rfl) (by omega)) ?_
                    refine WL.y rfl (Y.move) ?_
                    refine WL.y rfl (Y.move) ?_
                    refine WL.y rfl (Y.dF (Y.gtr rfl rfl) (by omega)) ?_
                    refine WL.y rfl (Y.pickF rfl) ?_
                    refine WL.y rfl (Y.move) ?_
                    refine WL.y rfl (Y.move) ?_
                    refine WL.y rfl (Y.dT (Y.geq rfl rfl) (by omega)) ?_
                    refine WL.y rfl (Y.move) ?_
                    refine WL.y rfl (Y.move) ?_
                    refine WL.y rfl (Y.dT (Y.lss rfl rfl) (by omega)) ?_
                    refine WL.y rfl (Y.pickT rfl) ?_
                    refine WL.y rfl (Y.pickF rfl) ?_
                    refine WL.nil ?_
                    refine WC.condT (rfl) ?_
                    refine WC.seqR rfl ?_
                    refine WL.y rfl (Y.assign) ?_
                    refine WL.y rfl (Y.assign) ?_
                    refine WL.nil ?_
                    refine WC.ret (thenQ.ret (endQ.two (.inr rfl) ?_))
                    exact ⟨hz h9, rfl⟩
                  · rw [if_neg (by omega)] at h9
                    refine WC.exit (thenQ.exit (thenQ.exit (inBlockQ.hit (thenQ.normal ?_))))
                    refine WC.seq ?_
                    refine WC.seqR rfl ?_
                    refine WL.y rfl (Y.move) ?_
                    refine WL.y rfl (Y.move) ?_
                    refine WL.y rfl (Y.dF (Y.lss rfl rfl) (by omega)) ?_
                    refine WL.y rfl (Y.move) ?_
                    refine WL.y rfl (Y.move) ?_
                    refine WL.y rfl (Y.dF (Y.gtr rfl rfl) (by omega)) ?_
                    refine WL.y rfl (Y.pickF rfl) ?_
                    refine WL.y rfl (Y.move) ?_
                    refine WL.y rfl (Y.move) ?_
                    refine WL.y rfl (Y.dT (Y.geq rfl rfl) (by omega)) ?_
                    refine WL.y rfl (Y.move) ?_
                    refine WL.y rfl (Y.move) ?_
                    refine WL.y rfl (Y.dF (Y.lss rfl rfl) (by omega)) ?_
                    refine WL.y rfl (Y.pickT rfl) ?_
                    refine WL.y rfl (Y.pickF rfl) ?_
                    refine WL.nil ?_
                    refine WC.condF (rfl) ?_
                    refine WC.skip (thenQ.normal ?_)
                    refine WC.seqR rfl ?_
                    refine WL.y rfl (Y.move) ?_
                    refine WL.y rfl (Y.move) ?_
                    refine WL.y rfl (Y.assign) ?_
                    refine WL.y rfl (Y.assign) ?_
                    refine WL.nil ?_
                    refine WC.ret (endQ.two (.inr rfl) ?_)
                    exact ⟨hg h9 (Int.toNat_of_nonneg h90), rfl⟩
                · rw [if_neg (by omega)] at h9
                  refine WC.exit (thenQ.exit (thenQ.exit (inBlockQ.hit (thenQ.normal ?_))))
                  refine WC.seq ?_
                  refine WC.seqR rfl ?_
                  refine WL.y rfl (Y.move) ?_
                  refine WL.y rfl (Y.move) ?_
                  refine WL.y rfl (Y.dF (Y.lss rfl rfl) (by omega)) ?_
                  refine WL.y rfl (Y.move) ?_
                  refine WL.y rfl (Y.move) ?_
                  refine WL.y rfl (Y.dF (Y.gtr rfl rfl) (by omega)) ?_
                  refine WL.y rfl (Y.pickF rfl) ?_
                  refine WL.y rfl (Y.move) ?_
                  refine WL.y rfl (Y.move) ?_
                  refine WL.y rfl (Y.dF (Y.geq rfl rfl) (by omega)) ?_
                  refine WL.y rfl (Y.move) ?_
                  refine WL.off rfl ?_
                  refine WL.off rfl ?_
                  refine WL.y rfl (Y.pickF rfl) ?_
                  refine WL.y rfl (Y.pickF rfl) ?_
                  refine WL.nil ?_
                  refine WC.condF (rfl) ?_
                  refine WC.skip (thenQ.normal ?_)
                  refine WC.seqR rfl ?_
                  refine WL.y rfl (Y.move) ?_
                  refine WL.y rfl (Y.move) ?_
                  refine WL.y rfl (Y.assign) ?_
                  refine WL.y rfl (Y.assign) ?_
                  refine WL.nil ?_
                  refine WC.ret (endQ.two (.inr rfl) ?_)
                  exact ⟨hg h9 (Int.toNat_of_nonneg h90), rfl⟩
theorem valid_ret (w : World) (s : List UInt8) (hs : s.length ≤ 2305843009213693952) :
    Ret Tryd.prog 56 [strv s].toArray w fun v w' => v = .bool (Lib.validD s) ∧ w = w' := by
  refine Ret.of (n := 21) (rs := #[.tmp 2]) Tryd.func56 rfl rfl rfl (by simp) ?_
  refine WC.seqR rfl ?_
  refine WL.y rfl (Y.assign) ?_
  refine WL.nil ?_
  refine WC.seq ?_
  refine WC.seqR rfl ?_
  refine WL.y rfl (Y.assign) ?_
  refine WL.nil ?_
  refine WC.block ?_
  refine WC.loop (fun i => s.length - i) (fun i f ds w' => i ≤ s.length ∧ ds = [] ∧ w = w' ∧ Lib.validD s = Lib.validD (s.drop i) ∧ ∃ J, f = ov J [(0, strv s), (3, .int .i64 (i : Int))]) 0 ?_ ?_
  · exact ⟨by omega, rfl, rfl, rfl, _, ov_mk ⟨rfl, rfl, trivial⟩⟩
  · rintro i _ _ _ ⟨hi, rfl, rfl, hv, J, rfl⟩
    refine WC.seq ?_
    refine WC.seqR rfl ?_
    refine WL.y rfl (Y.move) ?_
    refine WL.y rfl (Y.move) ?_
    refine WL.y rfl (Y.lenS Tryd.underlying9 rfl _) ?_
    refine WL.y rfl (Y.lss rfl rfl) ?_
    refine WL.nil ?_
    refine WC.condD rfl (fun h0 => ?_) (fun h0 => ?_)
    · have hne : s.drop i ≠ [] := by
        intro e
        have := List.drop_eq_nil_iff.mp e
        omega
      have hst := validD_atL _ hne
      have hle := atL_le (s.drop i)
      have hdl : (s.drop i).length = s.length - i := List.length_drop
      refine WC.skip (thenQ.normal ?_)
      refine WC.block ?_
      refine WC.seqR rfl ?_
      refine WL.y rfl (Y.move) ?_
      refine WL.y rfl (Y.move) ?_
      refine WL.call rfl (C.func go81) (at_ret _ s i (by omega) (by omega)) ?_
      rintro _ _ ⟨rfl, rfl⟩
      refine WL.y rfl (Y.move) ?_
      refine WL.y rfl (Y.extract rfl rfl) ?_
      refine WL.y rfl (Y.extract rfl rfl) ?_
      refine WL.y rfl (Y.assign) ?_
      refine WL.y rfl (Y.assign) ?_
      refine WL.nil ?_
      refine WC.seq ?_
      refine WC.seqR rfl ?_
      refine WL.y rfl (Y.move) ?_
      refine WL.y rfl (Y.eqi rfl rfl) ?_
      refine WL.nil ?_
      refine WC.condD rfl (fun h1 => ?_) (fun h1 => ?_)
      · rw [if_pos (by omega)] at hst
        refine WC.seqR rfl ?_
        refine WL.y rfl (Y.assign) ?_
        refine WL.nil ?_
        refine WC.ret (thenQ.ret (inBlockQ.ret (thenQ.ret (inBlockQ.ret (thenQ.ret (endQ.one (.inr rfl) ?_))))))
        exact ⟨congrArg Value.bool (hv.trans hst).symm, rfl⟩
      · rw [if_neg (by omega), List.drop_drop] at hst
        refine WC.skip (thenQ.normal ?_)
        refine WC.region rfl ?_
        refine WL.y rfl (Y.move) ?_
        refine WL.y rfl (Y.move) ?_
        refine WL.y rfl (Y.add64 rfl rfl (by omega)) ?_
        refine WL.y rfl (Y.assign) ?_
        refine WL.nil (inBlockQ.normal (thenQ.normal ?_))
        exact ⟨i + (atL (s.drop i)).2, by omega, by omega, rfl, rfl, hv.trans hst, _, ov_mk ⟨rfl, rfl, trivial⟩⟩
    · have e : s.drop i = [] := List.drop_eq_nil_of_le (by omega)
      rw [e] at hv
      refine WC.exit (thenQ.exit (thenQ.exit (inBlockQ.hit (thenQ.normal ?_))))
      refine WC.seqR rfl ?_
      refine WL.y rfl (Y.assign) ?_
      refine WL.nil ?_
      refine WC.ret (endQ.one (.inr rfl) ?_)
      exact ⟨congrArg Value.bool (hv.trans Lib.validD_nil).symm, rfl⟩
end Go.Proofs.YthcppegkpkgnpaaDoor
