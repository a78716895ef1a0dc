/-
  ref01: Bytes, Code, hex: walks.
-/
import Derived.Test.YtgdemkchfemmpaaDoorQt7
import Derived.Test.YtgdemkchfemmpaaDoorBase9
namespace Go.Proofs.YtgdemkchfemmpaaDoor
open Go Go.RowKit Go.Cx
set_option linter.unusedVariables false
set_option maxHeartbeats 4000000
theorem enc_cells (r : Nat) : (Lib.encodeRune (r : Int)).map u8v = (Lib.encodeRuneZ (r : Int)).map fun x => Value.int .u8 x := Lib.byteCells_encodeRune (r : Int)
theorem sl_enc {w : World} {v : Value} {n : Nat} {cs : List Value} {r : Nat} (h : SlK w 1 v n cs) (e : cs = (Lib.encodeRuneZ (r : Int)).map fun x => Value.int .u8 x) : SlK w 1 v (Lib.encodeRune (r : Int)).length ((Lib.encodeRune (r : Int)).map u8v) := by
  rw [enc_cells, ← e]
  have h1 : cs.length = n * 1 := h.1
  have : (Lib.encodeRune (r : Int)).length = n := by
    have := congrArg List.length e
    rw [List.length_map] at this
    have h2 : (Lib.encodeRune (r : Int)).length = (Lib.encodeRuneZ (r : Int)).length := by unfold Lib.encodeRune; rw [List.length_map]
    omega
  rw [this]
  exact h
theorem bytes_ret (w : World) (r : Nat) (h : okR r) : Ret Tryd.prog 17 [.int .i64 (r : Int)].toArray w fun v w' => v = strv (Lib.encodeRune (r : Int)) ∧ Below w.heap.size w w' := by
  unfold okR at h
  obtain ⟨hr1, hr2⟩ := h
  refine Ret.of (n := 61) (rs := #[.tmp 2]) Tryd.func17 rfl rfl rfl (by simp) ?_
  refine WC.seqR rfl ?_
  refine WL.y rfl (Y.assign) ?_
  refine WL.nil ?_
  refine WC.seq ?_
  refine WC.block ?_
  refine WC.seqR rfl ?_
  refine WL.y rfl (Y.move) ?_
  refine WL.y rfl (Y.lss rfl rfl) ?_
  refine WL.y rfl (Y.assign) ?_
  refine WL.nil ?_
  refine WC.condD rfl (fun h1 => ?_) (fun h1 => ?_)
  · have e : ([.int .u8 (r : Int)] : List Value) = (Lib.encodeRuneZ (r : Int)).map fun x => Value.int .u8 x := by rw [Lib.encodeRuneZ_one (by omega) (by omega)]; rfl
    refine WC.seqR rfl ?_
    refine WL.y rfl (Y.move) ?_
    refine WL.y rfl (Y.conviR Tryd.underlying3 Tryd.underlying5 rfl (by show (0 : Int) ≤ _ ∧ _ ≤ (255 : Int); omega)) ?_
    refine WL.eex rfl (E.buildSliceX (len := 1) (cs := [.int .u8 (r : Int)]) Tryd.underlying49 ti5 (by omega) (by omega) (by kernel_rfl) rfl) ?_
    rintro v8 w8 ⟨-, ho8, hb8, -⟩
    refine WL.y rfl (Y.b2s Tryd.underlying49 Tryd.underlying5 Tryd.underlying9 (sl_enc (ownsRow_sl ho8) e)) ?_
    refine WL.y rfl (Y.assign) ?_
    refine WL.nil ?_
    refine WC.ret (inBlockQ.ret (thenQ.ret (endQ.one (.inr rfl) ?_)))
    exact ⟨rfl, hb8⟩
  · refine WC.seqR rfl ?_
    refine WL.y rfl (Y.move) ?_
    refine WL.y rfl (Y.lss rfl rfl) ?_
    refine WL.y rfl (Y.assign) ?_
    refine WL.nil ?_
    refine WC.condD rfl (fun h2 => ?_) (fun h2 => ?_)
    · have e : ([.int .u8 (192 + (r : Int) / 64), .int .u8 (128 + (r : Int) % 64)] : List Value) = (Lib.encodeRuneZ (r : Int)).map fun x => Value.int .u8 x := by rw [Lib.encodeRuneZ_two (by omega) (by omega)]; rfl
      refine WC.seqR rfl ?_
      refine WL.y rfl (Y.move) ?_
      refine WL.y rfl (Y.quo64 rfl rfl (by omega) (by omega)) ?_
      refine WL.y rfl (Y.add64 rfl rfl (by omega)) ?_
      refine WL.y rfl (Y.conviR Tryd.underlying3 Tryd.underlying5 rfl (by show (0 : Int) ≤ _ ∧ _ ≤ (255 : Int); omega)) ?_
      refine WL.y rfl (Y.move) ?_
      refine WL.y rfl (Y.rem rfl rfl (by omega) (by omega)) ?_
      refine WL.y rfl (Y.add64 rfl rfl (by omega)) ?_
      refine WL.y rfl (Y.conviR Tryd.underlying3 Tryd.underlying5 rfl (by show (0 : Int) ≤ _ ∧ _ ≤ (255 : Int); omega)) ?_
      refine WL.eex rfl (E.buildSliceX (len := 2) (cs := [.int .u8 (192 + (r : Int) / 64), .int .u8 (128 + (r : Int) % 64)]) Tryd.underlying49 ti5 (by omega) (by omega) (by kernel_rfl) rfl) ?_
      rintro v8 w8 ⟨-, ho8, hb8, -⟩
      refine WL.y rfl (Y.b2s Tryd.underlying49 Tryd.underlying5 Tryd.underlying9 (sl_enc (ownsRow_sl ho8) e)) ?_
      refine WL.y rfl (Y.assign) ?_
      refine WL.nil ?_
      refine WC.ret (inBlockQ.ret (thenQ.ret (endQ.one (.inr rfl) ?_)))
      exact ⟨rfl, hb8⟩
    · refine WC.seqR rfl ?_
      refine WL.y rfl (Y.move) ?_
      refine WL.y rfl (Y.lss rfl rfl) ?_
      refine WL.y rfl (Y.assign) ?_
      refine WL.nil ?_
      refine WC.condD rfl (fun h3 => ?_) (fun h3 => ?_)
      · have e : ([.int .u8 (224 + (r : Int) / 4096), .int .u8 (128 + (r : Int) / 64 % 64), .int .u8 (128 + (r : Int) % 64)] : List Value) = (Lib.encodeRuneZ (r : Int)).map fun x => Value.int .u8 x := by rw [Lib.encodeRuneZ_three (by omega)]; rfl
        refine WC.seqR rfl ?_
        refine WL.y rfl (Y.move) ?_
        refine WL.y rfl (Y.quo64 rfl rfl (by omega) (by omega)) ?_
        refine WL.y rfl (Y.add64 rfl rfl (by omega)) ?_
        refine WL.y rfl (Y.conviR Tryd.underlying3 Tryd.underlying5 rfl (by show (0 : Int) ≤ _ ∧ _ ≤ (255 : Int); omega)) ?_
        refine WL.y rfl (Y.move) ?_
        refine WL.y rfl (Y.quo64 rfl rfl (by omega) (by omega)) ?_
        refine WL.y rfl (Y.rem rfl rfl (by omega) (by omega)) ?_
        refine WL.y rfl (Y.add64 rfl rfl (by omega)) ?_
        refine WL.y rfl (Y.conviR Tryd.underlying3 Tryd.underlying5 rfl (by show (0 : Int) ≤ _ ∧ _ ≤ (255 : Int); omega)) ?_
        refine WL.y rfl (Y.move) ?_
        refine WL.y rfl (Y.rem rfl rfl (by omega) (by omega)) ?_
        refine WL.y rfl (Y.add64 rfl rfl (by omega)) ?_
        refine WL.y rfl (Y.conviR Tryd.underlying3 Tryd.underlying5 rfl (by show (0 : Int) ≤ _ ∧ _ ≤ (255 : Int); omega)) ?_
        refine WL.eex rfl (E.buildSliceX (len := 3) (cs := [.int .u8 (224 + (r : Int) / 4096), .int .u8 (128 + (r : Int) / 64 % 64), .int .u8 (128 + (r : Int) % 64)]) Tryd.underlying49 ti5 (by omega) (by omega) (by kernel_rfl) rfl) ?_
        rintro v8 w8 ⟨-, ho8, hb8, -⟩
        refine WL.y rfl (Y.b2s Tryd.underlying49 Tryd.underlying5 Tryd.underlying9 (sl_enc (ownsRow_sl ho8) e)) ?_
        refine WL.y rfl (Y.assign) ?_
        refine WL.nil ?_
        refine WC.ret (inBlockQ.ret (thenQ.ret (endQ.one (.inr rfl) ?_)))
        exact ⟨rfl, hb8⟩
      · have e : ([.int .u8 (240 + (r : Int) / 262144), .int .u8 (128 + (r : Int) / 4096 % 64), .int .u8 (128 + (r : Int) / 64 % 64), .int .u8 (128 + (r : Int) % 64)] : List Value) = (Lib.encodeRuneZ (r : Int)).map fun x => Value.int .u8 x := by rw [Lib.encodeRuneZ_four (by omega) (by omega)]; rfl
        refine WC.skip (inBlockQ.normal (thenQ.normal ?_))
        refine WC.seqR rfl ?_
        refine WL.y rfl (Y.move) ?_
        refine WL.y rfl (Y.quo64 rfl rfl (by omega) (by omega)) ?_
        refine WL.y rfl (Y.add64 rfl rfl (by omega)) ?_
        refine WL.y rfl (Y.conviR Tryd.underlying3 Tryd.underlying5 rfl (by show (0 : Int) ≤ _ ∧ _ ≤ (255 : Int); omega)) ?_
        refine WL.y rfl (Y.move) ?_
        refine WL.y rfl (Y.quo64 rfl rfl (by omega) (by omega)) ?_
        refine WL.y rfl (Y.rem rfl rfl (by omega) (by omega)) ?_
        refine WL.y rfl (Y.add64 rfl rfl (by omega)) ?_
        refine WL.y rfl (Y.conviR Tryd.underlying3 Tryd.underlying5 rfl (by show (0 : Int) ≤ _ ∧ _ ≤ (255 : Int); omega)) ?_
        refine WL.y rfl (Y.move) ?_
        refine WL.y rfl (Y.quo64 rfl rfl (by omega) (by omega)) ?_
        refine WL.y rfl (Y.rem rfl rfl (by omega) (by omega)) ?_
        refine WL.y rfl (Y.add64 rfl rfl (by omega)) ?_
        refine WL.y rfl (Y.conviR Tryd.underlying3 Tryd.underlying5 rfl (by show (0 : Int) ≤ _ ∧ _ ≤ (255 : Int); omega)) ?_
        refine WL.y rfl (Y.move) ?_
        refine WL.y rfl (Y.rem rfl rfl (by omega) (by omega)) ?_
        refine WL.y rfl (Y.add64 rfl rfl (by omega)) ?_
        refine WL.y rfl (Y.conviR Tryd.underlying3 Tryd.underlying5 rfl (by show (0 : Int) ≤ _ ∧ _ ≤ (255 : Int); omega)) ?_
        refine WL.eex rfl (E.buildSliceX (len := 4) (cs := [.int .u8 (240 + (r : Int) / 262144), .int .u8 (128 + (r : Int) / 4096 % 64), .int .u8 (128 + (r : Int) / 64 % 64), .int .u8 (128 + (r : Int) % 64)]) Tryd.underlying49 ti5 (by omega) (by omega) (by kernel_rfl) rfl) ?_
        rintro v8 w8 ⟨-, ho8, hb8, -⟩
        refine WL.y rfl (Y.b2s Tryd.underlying49 Tryd.underlying5 Tryd.underlying9 (sl_enc (ownsRow_sl ho8) e)) ?_
        refine WL.y rfl (Y.assign) ?_
        refine WL.nil ?_
        refine WC.ret (endQ.one (.inr rfl) ?_)
        exact ⟨rfl, hb8⟩
def codes : List Nat := [34, 92, 47, 8, 12, 10, 13, 9]
def i64v (n : Nat) : Value := .int .i64 (n : Int)
theorem code_ret (w : World) (k : Nat) (hk : k < 8) : Ret Tryd.prog 29 [.int .i64 (k : Int)].toArray w fun v w' => v = i64v (codes.getD k 0) ∧ Below w.heap.size w w' := by
  refine Ret.of (n := 7) (rs := #[.tmp 2]) Tryd.func29 rfl rfl rfl (by simp) ?_
  refine WC.seqR rfl ?_
  refine WL.y rfl (Y.assign) ?_
  refine WL.nil ?_
  refine WC.seqR rfl ?_
  refine WL.eex rfl (E.buildSliceX (len := 8) (cs := codes.map i64v) Tryd.underlying38 ti3 (by omega) (by omega) (by kernel_rfl) rfl) ?_
  rintro v3 w3 ⟨-, ho3, hb3, -⟩
  refine WL.y rfl (Y.move) ?_
  refine WL.yex rfl (Y.idx1 Tryd.underlying38 ti3 (ownsRow_sl ho3) rfl (by omega) (by show (k : Int) < 8; omega)) ?_
  rintro _ ⟨p5, rfl, hp5⟩
  refine WL.y rfl (Y.load1 Tryd.underlying3 rfl rfl (hp5.trans (show (codes.map i64v)[(k : Int).toNat]? = some (i64v (codes.getD k 0)) by rw [Int.toNat_natCast, List.getElem?_map, List.getD_eq_getElem?_getD, List.getElem?_eq_getElem (show k < codes.length from hk)]; rfl))) ?_
  refine WL.y rfl (Y.assign) ?_
  refine WL.nil ?_
  refine WC.ret (endQ.one (.inr rfl) ?_)
  exact ⟨rfl, hb3⟩
/-- the number of an escape, below 0: none -/
def hexI (l : List UInt8) : Int := match hexL l with | some n => n | none => -1
theorem hex_ret (w : World) (s : List UInt8) (i : Nat) (hi : i ≤ 4611686018427387904) (hs : s.length ≤ 4611686018427387904) : Ret Tryd.prog 34 [strv s, .int .i64 (i : Int)].toArray w fun v w' => v = .int .i64 (hexI (s.drop i)) ∧ w = w' := by
  have hdl : (s.drop i).length = s.length - i := List.length_drop
  have hb0 : bt (s.drop i) 0 = (s.getD i 0).toNat := bt_drop s i 0
  have hb1 : bt (s.drop i) 1 = (s.getD (i + 1) 0).toNat := bt_drop s i 1
  have hx : ¬ (6 ≤ (s.drop i).length ∧ bt (s.drop i) 0 = 92 ∧ bt (s.drop i) 1 = 117) → Value.int .i64 (-1) = Value.int .i64 (hexI (s.drop i)) := fun h => by unfold hexI hexL; rw [if_neg h]
  by_cases h0 : i + 6 ≤ s.length
  · by_cases h1 : bt (s.drop i) 0 = 92
    · by_cases h2 : bt (s.drop i) 1 = 117
      · have e : hexL (s.drop i) = hexF (s.drop i) 4 := by unfold hexL; rw [if_pos ⟨by omega, h1, h2⟩]
        clear hx
        have hneg : hexF (s.drop i) 4 = none → Value.int .i64 (-1) = Value.int .i64 (hexI (s.drop i)) := fun h => by unfold hexI; rw [e, h]
        have hpos : ∀ {n : Nat}, hexF (s.drop i) 4 = some n → Value.int .i64 (n : Int) = Value.int .i64 (hexI (s.drop i)) := fun h => by unfold hexI; rw [e, h]
        refine Ret.of (n := 73) (rs := #[.tmp 4]) Tryd.func34 rfl rfl rfl (by simp) ?_
        refine WC.seqR rfl ?_
        refine WL.y rfl (Y.assign) ?_
        refine WL.nil ?_
        refine WC.seq ?_
        refine WC.seqR rfl ?_
        refine WL.y rfl (Y.move) ?_
        refine WL.y rfl (Y.add64 rfl rfl (by omega)) ?_
        refine WL.y rfl (Y.move) ?_
        refine WL.y rfl (Y.lenS Tryd.underlying9 rfl _) ?_
        refine WL.y rfl (Y.dF (Y.gtr rfl rfl) (by omega)) ?_
        refine WL.y rfl (Y.move) ?_
        refine WL.y rfl (Y.move) ?_
        refine WL.y rfl (Y.move) ?_
        refine WL.y rfl (Y.idxN _ Tryd.underlying9 rfl rfl rfl (by omega) _) ?_
        refine WL.y rfl (Y.dF (Y.nei rfl rfl) (by omega)) ?_
        refine WL.y rfl (Y.pickF rfl) ?_
        refine WL.y rfl (Y.move) ?_
        refine WL.y rfl (Y.move) ?_
        refine WL.y rfl (Y.move) ?_
        refine WL.y rfl (Y.add64 rfl rfl (by omega)) ?_
        refine WL.y rfl (Y.idxN (i+1) Tryd.underlying9 rfl rfl (by omega) (by omega) _) ?_
        refine WL.y rfl (Y.dF (Y.nei rfl rfl) (by omega)) ?_
        refine WL.y rfl (Y.pickF rfl) ?_
        refine WL.nil ?_
        refine WC.condF (rfl) ?_
        refine WC.skip (thenQ.normal ?_)
        refine WC.seqR rfl ?_
        refine WL.y rfl (Y.assign) ?_
        refine WL.nil ?_
        refine WC.seq ?_
        refine WC.seqR rfl ?_
        refine WL.y rfl (Y.assign) ?_
        refine WL.nil ?_
        refine WC.block ?_
        refine WC.loop (fun k => 4 - k) (fun k f ds w' => k ≤ 4 ∧ ds = [] ∧ w = w' ∧ ∃ n J, hexF (s.drop i) k = some n ∧ f = ov J [(0, strv s), (1, .int .i64 (i : Int)), (5, .int .i64 (n : Int)), (6, .int .i64 ((k + 2 : Nat) : Int))]) 0 ?_ ?_
        · exact ⟨by omega, rfl, rfl, 0, _, rfl, ov_mk ⟨rfl, rfl, rfl, rfl, trivial⟩⟩
        · rintro k _ _ _ ⟨hk, rfl, rfl, n, J, hn, rfl⟩
          have hlt := hexF_lt _ k n hn
          refine WC.seq ?_
          refine WC.seqR rfl ?_
          refine WL.y rfl (Y.move) ?_
          refine WL.y rfl (Y.lss rfl rfl) ?_
          refine WL.nil ?_
          refine WC.condD rfl (fun h3 => ?_) (fun h3 => ?_)
          · have hk4 : k = 0 ∨ k = 1 ∨ k = 2 ∨ k = 3 := by omega
            have hlt2 : n < 4096 := by rcases hk4 with rfl | rfl | rfl | rfl <;> simp only [Nat.reducePow] at hlt <;> omega
            have hbk : bt (s.drop i) (k + 2) = (s.getD (i + (k + 2)) 0).toNat := bt_drop s i (k + 2)
            have hbl := bt_lt (s.drop i) (k + 2)
            have hst : hexF (s.drop i) (k + 1) = match dig (bt (s.drop i) (k + 2)) with | none => none | some d => some (16 * n + d) := by
              simp only [hexF, hn]
              cases dig (bt (s.drop i) (k + 2)) <;> rfl
            have hgo : ∀ {d : Nat} {z : Int}, dig (bt (s.drop i) (k + 2)) = some d → ((16 * n + d : Nat) : Int) = z → hexF (s.drop i) (k + 1) = some (16 * n + d) ∧ Value.int .i64 z = Value.int .i64 ((16 * n + d : Nat) : Int) := fun h1 h2 => ⟨by rw [hst, h1], by rw [h2]⟩
            generalize bt (s.drop i) (k + 2) = c at *
            by_cases c1 : 48 ≤ c
            · by_cases c2 : c < 58
              · have hd : dig c = some (c - 48) := by unfold dig; rw [if_pos ⟨c1, c2⟩]
                refine WC.skip (thenQ.normal ?_)
                refine WC.seq ?_
                refine WC.block ?_
                refine WC.seqR rfl ?_
                refine WL.y rfl (Y.move) ?_
                refine WL.y rfl (Y.move) ?_
                refine WL.y rfl (Y.move) ?_
                refine WL.y rfl (Y.add64 rfl rfl (by omega)) ?_
                refine WL.y rfl (Y.idxN (i+(k+2)) Tryd.underlying9 rfl rfl (by omega) (by omega) _) ?_
                refine WL.y rfl (Y.u8i Tryd.underlying5 Tryd.underlying3 rfl) ?_
                refine WL.y rfl (Y.assign) ?_
                refine WL.nil ?_
                refine WC.block ?_
                refine WC.seqR rfl ?_
                refine WL.y rfl (Y.move) ?_
                refine WL.y rfl (Y.dT (Y.geq rfl rfl) (by omega)) ?_
                refine WL.y rfl (Y.move) ?_
                refine WL.y rfl (Y.move) ?_
                refine WL.y rfl (Y.dT (Y.lss rfl rfl) (by omega)) ?_
                refine WL.y rfl (Y.pickT rfl) ?_
                refine WL.y rfl (Y.assign) ?_
                refine WL.nil ?_
                refine WC.condT (rfl) ?_
                refine WC.region rfl ?_
                refine WL.y rfl (Y.move) ?_
                refine WL.y rfl (Y.mul64 rfl rfl (by omega)) ?_
                refine WL.y rfl (Y.move) ?_
                refine WL.y rfl (Y.add64 rfl rfl (by omega)) ?_
                refine WL.y rfl (Y.sub64 rfl rfl (by omega)) ?_
                refine WL.y rfl (Y.assign) ?_
                refine WL.nil (inBlockQ.normal (inBlockQ.normal (thenQ.normal ?_)))
                refine WC.region rfl ?_
                refine WL.y rfl (Y.move) ?_
                refine WL.y rfl (Y.add64 rfl rfl (by omega)) ?_
                refine WL.y rfl (Y.assign) ?_
                refine WL.nil (thenQ.normal ?_)
                have hq := hgo (z := 16 * (n : Int) + ((s.getD (i + (k + 2)) 0).toNat : Int) - 48) hd (by omega)
                exact ⟨k + 1, by omega, by omega, rfl, rfl, _, _, hq.1, ov_mk ⟨rfl, rfl, hq.2, rfl, trivial⟩⟩
              · by_cases c3 : 97 ≤ c
                · by_cases c4 : c < 103
                  · have hd : dig c = some (c - 87) := by unfold dig; rw [if_neg (by omega), if_pos ⟨c3, c4⟩]
                    refine WC.skip (thenQ.normal ?_)
                    refine WC.seq ?_
                    refine WC.block ?_
                    refine WC.seqR rfl ?_
                    refine WL.y rfl (Y.move) ?_
                    refine WL.y rfl (Y.move) ?_
                    refine WL.y rfl (Y.move) ?_
                    refine WL.y rfl (Y.add64 rfl rfl (by omega)) ?_
                    refine WL.y rfl (Y.idxN (i+(k+2)) Tryd.underlying9 rfl rfl (by omega) (by omega) _) ?_
                    refine WL.y rfl (Y.u8i Tryd.underlying5 Tryd.underlying3 rfl) ?_
                    refine WL.y rfl (Y.assign) ?_
                    refine WL.nil ?_
                    refine WC.block ?_
                    refine WC.seqR rfl ?_
                    refine WL.y rfl (Y.move) ?_
                    refine WL.y rfl (Y.dT (Y.geq rfl rfl) (by omega)) ?_
                    refine WL.y rfl (Y.move) ?_
                    refine WL.y rfl (Y.move) ?_
                    refine WL.y rfl (Y.dF (Y.lss rfl rfl) (by omega)) ?_
                    refine WL.y rfl (Y.pickT rfl) ?_
                    refine WL.y rfl (Y.assign) ?_
                    refine WL.nil ?_
                    refine WC.condF (rfl) ?_
                    refine WC.seqR rfl ?_
                    refine WL.y rfl (Y.move) ?_
                    refine WL.y rfl (Y.dT (Y.geq rfl rfl) (by omega)) ?_
                    refine WL.y rfl (Y.move) ?_
                    refine WL.y rfl (Y.move) ?_
                    refine WL.y rfl (Y.dT (Y.lss rfl rfl) (by omega)) ?_
                    refine WL.y rfl (Y.pickT rfl) ?_
                    refine WL.y rfl (Y.assign) ?_
                    refine WL.nil ?_
                    refine WC.condT (rfl) ?_
                    refine WC.region rfl ?_
                    refine WL.y rfl (Y.move) ?_
                    refine WL.y rfl (Y.mul64 rfl rfl (by omega)) ?_
                    refine WL.y rfl (Y.move) ?_
                    refine WL.y rfl (Y.add64 rfl rfl (by omega)) ?_
                    refine WL.y rfl (Y.sub64 rfl rfl (by omega)) ?_
                    refine WL.y rfl (Y.assign) ?_
                    refine WL.nil (inBlockQ.normal (inBlockQ.normal (thenQ.normal ?_)))
                    refine WC.region rfl ?_
                    refine WL.y rfl (Y.move) ?_
                    refine WL.y rfl (Y.add64 rfl rfl (by omega)) ?_
                    refine WL.y rfl (Y.assign) ?_
                    refine WL.nil (thenQ.normal ?_)
                    have hq := hgo (z := 16 * (n : Int) + ((s.getD (i + (k + 2)) 0).toNat : Int) - 87) hd (by omega)
                    exact ⟨k + 1, by omega, by omega, rfl, rfl, _, _, hq.1, ov_mk ⟨rfl, rfl, hq.2, rfl, trivial⟩⟩
                  · have hd : dig c = none := by unfold dig; rw [if_neg (by omega), if_neg (by omega), if_neg (by omega)]
                    refine WC.skip (thenQ.normal ?_)
                    refine WC.seq ?_
                    refine WC.block ?_
                    refine WC.seqR rfl ?_
                    refine WL.y rfl (Y.move) ?_
                    refine WL.y rfl (Y.move) ?_
                    refine WL.y rfl (Y.move) ?_
                    refine WL.y rfl (Y.add64 rfl rfl (by omega)) ?_
                    refine WL.y rfl (Y.idxN (i+(k+2)) Tryd.underlying9 rfl rfl (by omega) (by omega) _) ?_
                    refine WL.y rfl (Y.u8i Tryd.underlying5 Tryd.underlying3 rfl) ?_
                    refine WL.y rfl (Y.assign) ?_
                    refine WL.nil ?_
                    refine WC.block ?_
                    refine WC.seqR rfl ?_
                    refine WL.y rfl (Y.move) ?_
                    refine WL.y rfl (Y.dT (Y.geq rfl rfl) (by omega)) ?_
                    refine WL.y rfl (Y.move) ?_
                    refine WL.y rfl (Y.move) ?_
                    refine WL.y rfl (Y.dF (Y.lss rfl rfl) (by omega)) ?_
                    refine WL.y rfl (Y.pickT rfl) ?_
                    refine WL.y rfl (Y.assign) ?_
                    refine WL.nil ?_
                    refine WC.condF (rfl) ?_
                    refine WC.seqR rfl ?_
                    refine WL.y rfl (Y.move) ?_
                    refine WL.y rfl (Y.dT (Y.geq rfl rfl) (by omega)) ?_
                    refine WL.y rfl (Y.move) ?_
                    refine WL.y rfl (Y.move) ?_
                    refine WL.y rfl (Y.dF (Y.lss rfl rfl) (by omega)) ?_
                    refine WL.y rfl (Y.pickT rfl) ?_
                    refine WL.y rfl (Y.assign) ?_
                    refine WL.nil ?_
                    refine WC.condF (rfl) ?_
                    refine WC.seqR rfl ?_
                    refine WL.y rfl (Y.move) ?_
                    refine WL.y rfl (Y.dT (Y.geq rfl rfl) (by omega)) ?_
                    refine WL.y rfl (Y.move) ?_
                    refine WL.y rfl (Y.move) ?_
                    refine WL.y rfl (Y.dF (Y.lss rfl rfl) (by omega)) ?_
                    refine WL.y rfl (Y.pickT rfl) ?_
                    refine WL.y rfl (Y.assign) ?_
                    refine WL.nil ?_
                    refine WC.condF (rfl) ?_
                    refine WC.seqR rfl ?_
                    refine WL.y rfl (Y.assign) ?_
                    refine WL.nil ?_
                    refine WC.ret (inBlockQ.ret (inBlockQ.ret (thenQ.ret (thenQ.ret (inBlockQ.ret (thenQ.ret (endQ.one (.inr rfl) ?_)))))))
                    have hnn : hexF (s.drop i) 4 = none := by rw [hd] at hst; have := hexF_none _ hst (3 - k); rwa [show k + 1 + (3 - k) = 4 by omega] at this
                    exact ⟨hneg hnn, rfl⟩
                · by_cases c4 : 65 ≤ c
                  · by_cases c5 : c < 71
                    · have hd : dig c = some (c - 55) := by unfold dig; rw [if_neg (by omega), if_neg (by omega), if_pos ⟨c4, c5⟩]
                      refine WC.skip (thenQ.normal ?_)
                      refine WC.seq ?_
                      refine WC.block ?_
                      refine WC.seqR rfl ?_
                      refine WL.y rfl (Y.move) ?_
                      refine WL.y rfl (Y.move) ?_
                      refine WL.y rfl (Y.move) ?_
                      refine WL.y rfl (Y.add64 rfl rfl (by omega)) ?_
                      refine WL.y rfl (Y.idxN (i+(k+2)) Tryd.underlying9 rfl rfl (by omega) (by omega) _) ?_
                      refine WL.y rfl (Y.u8i Tryd.underlying5 Tryd.underlying3 rfl) ?_
                      refine WL.y rfl (Y.assign) ?_
                      refine WL.nil ?_
                      refine WC.block ?_
                      refine WC.seqR rfl ?_
                      refine WL.y rfl (Y.move) ?_
                      refine WL.y rfl (Y.dT (Y.geq rfl rfl) (by omega)) ?_
                      refine WL.y rfl (Y.move) ?_
                      refine WL.y rfl (Y.move) ?_
                      refine WL.y rfl (Y.dF (Y.lss rfl rfl) (by omega)) ?_
                      refine WL.y rfl (Y.pickT rfl) ?_
                      refine WL.y rfl (Y.assign) ?_
                      refine WL.nil ?_
                      refine WC.condF (rfl) ?_
                      refine WC.seqR rfl ?_
                      refine WL.y rfl (Y.move) ?_
                      refine WL.y rfl (Y.dF (Y.geq rfl rfl) (by omega)) ?_
                      refine WL.y rfl (Y.move) ?_
                      refine WL.off rfl ?_
                      refine WL.off rfl ?_
                      refine WL.y rfl (Y.pickF rfl) ?_
                      refine WL.y rfl (Y.assign) ?_
                      refine WL.nil ?_
                      refine WC.condF (rfl) ?_
                      refine WC.seqR rfl ?_
                      refine WL.y rfl (Y.move) ?_
                      refine WL.y rfl (Y.dT (Y.geq rfl rfl) (by omega)) ?_
                      refine WL.y rfl (Y.move) ?_
                      refine WL.y rfl (Y.move) ?_
                      refine WL.y rfl (Y.dT (Y.lss rfl rfl) (by omega)) ?_
                      refine WL.y rfl (Y.pickT rfl) ?_
                      refine WL.y rfl (Y.assign) ?_
                      refine WL.nil ?_
                      refine WC.condT (rfl) ?_
                      refine WC.region rfl ?_
                      refine WL.y rfl (Y.move) ?_
                      refine WL.y rfl (Y.mul64 rfl rfl (by omega)) ?_
                      refine WL.y rfl (Y.move) ?_
                      refine WL.y rfl (Y.add64 rfl rfl (by omega)) ?_
                      refine WL.y rfl (Y.sub64 rfl rfl (by omega)) ?_
                      refine WL.y rfl (Y.assign) ?_
                      refine WL.nil (inBlockQ.normal (inBlockQ.normal (thenQ.normal ?_)))
                      refine WC.region rfl ?_
                      refine WL.y rfl (Y.move) ?_
                      refine WL.y rfl (Y.add64 rfl rfl (by omega)) ?_
                      refine WL.y rfl (Y.assign) ?_
                      refine WL.nil (thenQ.normal ?_)
                      have hq := hgo (z := 16 * (n : Int) + ((s.getD (i + (k + 2)) 0).toNat : Int) - 55) hd (by omega)
                      exact ⟨k + 1, by omega, by omega, rfl, rfl, _, _, hq.1, ov_mk ⟨rfl, rfl, hq.2, rfl, trivial⟩⟩
                    · have hd : dig c = none := by unfold dig; rw [if_neg (by omega), if_neg (by omega), if_neg (by omega)]
                      refine WC.skip (thenQ.normal ?_)
                      refine WC.seq ?_
                      refine WC.block ?_
                      refine WC.seqR rfl ?_
                      refine WL.y rfl (Y.move) ?_
                      refine WL.y rfl (Y.move) ?_
                      refine WL.y rfl (Y.move) ?_
                      refine WL.y rfl (Y.add64 rfl rfl (by omega)) ?_
                      refine WL.y rfl (Y.idxN (i+(k+2)) Tryd.underlying9 rfl rfl (by omega) (by omega) _) ?_
                      refine WL.y rfl (Y.u8i Tryd.underlying5 Tryd.underlying3 rfl) ?_
                      refine WL.y rfl (Y.assign) ?_
                      refine WL.nil ?_
                      refine WC.block ?_
                      refine WC.seqR rfl ?_
                      refine WL.y rfl (Y.move) ?_
                      refine WL.y rfl (Y.dT (Y.geq rfl rfl) (by omega)) ?_
                      refine WL.y rfl (Y.move) ?_
                      refine WL.y rfl (Y.move) ?_
                      refine WL.y rfl (Y.dF (Y.lss rfl rfl) (by omega)) ?_
                      refine WL.y rfl (Y.pickT rfl) ?_
                      refine WL.y rfl (Y.assign) ?_
                      refine WL.nil ?_
                      refine WC.condF (rfl) ?_
                      refine WC.seqR rfl ?_
                      refine WL.y rfl (Y.move) ?_
                      refine WL.y rfl (Y.dF (Y.geq rfl rfl) (by omega)) ?_
                      refine WL.y rfl (Y.move) ?_
                      refine WL.off rfl ?_
                      refine WL.off rfl ?_
                      refine WL.y rfl (Y.pickF rfl) ?_
                      refine WL.y rfl (Y.assign) ?_
                      refine WL.nil ?_
                      refine WC.condF (rfl) ?_
                      refine WC.seqR rfl ?_
                      refine WL.y rfl (Y.move) ?_
                      refine WL.y rfl (Y.dT (Y.geq rfl rfl) (by omega)) ?_
                      refine WL.y rfl (Y.move) ?_
                      refine WL.y rfl (Y.move) ?_
                      refine WL.y rfl (Y.dF (Y.lss rfl rfl) (by omega)) ?_
                      refine WL.y rfl (Y.pickT rfl) ?_
                      refine WL.y rfl (Y.assign) ?_
                      refine WL.nil ?_
                      refine WC.condF (rfl) ?_
                      refine WC.seqR rfl ?_
                      refine WL.y rfl (Y.assign) ?_
                      refine WL.nil ?_
                      refine WC.ret (inBlockQ.ret (inBlockQ.ret (thenQ.ret (thenQ.ret (inBlockQ.ret (thenQ.ret (endQ.one (.inr rfl) ?_)))))))
                      have hnn : hexF (s.drop i) 4 = none := by rw [hd] at hst; have := hexF_none _ hst (3 - k); rwa [show k + 1 + (3 - k) = 4 by omega] at this
                      exact ⟨hneg hnn, rfl⟩
                  · have hd : dig c = none := by unfold dig; rw [if_neg (by omega), if_neg (by omega), if_neg (by omega)]
                    refine WC.skip (thenQ.normal ?_)
                    refine WC.seq ?_
                    refine WC.block ?_
                    refine WC.seqR rfl ?_
                    refine WL.y rfl (Y.move) ?_
                    refine WL.y rfl (Y.move) ?_
                    refine WL.y rfl (Y.move) ?_
                    refine WL.y rfl (Y.add64 rfl rfl (by omega)) ?_
                    refine WL.y rfl (Y.idxN (i+(k+2)) Tryd.underlying9 rfl rfl (by omega) (by omega) _) ?_
                    refine WL.y rfl (Y.u8i Tryd.underlying5 Tryd.underlying3 rfl) ?_
                    refine WL.y rfl (Y.assign) ?_
                    refine WL.nil ?_
                    refine WC.block ?_
                    refine WC.seqR rfl ?_
                    refine WL.y rfl (Y.move) ?_
                    refine WL.y rfl (Y.dT (Y.geq rfl rfl) (by omega)) ?_
                    refine WL.y rfl (Y.move) ?_
                    refine WL.y rfl (Y.move) ?_
                    refine WL.y rfl (Y.dF (Y.lss rfl rfl) (by omega)) ?_
                    refine WL.y rfl (Y.pickT rfl) ?_
                    refine WL.y rfl (Y.assign) ?_
                    refine WL.nil ?_
                    refine WC.condF (rfl) ?_
                    refine WC.seqR rfl ?_
                    refine WL.y rfl (Y.move) ?_
                    refine WL.y rfl (Y.dF (Y.geq rfl rfl) (by omega)) ?_
                    refine WL.y rfl (Y.move) ?_
                    refine WL.off rfl ?_
                    refine WL.off rfl ?_
                    refine WL.y rfl (Y.pickF rfl) ?_
                    refine WL.y rfl (Y.assign) ?_
                    refine WL.nil ?_
                    refine WC.condF (rfl) ?_
                    refine WC.seqR rfl ?_
                    refine WL.y rfl (Y.move) ?_
                    refine WL.y rfl (Y.dF (Y.geq rfl rfl) (by omega)) ?_
                    refine WL.y rfl (Y.move) ?_
                    refine WL.off rfl ?_
                    refine WL.off rfl ?_
                    refine WL.y rfl (Y.pickF rfl) ?_
                    refine WL.y rfl (Y.assign) ?_
                    refine WL.nil ?_
                    refine WC.condF (rfl) ?_
                    refine WC.seqR rfl ?_
                    refine WL.y rfl (Y.assign) ?_
                    refine WL.nil ?_
                    refine WC.ret (inBlockQ.ret (inBlockQ.ret (thenQ.ret (thenQ.ret (inBlockQ.ret (thenQ.ret (endQ.one (.inr rfl) ?_)))))))
                    have hnn : hexF (s.drop i) 4 = none := by rw [hd] at hst; have := hexF_none _ hst (3 - k); rwa [show k + 1 + (3 - k) = 4 by omega] at this
                    exact ⟨hneg hnn, rfl⟩
            · have hd : dig c = none := by unfold dig; rw [if_neg (by omega), if_neg (by omega), if_neg (by omega)]
              skip
              refine WC.skip (thenQ.normal ?_)
              refine WC.seq ?_
              refine WC.block ?_
              refine WC.seqR rfl ?_
              refine WL.y rfl (Y.move) ?_
              refine WL.y rfl (Y.move) ?_
              refine WL.y rfl (Y.move) ?_
              refine WL.y rfl (Y.add64 rfl rfl (by omega)) ?_
              refine WL.y rfl (Y.idxN (i+(k+2)) Tryd.underlying9 rfl rfl (by omega) (by omega) _) ?_
              refine WL.y rfl (Y.u8i Tryd.underlying5 Tryd.underlying3 rfl) ?_
              refine WL.y rfl (Y.assign) ?_
              refine WL.nil ?_
              refine WC.block ?_
              refine WC.seqR rfl ?_
              refine WL.y rfl (Y.move) ?_
              refine WL.y rfl (Y.dF (Y.geq rfl rfl) (by omega)) ?_
              refine WL.y rfl (Y.move) ?_
              refine WL.off rfl ?_
              refine WL.off rfl ?_
              refine WL.y rfl (Y.pickF rfl) ?_
              refine WL.y rfl (Y.assign) ?_
              refine WL.nil ?_
              refine WC.condF (rfl) ?_
              refine WC.seqR rfl ?_
              refine WL.y rfl (Y.move) ?_
              refine WL.y rfl (Y.dF (Y.geq rfl rfl) (by omega)) ?_
              refine WL.y rfl (Y.move) ?_
              refine WL.off rfl ?_
              refine WL.off rfl ?_
              refine WL.y rfl (Y.pickF rfl) ?_
              refine WL.y rfl (Y.assign) ?_
              refine WL.nil ?_
              refine WC.condF (rfl) ?_
              refine WC.seqR rfl ?_
              refine WL.y rfl (Y.move) ?_
              refine WL.y rfl (Y.dF (Y.geq rfl rfl) (by omega)) ?_
              refine WL.y rfl (Y.move) ?_
              refine WL.off rfl ?_
              refine WL.off rfl ?_
              refine WL.y rfl (Y.pickF rfl) ?_
              refine WL.y rfl (Y.assign) ?_
              refine WL.nil ?_
              refine WC.condF (rfl) ?_
              refine WC.seqR rfl ?_
              refine WL.y rfl (Y.assign) ?_
              refine WL.nil ?_
              refine WC.ret (inBlockQ.ret (inBlockQ.ret (thenQ.ret (thenQ.ret (inBlockQ.ret (thenQ.ret (endQ.one (.inr rfl) ?_)))))))
              have hnn : hexF (s.drop i) 4 = none := by rw [hd] at hst; have := hexF_none _ hst (3 - k); rwa [show k + 1 + (3 - k) = 4 by omega] at this
              exact ⟨hneg hnn, rfl⟩
          · have hk4 : k = 4 := by omega
            subst hk4
            refine WC.exit (thenQ.exit (thenQ.exit (inBlockQ.hit (thenQ.normal ?_))))
            refine WC.seqR rfl ?_
            refine WL.y rfl (Y.move) ?_
            refine WL.y rfl (Y.assign) ?_
            refine WL.nil ?_
            refine WC.ret (endQ.one (.inr rfl) ?_)
            exact ⟨hpos hn, rfl⟩
      · refine Ret.of (n := 73) (rs := #[.tmp 4]) Tryd.func34 rfl rfl rfl (by simp) ?_
        refine WC.seqR rfl ?_
        refine WL.y rfl (Y.assign) ?_
        refine WL.nil ?_
        refine WC.seq ?_
        refine WC.seqR rfl ?_
        refine WL.y rfl (Y.move) ?_
        refine WL.y rfl (Y.add64 rfl rfl (by omega)) ?_
        refine WL.y rfl (Y.move) ?_
        refine WL.y rfl (Y.lenS Tryd.underlying9 rfl _) ?_
        refine WL.y rfl (Y.dF (Y.gtr rfl rfl) (by omega)) ?_
        refine WL.y rfl (Y.move) ?_
        refine WL.y rfl (Y.move) ?_
        refine WL.y rfl (Y.move) ?_
        refine WL.y rfl (Y.idxN _ Tryd.underlying9 rfl rfl rfl (by omega) _) ?_
        refine WL.y rfl (Y.dF (Y.nei rfl rfl) (by omega)) ?_
        refine WL.y rfl (Y.pickF rfl) ?_
        refine WL.y rfl (Y.move) ?_
        refine WL.y rfl (Y.move) ?_
        refine WL.y rfl (Y.move) ?_
        refine WL.y rfl (Y.add64 rfl rfl (by omega)) ?_
        refine WL.y rfl (Y.idxN (i+1) Tryd.underlying9 rfl rfl (by omega) (by omega) _) ?_
        refine WL.y rfl (Y.dT (Y.nei rfl rfl) (by omega)) ?_
        refine WL.y rfl (Y.pickF rfl) ?_
        refine WL.nil ?_
        refine WC.condT (rfl) ?_
        refine WC.seqR rfl ?_
        refine WL.y rfl (Y.assign) ?_
        refine WL.nil ?_
        refine WC.ret (thenQ.ret (endQ.one (.inr rfl) ?_))
        exact ⟨hx (by omega), rfl⟩
    · refine Ret.of (n := 73) (rs := #[.tmp 4]) Tryd.func34 rfl rfl rfl (by simp) ?_
      refine WC.seqR rfl ?_
      refine WL.y rfl (Y.assign) ?_
      refine WL.nil ?_
      refine WC.seq ?_
      refine WC.seqR rfl ?_
      refine WL.y rfl (Y.move) ?_
      refine WL.y rfl (Y.add64 rfl rfl (by omega)) ?_
      refine WL.y rfl (Y.move) ?_
      refine WL.y rfl (Y.lenS Tryd.underlying9 rfl _) ?_
      refine WL.y rfl (Y.dF (Y.gtr rfl rfl) (by omega)) ?_
      refine WL.y rfl (Y.move) ?_
      refine WL.y rfl (Y.move) ?_
      refine WL.y rfl (Y.move) ?_
      refine WL.y rfl (Y.idxN _ Tryd.underlying9 rfl rfl rfl (by omega) _) ?_
      refine WL.y rfl (Y.dT (Y.nei rfl rfl) (by omega)) ?_
      refine WL.y rfl (Y.pickF rfl) ?_
      refine WL.y rfl (Y.move) ?_
      refine WL.off rfl ?_
      refine WL.off rfl ?_
      refine WL.off rfl ?_
      refine WL.off rfl ?_
      refine WL.off rfl ?_
      refine WL.y rfl (Y.pickT rfl) ?_
      refine WL.nil ?_
      refine WC.condT (rfl) ?_
      refine WC.seqR rfl ?_
      refine WL.y rfl (Y.assign) ?_
      refine WL.nil ?_
      refine WC.ret (thenQ.ret (endQ.one (.inr rfl) ?_))
      exact ⟨hx (by omega), rfl⟩
  · refine Ret.of (n := 73) (rs := #[.tmp 4]) Tryd.func34 rfl rfl rfl (by simp) ?_
    refine WC.seqR rfl ?_
    refine WL.y rfl (Y.assign) ?_
    refine WL.nil ?_
    refine WC.seq ?_
    refine WC.seqR rfl ?_
    refine WL.y rfl (Y.move) ?_
    refine WL.y rfl (Y.add64 rfl rfl (by omega)) ?_
    refine WL.y rfl (Y.move) ?_
    refine WL.y rfl (Y.lenS Tryd.underlying9 rfl _) ?_
    refine WL.y rfl (Y.dT (Y.gtr rfl rfl) (by omega)) ?_
    refine WL.y rfl (Y.move) ?_
    refine WL.off rfl ?_
    refine WL.off rfl ?_
    refine WL.off rfl ?_
    refine WL.off rfl ?_
    refine WL.y rfl (Y.pickT rfl) ?_
    refine WL.y rfl (Y.move) ?_
    refine WL.off rfl ?_
    refine WL.off rfl ?_
    refine WL.off rfl ?_
    refine WL.off rfl ?_
    refine WL.off rfl ?_
    refine WL.y rfl (Y.pickT rfl) ?_
    refine WL.nil ?_
    refine WC.condT (rfl) ?_
    refine WC.seqR rfl ?_
    refine WL.y rfl (Y.assign) ?_
    refine WL.nil ?_
    refine WC.ret (thenQ.ret (endQ.one (.inr rfl) ?_))
    exact ⟨hx (by omega), rfl⟩
end Go.Proofs.YtgdemkchfemmpaaDoor
