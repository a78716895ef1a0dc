/-
  law: escapes of four digits; halves of pairs.
-/
import Derived.Test.YtgdemkchfemmpaaDoorQt10
namespace Go.Proofs.YtgdemkchfemmpaaDoor
open Go Go.RowKit Go.Cx
set_option linter.unusedVariables false
set_option maxHeartbeats 8000000
def digsL (up : Bool) : List UInt8 := if up then [48, 49, 50, 51, 52, 53, 54, 55, 56, 57, 65, 66, 67, 68, 69, 70] else [48, 49, 50, 51, 52, 53, 54, 55, 56, 57, 97, 98, 99, 100, 101, 102]
theorem digsL_len (up : Bool) : (digsL up).length = 16 := by cases up <;> rfl
theorem digsL_dig (up : Bool) (d : Nat) (hd : d < 16) : dig ((digsL up).getD d 0).toNat = some d := by
  have h : ∀ d : Fin 16, ∀ up : Bool, dig ((digsL up).getD d.1 0).toNat = some d.1 := by decide +kernel
  exact h ⟨d, hd⟩ up
def dg (up : Bool) (d : Nat) : UInt8 := (digsL up).getD d 0
/-- the escape of a number -/
def escB (up : Bool) (n : Nat) : List UInt8 := [92, 117, dg up (n / 4096 % 16), dg up (n / 256 % 16), dg up (n / 16 % 16), dg up (n / 1 % 16)]
theorem hexL_escB (up : Bool) (n : Nat) (hn : n < 65536) (r : List UInt8) : hexL (escB up n ++ r) = some n := by
  have h1 := digsL_dig up (n / 4096 % 16) (by omega)
  have h2 := digsL_dig up (n / 256 % 16) (by omega)
  have h3 := digsL_dig up (n / 16 % 16) (by omega)
  have h4 := digsL_dig up (n / 1 % 16) (by omega)
  have e2 : bt (escB up n ++ r) 2 = ((digsL up).getD (n / 4096 % 16) 0).toNat := rfl
  have e3 : bt (escB up n ++ r) 3 = ((digsL up).getD (n / 256 % 16) 0).toNat := rfl
  have e4 : bt (escB up n ++ r) 4 = ((digsL up).getD (n / 16 % 16) 0).toNat := rfl
  have e5 : bt (escB up n ++ r) 5 = ((digsL up).getD (n / 1 % 16) 0).toNat := rfl
  unfold hexL
  rw [if_pos ⟨by simp [escB], rfl, rfl⟩]
  simp only [hexF, Nat.zero_add, Nat.reduceAdd, e2, e3, e4, e5, h1, h2, h3, h4]
  congr 1
  omega
theorem slice_dg (up : Bool) (d : Nat) (hd : d < 16) : ((digsL up).drop d).take (d + 1 - d) = [dg up d] := by
  have h : ∀ d : Fin 16, ∀ up : Bool, ((digsL up).drop d.1).take (d.1 + 1 - d.1) = [dg up d.1] := by decide +kernel
  exact h ⟨d, hd⟩ up
def dOf : Nat → Int
  | 0 => 4096
  | 1 => 256
  | 2 => 16
  | 3 => 1
  | _ => 0
theorem cat_dg {up : Bool} {n d : Nat} {a b : List UInt8} (hd : d < 16) (h : a ++ [dg up d] = b) : strv (a ++ ((digsL up).drop d).take (d + 1 - d)) = strv b := by rw [slice_dg up d hd, h]
theorem lescape_ret (w : World) (n : Nat) (up : Bool) (hn : n < 65536) : Ret Tryd.prog 16 [.int .i64 (n : Int), .bool up].toArray w fun v w' => v = strv (escB up n) ∧ w = w' := by
  have hdl := digsL_len up
  refine Ret.of (n := 26) (rs := #[.tmp 4]) Tryd.func16 rfl rfl rfl (by simp) ?_
  refine WC.seqR rfl ?_
  refine WL.y rfl (Y.assign) ?_
  refine WL.nil ?_
  refine WC.seqR rfl ?_
  refine WL.y rfl (Y.assign) ?_
  refine WL.nil ?_
  refine WC.seq ?_
  refine WC.seqR rfl ?_
  refine WL.y rfl (Y.move) ?_
  refine WL.nil ?_
  refine WC.cut (fun f ds w' => ds = [] ∧ w = w' ∧ ∃ J, f = ov J [(0, .int .i64 (n : Int)), (5, strv (digsL up))]) ?_ ?_
  · skip
    refine WC.cond rfl (fun h0 => ?_) (fun h0 => ?_)
    · subst h0
      refine WC.region rfl ?_
      refine WL.y rfl (Y.assign) ?_
      refine WL.nil (thenQ.normal ?_)
      exact ⟨rfl, rfl, _, ov_mk ⟨rfl, rfl, trivial⟩⟩
    · subst h0
      refine WC.skip (thenQ.normal ?_)
      exact ⟨rfl, rfl, _, ov_mk ⟨rfl, rfl, trivial⟩⟩
  · rintro _ _ _ ⟨rfl, rfl, J, rfl⟩
    refine WC.seqR rfl ?_
    refine WL.y rfl (Y.assign) ?_
    refine WL.nil ?_
    refine WC.seq ?_
    refine WC.seqR rfl ?_
    refine WL.y rfl (Y.assign) ?_
    refine WL.nil ?_
    refine WC.block ?_
    refine WC.loop (fun i => 4 - i) (fun i f ds w' => i ≤ 4 ∧ ds = [] ∧ w = w' ∧ ∃ z J, z = dOf i ∧ f = ov J [(0, .int .i64 (n : Int)), (5, strv (digsL up)), (6, strv ((escB up n).take (2 + i))), (7, .int .i64 z)]) 0 ?_ ?_
    · exact ⟨by omega, rfl, rfl, 4096, _, rfl, ov_mk ⟨rfl, rfl, rfl, rfl, trivial⟩⟩
    · rintro i _ _ _ ⟨hi, rfl, rfl, z, J, hz, rfl⟩
      have hi5 : i = 0 ∨ i = 1 ∨ i = 2 ∨ i = 3 ∨ i = 4 := by omega
      rcases hi5 with rfl | rfl | rfl | rfl | rfl
      · obtain rfl : z = 4096 := hz
        have hq := cat_dg (up := up) (n := n) (d := n / 4096 % 16) (a := (escB up n).take 2) (b := (escB up n).take 3) (by omega) rfl
        refine WC.seq ?_
        refine WC.seqR rfl ?_
        refine WL.y rfl (Y.move) ?_
        refine WL.y rfl (Y.dT (Y.gtr rfl rfl) (by decide)) ?_
        refine WL.nil ?_
        refine WC.condT (rfl) ?_
        refine WC.skip (thenQ.normal ?_)
        refine WC.seq ?_
        refine WC.block ?_
        refine WC.seqR rfl ?_
        refine WL.y rfl (Y.move) ?_
        refine WL.y rfl (Y.move) ?_
        refine WL.y rfl (Y.quo64 rfl rfl (by omega) (by omega)) ?_
        refine WL.y rfl (Y.rem rfl rfl (by omega) (by omega)) ?_
        refine WL.y rfl (Y.assign) ?_
        refine WL.nil ?_
        refine WC.region rfl ?_
        refine WL.y rfl (Y.move) ?_
        refine WL.y rfl (Y.move) ?_
        refine WL.y rfl (Y.move) ?_
        refine WL.y rfl (Y.move) ?_
        refine WL.y rfl (Y.add64 rfl rfl (by omega)) ?_
        refine WL.y rfl (Y.sliceBothN (n/4096%16) (n/4096%16+1) Tryd.underlying9 rfl rfl (by omega) rfl (by omega) (by omega) (by omega) _) ?_
        refine WL.y rfl (Y.catS rfl rfl (by rw [List.length_take, List.length_take, List.length_drop]; omega)) ?_
        refine WL.y rfl (Y.assign) ?_
        refine WL.nil (inBlockQ.normal (thenQ.normal ?_))
        refine WC.region rfl ?_
        refine WL.y rfl (Y.move) ?_
        refine WL.y rfl (Y.quo64 rfl rfl (by omega) (by omega)) ?_
        refine WL.y rfl (Y.assign) ?_
        refine WL.nil (thenQ.normal ?_)
        exact ⟨1, by omega, by omega, rfl, rfl, 256, _, rfl, ov_mk ⟨rfl, rfl, hq, rfl, trivial⟩⟩
      · obtain rfl : z = 256 := hz
        have hq := cat_dg (up := up) (n := n) (d := n / 256 % 16) (a := (escB up n).take 3) (b := (escB up n).take 4) (by omega) rfl
        refine WC.seq ?_
        refine WC.seqR rfl ?_
        refine WL.y rfl (Y.move) ?_
        refine WL.y rfl (Y.dT (Y.gtr rfl rfl) (by decide)) ?_
        refine WL.nil ?_
        refine WC.condT (rfl) ?_
        refine WC.skip (thenQ.normal ?_)
        refine WC.seq ?_
        refine WC.block ?_
        refine WC.seqR rfl ?_
        refine WL.y rfl (Y.move) ?_
        refine WL.y rfl (Y.move) ?_
        refine WL.y rfl (Y.quo64 rfl rfl (by omega) (by omega)) ?_
        refine WL.y rfl (Y.rem rfl rfl (by omega) (by omega)) ?_
        refine WL.y rfl (Y.assign) ?_
        refine WL.nil ?_
        refine WC.region rfl ?_
        refine WL.y rfl (Y.move) ?_
        refine WL.y rfl (Y.move) ?_
        refine WL.y rfl (Y.move) ?_
        refine WL.y rfl (Y.move) ?_
        refine WL.y rfl (Y.add64 rfl rfl (by omega)) ?_
        refine WL.y rfl (Y.sliceBothN (n/256%16) (n/256%16+1) Tryd.underlying9 rfl rfl (by omega) rfl (by omega) (by omega) (by omega) _) ?_
        refine WL.y rfl (Y.catS rfl rfl (by rw [List.length_take, List.length_take, List.length_drop]; omega)) ?_
        refine WL.y rfl (Y.assign) ?_
        refine WL.nil (inBlockQ.normal (thenQ.normal ?_))
        refine WC.region rfl ?_
        refine WL.y rfl (Y.move) ?_
        refine WL.y rfl (Y.quo64 rfl rfl (by omega) (by omega)) ?_
        refine WL.y rfl (Y.assign) ?_
        refine WL.nil (thenQ.normal ?_)
        exact ⟨2, by omega, by omega, rfl, rfl, 16, _, rfl, ov_mk ⟨rfl, rfl, hq, rfl, trivial⟩⟩
      · obtain rfl : z = 16 := hz
        have hq := cat_dg (up := up) (n := n) (d := n / 16 % 16) (a := (escB up n).take 4) (b := (escB up n).take 5) (by omega) rfl
        refine WC.seq ?_
        refine WC.seqR rfl ?_
        refine WL.y rfl (Y.move) ?_
        refine WL.y rfl (Y.dT (Y.gtr rfl rfl) (by decide)) ?_
        refine WL.nil ?_
        refine WC.condT (rfl) ?_
        refine WC.skip (thenQ.normal ?_)
        refine WC.seq ?_
        refine WC.block ?_
        refine WC.seqR rfl ?_
        refine WL.y rfl (Y.move) ?_
        refine WL.y rfl (Y.move) ?_
        refine WL.y rfl (Y.quo64 rfl rfl (by omega) (by omega)) ?_
        refine WL.y rfl (Y.rem rfl rfl (by omega) (by omega)) ?_
        refine WL.y rfl (Y.assign) ?_
        refine WL.nil ?_
        refine WC.region rfl ?_
        refine WL.y rfl (Y.move) ?_
        refine WL.y rfl (Y.move) ?_
        refine WL.y rfl (Y.move) ?_
        refine WL.y rfl (Y.move) ?_
        refine WL.y rfl (Y.add64 rfl rfl (by omega)) ?_
        refine WL.y rfl (Y.sliceBothN (n/16%16) (n/16%16+1) Tryd.underlying9 rfl rfl (by omega) rfl (by omega) (by omega) (by omega) _) ?_
        refine WL.y rfl (Y.catS rfl rfl (by rw [List.length_take, List.length_take, List.length_drop]; omega)) ?_
        refine WL.y rfl (Y.assign) ?_
        refine WL.nil (inBlockQ.normal (thenQ.normal ?_))
        refine WC.region rfl ?_
        refine WL.y rfl (Y.move) ?_
        refine WL.y rfl (Y.quo64 rfl rfl (by omega) (by omega)) ?_
        refine WL.y rfl (Y.assign) ?_
        refine WL.nil (thenQ.normal ?_)
        exact ⟨3, by omega, by omega, rfl, rfl, 1, _, rfl, ov_mk ⟨rfl, rfl, hq, rfl, trivial⟩⟩
      · obtain rfl : z = 1 := hz
        have hq := cat_dg (up := up) (n := n) (d := n / 1 % 16) (a := (escB up n).take 5) (b := (escB up n).take 6) (by omega) rfl
        refine WC.seq ?_
        refine WC.seqR rfl ?_
        refine WL.y rfl (Y.move) ?_
        refine WL.y rfl (Y.dT (Y.gtr rfl rfl) (by decide)) ?_
        refine WL.nil ?_
        refine WC.condT (rfl) ?_
        refine WC.skip (thenQ.normal ?_)
        refine WC.seq ?_
        refine WC.block ?_
        refine WC.seqR rfl ?_
        refine WL.y rfl (Y.move) ?_
        refine WL.y rfl (Y.move) ?_
        refine WL.y rfl (Y.quo64 rfl rfl (by omega) (by omega)) ?_
        refine WL.y rfl (Y.rem rfl rfl (by omega) (by omega)) ?_
        refine WL.y rfl (Y.assign) ?_
        refine WL.nil ?_
        refine WC.region rfl ?_
        refine WL.y rfl (Y.move) ?_
        refine WL.y rfl (Y.move) ?_
        refine WL.y rfl (Y.move) ?_
        refine WL.y rfl (Y.move) ?_
        refine WL.y rfl (Y.add64 rfl rfl (by omega)) ?_
        refine WL.y rfl (Y.sliceBothN (n/1%16) (n/1%16+1) Tryd.underlying9 rfl rfl (by omega) rfl (by omega) (by omega) (by omega) _) ?_
        refine WL.y rfl (Y.catS rfl rfl (by rw [List.length_take, List.length_take, List.length_drop]; omega)) ?_
        refine WL.y rfl (Y.assign) ?_
        refine WL.nil (inBlockQ.normal (thenQ.normal ?_))
        refine WC.region rfl ?_
        refine WL.y rfl (Y.move) ?_
        refine WL.y rfl (Y.quo64 rfl rfl (by omega) (by omega)) ?_
        refine WL.y rfl (Y.assign) ?_
        refine WL.nil (thenQ.normal ?_)
        exact ⟨4, by omega, by omega, rfl, rfl, 0, _, rfl, ov_mk ⟨rfl, rfl, hq, rfl, trivial⟩⟩
      · obtain rfl : z = 0 := hz
        skip
        refine WC.seq ?_
        refine WC.seqR rfl ?_
        refine WL.y rfl (Y.move) ?_
        refine WL.y rfl (Y.dF (Y.gtr rfl rfl) (by decide)) ?_
        refine WL.nil ?_
        refine WC.condF (rfl) ?_
        refine WC.exit (thenQ.exit (thenQ.exit (inBlockQ.hit (thenQ.normal ?_))))
        refine WC.seqR rfl ?_
        refine WL.y rfl (Y.move) ?_
        refine WL.y rfl (Y.assign) ?_
        refine WL.nil ?_
        refine WC.ret (endQ.one (.inr rfl) ?_)
        exact ⟨rfl, rfl⟩
/-- two escapes, one behind the other, in quotes -/
def twoE (a b : Nat) (up : Bool) : List UInt8 := [34] ++ escB up a ++ escB (!up) b ++ [34]
theorem stepU_escB (up : Bool) (n : Nat) (r : List UInt8) (hn : n < 65536) : stepU (escB up n ++ r) = if (pairS n r).2.2 = 0 then .go (Lib.encodeRune ((pairS n r).1 : Int)) (pairS n r).2.1 else .bad (pairS n r).2.2 := by
  have e : escS (escB up n ++ r) = pairS n r := by unfold escS; rw [hexL_escB up n hn r]; rfl
  have h0 : bt (escB up n ++ r) 0 = 92 := rfl
  unfold stepU
  rw [if_neg (by simp [escB]), if_neg (by rw [h0]; decide), if_pos h0, e]
theorem twoE_eq (a b : Nat) (up : Bool) : unquoteS (twoE a b up) 0 = ((unq (escB up a ++ (escB (!up) b ++ [34]))).1, 1 + (unq (escB up a ++ (escB (!up) b ++ [34]))).2.1, (unq (escB up a ++ (escB (!up) b ++ [34]))).2.2) := by
  have e : twoE a b up = 34 :: (escB up a ++ (escB (!up) b ++ [34])) := by simp [twoE]
  rw [e]
  rfl
theorem fin34 : unq [34] = ([], 1, 0) := unq_fin rfl
theorem halves1 (a b : Nat) (up : Bool) (ha1 : 55296 ≤ a) (ha2 : a < 56320) (hb1 : 56320 ≤ b) (hb2 : b < 57344) : unquoteS (twoE a b up) 0 = (Lib.encodeRune ((65536 + 1024 * (a - 55296) + (b - 56320) : Nat) : Int), 14, 0) := by
  have hp : pairS a (escB (!up) b ++ [34]) = (65536 + 1024 * (a - 55296) + (b - 56320), 12, 0) := by
    unfold pairS
    rw [if_neg (by omega), if_neg (by omega), hexL_escB (!up) b (by omega)]
    exact if_pos ⟨hb1, hb2⟩
  have hst := stepU_escB up a (escB (!up) b ++ [34]) (by omega)
  rw [hp] at hst
  have hu := unq_go (hst.trans (if_pos rfl))
  have e : (escB up a ++ (escB (!up) b ++ [34])).drop 12 = [34] := rfl
  rw [e, fin34] at hu
  rw [twoE_eq, hu]
  simp [preU]
theorem halves2 (a b : Nat) (up : Bool) (ha1 : 55296 ≤ a) (ha2 : a < 57344) (hb : b < 65536) (h : ¬ (a < 56320 ∧ 56320 ≤ b ∧ b < 57344)) : unquoteS (twoE a b up) 0 = ([], 1, 3) := by
  have hp : pairS a (escB (!up) b ++ [34]) = (0, 0, 3) := by
    unfold pairS
    rw [if_neg (by omega)]
    by_cases h2 : 56320 ≤ a
    · rw [if_pos h2]
    · rw [if_neg h2, hexL_escB (!up) b hb]
      exact if_neg (by omega)
  have hst := stepU_escB up a (escB (!up) b ++ [34]) (by omega)
  rw [hp] at hst
  have hu := unq_bad (hst.trans (if_neg (by decide)))
  rw [twoE_eq, hu]
  rfl
theorem halves3 (a b : Nat) (up : Bool) (ha0 : a < 65536) (ha : a < 55296 ∨ 57344 ≤ a) (hb1 : 55296 ≤ b) (hb2 : b < 57344) : unquoteS (twoE a b up) 0 = ([], 7, 3) := by
  have hp : pairS a (escB (!up) b ++ [34]) = (a, 6, 0) := by unfold pairS; rw [if_pos ha]
  have hst := stepU_escB up a (escB (!up) b ++ [34]) ha0
  rw [hp] at hst
  have hu := unq_go (hst.trans (if_pos rfl))
  have e : (escB up a ++ (escB (!up) b ++ [34])).drop 6 = escB (!up) b ++ [34] := rfl
  rw [e] at hu
  have hp2 : pairS b [34] = (0, 0, 3) := by
    unfold pairS
    rw [if_neg (by omega)]
    by_cases h2 : 56320 ≤ b
    · rw [if_pos h2]
    · rw [if_neg h2]; rfl
  have hst2 := stepU_escB (!up) b [34] (by omega)
  rw [hp2] at hst2
  have hu2 := unq_bad (hst2.trans (if_neg (by decide)))
  rw [hu2] at hu
  rw [twoE_eq, hu]
  simp [preU]
theorem halves4 (a b : Nat) (up : Bool) (ha0 : a < 65536) (ha : a < 55296 ∨ 57344 ≤ a) (hb0 : b < 65536) (hb : b < 55296 ∨ 57344 ≤ b) : unquoteS (twoE a b up) 0 = (Lib.encodeRune (a : Int) ++ Lib.encodeRune (b : Int), 14, 0) := by
  have hp : pairS a (escB (!up) b ++ [34]) = (a, 6, 0) := by unfold pairS; rw [if_pos ha]
  have hst := stepU_escB up a (escB (!up) b ++ [34]) ha0
  rw [hp] at hst
  have hu := unq_go (hst.trans (if_pos rfl))
  have e : (escB up a ++ (escB (!up) b ++ [34])).drop 6 = escB (!up) b ++ [34] := rfl
  rw [e] at hu
  have hp2 : pairS b [34] = (b, 6, 0) := by unfold pairS; rw [if_pos hb]
  have hst2 := stepU_escB (!up) b [34] hb0
  rw [hp2] at hst2
  have hu2 := unq_go (hst2.trans (if_pos rfl))
  have e2 : (escB (!up) b ++ [34]).drop 6 = [34] := rfl
  rw [e2, fin34] at hu2
  rw [hu2] at hu
  rw [twoE_eq, hu]
  simp [preU]
theorem utfHalves_ret (w : World) (za : Int) (wa : (Lit.int .i64 za).wf = true) (zb : Int) (wb : (Lit.int .i64 zb).wf = true) (up : Bool) (hT : Tabs w) :
    Ret Tryd.prog 7 [.int .i64 za, .int .i64 zb, .bool up].toArray w fun v w' => v = .bool true ∧ Below w.heap.size w w' := by
  have ha := rng64 wa
  have hb := rng64 wb
  clear wa wb
  have hlen : ∀ a b, (twoE a b up).length = 14 := fun a b => rfl
  by_cases o1 : za < 0
  · skip
    refine Ret.of (n := 142) (rs := #[.tmp 6]) Tryd.func7 rfl rfl rfl (by simp) ?_
    refine WC.seqR rfl ?_
    refine WL.y rfl (Y.assign) ?_
    refine WL.nil ?_
    refine WC.seq ?_
    refine WC.seqR rfl ?_
    refine WL.y rfl (Y.move) ?_
    refine WL.y rfl (Y.dT (Y.lss rfl rfl) (by omega)) ?_
    refine WL.y rfl (Y.move) ?_
    refine WL.off rfl ?_
    refine WL.off rfl ?_
    refine WL.y rfl (Y.pickT rfl) ?_
    refine WL.y rfl (Y.move) ?_
    refine WL.off rfl ?_
    refine WL.off rfl ?_
    refine WL.y rfl (Y.pickT rfl) ?_
    refine WL.y rfl (Y.move) ?_
    refine WL.off rfl ?_
    refine WL.off rfl ?_
    refine WL.y rfl (Y.pickT rfl) ?_
    refine WL.nil ?_
    refine WC.condT (rfl) ?_
    refine WC.seqR rfl ?_
    refine WL.call rfl (C.func go11) (known_ret _ hT) ?_
    rintro _ w28 ⟨rfl, hb28⟩
    have k28 := hb28
    refine WL.y rfl (Y.assign) ?_
    refine WL.nil ?_
    refine WC.ret (thenQ.ret (endQ.one (.inr rfl) ?_))
    exact ⟨rfl, k28⟩
  by_cases o2 : 65535 < za
  · skip
    refine Ret.of (n := 142) (rs := #[.tmp 6]) Tryd.func7 rfl rfl rfl (by simp) ?_
    refine WC.seqR rfl ?_
    refine WL.y rfl (Y.assign) ?_
    refine WL.nil ?_
    refine WC.seq ?_
    refine WC.seqR rfl ?_
    refine WL.y rfl (Y.move) ?_
    refine WL.y rfl (Y.dF (Y.lss rfl rfl) (by omega)) ?_
    refine WL.y rfl (Y.move) ?_
    refine WL.y rfl (Y.move) ?_
    refine WL.y rfl (Y.dT (Y.gtr rfl rfl) (by omega)) ?_
    refine WL.y rfl (Y.pickF rfl) ?_
    refine WL.y rfl (Y.move) ?_
    refine WL.off rfl ?_
    refine WL.off rfl ?_
    refine WL.y rfl (Y.pickT rfl) ?_
    refine WL.y rfl (Y.move) ?_
    refine WL.off rfl ?_
    refine WL.off rfl ?_
    refine WL.y rfl (Y.pickT rfl) ?_
    refine WL.nil ?_
    refine WC.condT (rfl) ?_
    refine WC.seqR rfl ?_
    refine WL.call rfl (C.func go11) (known_ret _ hT) ?_
    rintro _ w28 ⟨rfl, hb28⟩
    have k28 := hb28
    refine WL.y rfl (Y.assign) ?_
    refine WL.nil ?_
    refine WC.ret (thenQ.ret (endQ.one (.inr rfl) ?_))
    exact ⟨rfl, k28⟩
  by_cases o3 : zb < 0
  · skip
    refine Ret.of (n := 142) (rs := #[.tmp 6]) Tryd.func7 rfl rfl rfl (by simp) ?_
    refine WC.seqR rfl ?_
    refine WL.y rfl (Y.assign) ?_
    refine WL.nil ?_
    refine WC.seq ?_
    refine WC.seqR rfl ?_
    refine WL.y rfl (Y.move) ?_
    refine WL.y rfl (Y.dF (Y.lss rfl rfl) (by omega)) ?_
    refine WL.y rfl (Y.move) ?_
    refine WL.y rfl (Y.move) ?_
    refine WL.y rfl (Y.dF (Y.gtr rfl rfl) (by omega)) ?_
    refine WL.y rfl (Y.pickF rfl) ?_
    refine WL.y rfl (Y.move) ?_
    refine WL.y rfl (Y.move) ?_
    refine WL.y rfl (Y.dT (Y.lss rfl rfl) (by omega)) ?_
    refine WL.y rfl (Y.pickF rfl) ?_
    refine WL.y rfl (Y.move) ?_
    refine WL.off rfl ?_
    refine WL.off rfl ?_
    refine WL.y rfl (Y.pickT rfl) ?_
    refine WL.nil ?_
    refine WC.condT (rfl) ?_
    refine WC.seqR rfl ?_
    refine WL.call rfl (C.func go11) (known_ret _ hT) ?_
    rintro _ w28 ⟨rfl, hb28⟩
    have k28 := hb28
    refine WL.y rfl (Y.assign) ?_
    refine WL.nil ?_
    refine WC.ret (thenQ.ret (endQ.one (.inr rfl) ?_))
    exact ⟨rfl, k28⟩
  by_cases o4 : 65535 < zb
  · skip
    refine Ret.of (n := 142) (rs := #[.tmp 6]) Tryd.func7 rfl rfl rfl (by simp) ?_
    refine WC.seqR rfl ?_
    refine WL.y rfl (Y.assign) ?_
    refine WL.nil ?_
    refine WC.seq ?_
    refine WC.seqR rfl ?_
    refine WL.y rfl (Y.move) ?_
    refine WL.y rfl (Y.dF (Y.lss rfl rfl) (by omega)) ?_
    refine WL.y rfl (Y.move) ?_
    refine WL.y rfl (Y.move) ?_
    refine WL.y rfl (Y.dF (Y.gtr rfl rfl) (by omega)) ?_
    refine WL.y rfl (Y.pickF rfl) ?_
    refine WL.y rfl (Y.move) ?_
    refine WL.y rfl (Y.move) ?_
    refine WL.y rfl (Y.dF (Y.lss rfl rfl) (by omega)) ?_
    refine WL.y rfl (Y.pickF rfl) ?_
    refine WL.y rfl (Y.move) ?_
    refine WL.y rfl (Y.move) ?_
    refine WL.y rfl (Y.dT (Y.gtr rfl rfl) (by omega)) ?_
    refine WL.y rfl (Y.pickF rfl) ?_
    refine WL.nil ?_
    refine WC.condT (rfl) ?_
    refine WC.seqR rfl ?_
    refine WL.call rfl (C.func go11) (known_ret _ hT) ?_
    rintro _ w28 ⟨rfl, hb28⟩
    have k28 := hb28
    refine WL.y rfl (Y.assign) ?_
    refine WL.nil ?_
    refine WC.ret (thenQ.ret (endQ.one (.inr rfl) ?_))
    exact ⟨rfl, k28⟩
  obtain ⟨a, rfl⟩ : ∃ a : Nat, za = (a : Int) := ⟨za.toNat, by omega⟩
  obtain ⟨b, rfl⟩ : ∃ b : Nat, zb = (b : Int) := ⟨zb.toNat, by omega⟩
  have ha0 : a < 65536 := by omega
  have hb0 : b < 65536 := by omega
  have hA : a < 55296 ∨ (55296 ≤ a ∧ a < 56320) ∨ (56320 ≤ a ∧ a < 57344) ∨ 57344 ≤ a := by omega
  have hB : b < 55296 ∨ (55296 ≤ b ∧ b < 56320) ∨ (56320 ≤ b ∧ b < 57344) ∨ 57344 ≤ b := by omega
  have hla : (escB up a).length = 6 := rfl
  have hlb : (escB (!up) b).length = 6 := rfl
  rcases hA with hA | ⟨hA, hA'⟩ | ⟨hA, hA'⟩ | hA
  · rcases hB with hB | ⟨hB, hB'⟩ | ⟨hB, hB'⟩ | hB
    · have hu := halves4 a b up ha0 (by omega) hb0 (by omega)
      have hoka : okR a := by unfold okR; omega
      have hokb : okR b := by unfold okR; omega
      have hea := enc_len a
      have heb := enc_len b
      refine Ret.of (n := 142) (rs := #[.tmp 6]) Tryd.func7 rfl rfl rfl (by simp) ?_
      refine WC.seqR rfl ?_
      refine WL.y rfl (Y.assign) ?_
      refine WL.nil ?_
      refine WC.seq ?_
      refine WC.seqR rfl ?_
      refine WL.y rfl (Y.move) ?_
      refine WL.y rfl (Y.dF (Y.lss rfl rfl) (by omega)) ?_
      refine WL.y rfl (Y.move) ?_
      refine WL.y rfl (Y.move) ?_
      refine WL.y rfl (Y.dF (Y.gtr rfl rfl) (by omega)) ?_
      refine WL.y rfl (Y.pickF rfl) ?_
      refine WL.y rfl (Y.move) ?_
      refine WL.y rfl (Y.move) ?_
      refine WL.y rfl (Y.dF (Y.lss rfl rfl) (by omega)) ?_
      refine WL.y rfl (Y.pickF rfl) ?_
      refine WL.y rfl (Y.move) ?_
      refine WL.y rfl (Y.move) ?_
      refine WL.y rfl (Y.dF (Y.gtr rfl rfl) (by omega)) ?_
      refine WL.y rfl (Y.pickF rfl) ?_
      refine WL.nil ?_
      refine WC.condF (rfl) ?_
      refine WC.skip (thenQ.normal ?_)
      refine WC.seqR rfl ?_
      refine WL.y rfl (Y.move) ?_
      refine WL.y rfl (Y.move) ?_
      refine WL.call rfl (C.func go16) (lescape_ret _ a up ha0) ?_
      rintro _ _ ⟨rfl, rfl⟩
      refine WL.y rfl (Y.catS (a := [34]) rfl rfl (by rw [hla]; decide)) ?_
      refine WL.y rfl (Y.move) ?_
      refine WL.y rfl (Y.move) ?_
      refine WL.y rfl (Y.not rfl) ?_
      refine WL.call rfl (C.func go16) (lescape_ret _ b (!up) hb0) ?_
      rintro _ _ ⟨rfl, rfl⟩
      refine WL.y rfl (Y.catS rfl rfl (by simp only [List.length_append, List.length_cons, List.length_nil]; omega)) ?_
      refine WL.y rfl (Y.catS (b := [34]) rfl rfl (by simp only [List.length_append, List.length_cons, List.length_nil]; omega)) ?_
      refine WL.y rfl (Y.assign) ?_
      refine WL.nil ?_
      refine WC.seqR rfl ?_
      refine WL.y rfl (Y.move) ?_
      refine WL.call rfl (C.func go14) (unquote_eq _ (twoE a b up) 0 (by decide) (hT.bel (Below.refl _ _)) (by rw [hlen]; decide) hu) ?_
      rintro _ w41 ⟨rfl, hb41⟩
      have k41 := hb41
      refine WL.y rfl (Y.move) ?_
      refine WL.y rfl (Y.extract rfl rfl) ?_
      refine WL.y rfl (Y.extract rfl rfl) ?_
      refine WL.y rfl (Y.extract rfl rfl) ?_
      refine WL.y rfl (Y.assign) ?_
      refine WL.y rfl (Y.assign) ?_
      refine WL.y rfl (Y.assign) ?_
      refine WL.nil ?_
      refine WC.seqR rfl ?_
      refine WL.y rfl (Y.move) ?_
      refine WL.y rfl (Y.dF (Y.geq rfl rfl) (by omega)) ?_
      refine WL.y rfl (Y.move) ?_
      refine WL.off rfl ?_
      refine WL.off rfl ?_
      refine WL.y rfl (Y.pickF rfl) ?_
      refine WL.y rfl (Y.move) ?_
      refine WL.y rfl (Y.dF (Y.geq rfl rfl) (by omega)) ?_
      refine WL.y rfl (Y.move) ?_
      refine WL.off rfl ?_
      refine WL.off rfl ?_
      refine WL.y rfl (Y.pickF rfl) ?_
      refine WL.y rfl (Y.assign) ?_
      refine WL.y rfl (Y.assign) ?_
      refine WL.nil ?_
      refine WC.seqR rfl ?_
      refine WL.y rfl (Y.move) ?_
      refine WL.y rfl (Y.dF (Y.geq rfl rfl) (by omega)) ?_
      refine WL.y rfl (Y.move) ?_
      refine WL.off rfl ?_
      refine WL.off rfl ?_
      refine WL.y rfl (Y.pickF rfl) ?_
      refine WL.y rfl (Y.assign) ?_
      refine WL.nil ?_
      refine WC.seq ?_
      refine WC.block ?_
      refine WC.seqR rfl ?_
      refine WL.y rfl (Y.move) ?_
      refine WL.y rfl (Y.move) ?_
      refine WL.off rfl ?_
      refine WL.y rfl (Y.pickF rfl) ?_
      refine WL.y rfl (Y.assign) ?_
      refine WL.nil ?_
      refine WC.condF (rfl) ?_
      refine WC.seqR rfl ?_
      refine WL.y rfl (Y.move) ?_
      refine WL.y rfl (Y.dF (Y.geq rfl rfl) (by omega)) ?_
      refine WL.y rfl (Y.move) ?_
      refine WL.off rfl ?_
      refine WL.off rfl ?_
      refine WL.y rfl (Y.pickF rfl) ?_
      refine WL.y rfl (Y.assign) ?_
      refine WL.nil ?_
      refine WC.condF (rfl) ?_
      refine WC.seqR rfl ?_
      refine WL.y rfl (Y.move) ?_
      refine WL.y rfl (Y.assign) ?_
      refine WL.nil ?_
      refine WC.condF (rfl) ?_
      refine WC.skip (inBlockQ.normal (thenQ.normal ?_))
      refine WC.seqR rfl ?_
      refine WL.y rfl (Y.move) ?_
      refine WL.y rfl (Y.dT (Y.eqi rfl rfl) (rfl)) ?_
      refine WL.y rfl (Y.move) ?_
      refine WL.y rfl (Y.move) ?_
      refine WL.y rfl (Y.move) ?_
      refine WL.call rfl (C.func go17) (bytes_ret _ a hoka) ?_
      rintro _ w129 ⟨rfl, hb129⟩
      have k129 := Below.step k41 hb129
      refine WL.y rfl (Y.move) ?_
      refine WL.call rfl (C.func go17) (bytes_ret _ b hokb) ?_
      rintro _ w131 ⟨rfl, hb131⟩
      have k131 := Below.step k129 hb131
      refine WL.y rfl (Y.catS rfl rfl (by omega)) ?_
      refine WL.y rfl (Y.bT (Y.eqS rfl rfl) (decide_eq_true rfl)) ?_
      refine WL.y rfl (Y.pickT rfl) ?_
      refine WL.y rfl (Y.move) ?_
      refine WL.y rfl (Y.move) ?_
      refine WL.y rfl (Y.dT (Y.eqi rfl rfl) (rfl)) ?_
      refine WL.y rfl (Y.pickT rfl) ?_
      refine WL.y rfl (Y.move) ?_
      refine WL.call rfl (C.func go11) (known_ret _ (hT.bel k131)) ?_
      rintro _ w140 ⟨rfl, hb140⟩
      have k140 := Below.step k131 hb140
      refine WL.y rfl (Y.pickT rfl) ?_
      refine WL.y rfl (Y.assign) ?_
      refine WL.nil ?_
      refine WC.ret (endQ.one (.inr rfl) ?_)
      exact ⟨rfl, k140⟩
    · have hu := halves3 a b up ha0 (by omega) (by omega) (by omega)
      refine Ret.of (n := 142) (rs := #[.tmp 6]) Tryd.func7 rfl rfl rfl (by simp) ?_
      refine WC.seqR rfl ?_
      refine WL.y rfl (Y.assign) ?_
      refine WL.nil ?_
      refine WC.seq ?_
      refine WC.seqR rfl ?_
      refine WL.y rfl (Y.move) ?_
      refine WL.y rfl (Y.dF (Y.lss rfl rfl) (by omega)) ?_
      refine WL.y rfl (Y.move) ?_
      refine WL.y rfl (Y.move) ?_
      refine WL.y rfl (Y.dF (Y.gtr rfl rfl) (by omega)) ?_
      refine WL.y rfl (Y.pickF rfl) ?_
      refine WL.y rfl (Y.move) ?_
      refine WL.y rfl (Y.move) ?_
      refine WL.y rfl (Y.dF (Y.lss rfl rfl) (by omega)) ?_
      refine WL.y rfl (Y.pickF rfl) ?_
      refine WL.y rfl (Y.move) ?_
      refine WL.y rfl (Y.move) ?_
      refine WL.y rfl (Y.dF (Y.gtr rfl rfl) (by omega)) ?_
      refine WL.y rfl (Y.pickF rfl) ?_
      refine WL.nil ?_
      refine WC.condF (rfl) ?_
      refine WC.skip (thenQ.normal ?_)
      refine WC.seqR rfl ?_
      refine WL.y rfl (Y.move) ?_
      refine WL.y rfl (Y.move) ?_
      refine WL.call rfl (C.func go16) (lescape_ret _ a up ha0) ?_
      rintro _ _ ⟨rfl, rfl⟩
      refine WL.y rfl (Y.catS (a := [34]) rfl rfl (by rw [hla]; decide)) ?_
      refine WL.y rfl (Y.move) ?_
      refine WL.y rfl (Y.move) ?_
      refine WL.y rfl (Y.not rfl) ?_
      refine WL.call rfl (C.func go16) (lescape_ret _ b (!up) hb0) ?_
      rintro _ _ ⟨rfl, rfl⟩
      refine WL.y rfl (Y.catS rfl rfl (by simp only [List.length_append, List.length_cons, List.length_nil]; omega)) ?_
      refine WL.y rfl (Y.catS (b := [34]) rfl rfl (by simp only [List.length_append, List.length_cons, List.length_nil]; omega)) ?_
      refine WL.y rfl (Y.assign) ?_
      refine WL.nil ?_
      refine WC.seqR rfl ?_
      refine WL.y rfl (Y.move) ?_
      refine WL.call rfl (C.func go14) (unquote_eq _ (twoE a b up) 0 (by decide) (hT.bel (Below.refl _ _)) (by rw [hlen]; decide) hu) ?_
      rintro _ w41 ⟨rfl, hb41⟩
      have k41 := hb41
      refine WL.y rfl (Y.move) ?_
      refine WL.y rfl (Y.extract rfl rfl) ?_
      refine WL.y rfl (Y.extract rfl rfl) ?_
      refine WL.y rfl (Y.extract rfl rfl) ?_
      refine WL.y rfl (Y.assign) ?_
      refine WL.y rfl (Y.assign) ?_
      refine WL.y rfl (Y.assign) ?_
      refine WL.nil ?_
      refine WC.seqR rfl ?_
      refine WL.y rfl (Y.move) ?_
      refine WL.y rfl (Y.dF (Y.geq rfl rfl) (by omega)) ?_
      refine WL.y rfl (Y.move) ?_
      refine WL.off rfl ?_
      refine WL.off rfl ?_
      refine WL.y rfl (Y.pickF rfl) ?_
      refine WL.y rfl (Y.move) ?_
      refine WL.y rfl (Y.dF (Y.geq rfl rfl) (by omega)) ?_
      refine WL.y rfl (Y.move) ?_
      refine WL.off rfl ?_
      refine WL.off rfl ?_
      refine WL.y rfl (Y.pickF rfl) ?_
      refine WL.y rfl (Y.assign) ?_
      refine WL.y rfl (Y.assign) ?_
      refine WL.nil ?_
      refine WC.seqR rfl ?_
      refine WL.y rfl (Y.move) ?_
      refine WL.y rfl (Y.dT (Y.geq rfl rfl) (by omega)) ?_
      refine WL.y rfl (Y.move) ?_
      refine WL.y rfl (Y.move) ?_
      refine WL.y rfl (Y.dT (Y.lss rfl rfl) (by omega)) ?_
      refine WL.y rfl (Y.pickT rfl) ?_
      refine WL.y rfl (Y.assign) ?_
      refine WL.nil ?_
      refine WC.seq ?_
      refine WC.block ?_
      refine WC.seqR rfl ?_
      refine WL.y rfl (Y.move) ?_
      refine WL.y rfl (Y.move) ?_
      refine WL.off rfl ?_
      refine WL.y rfl (Y.pickF rfl) ?_
      refine WL.y rfl (Y.assign) ?_
      refine WL.nil ?_
      refine WC.condF (rfl) ?_
      refine WC.seqR rfl ?_
      refine WL.y rfl (Y.move) ?_
      refine WL.y rfl (Y.dF (Y.geq rfl rfl) (by omega)) ?_
      refine WL.y rfl (Y.move) ?_
      refine WL.off rfl ?_
      refine WL.off rfl ?_
      refine WL.y rfl (Y.pickF rfl) ?_
      refine WL.y rfl (Y.assign) ?_
      refine WL.nil ?_
      refine WC.condF (rfl) ?_
      refine WC.seqR rfl ?_
      refine WL.y rfl (Y.move) ?_
      refine WL.y rfl (Y.assign) ?_
      refine WL.nil ?_
      refine WC.condT (rfl) ?_
      refine WC.seqR rfl ?_
      refine WL.y rfl (Y.move) ?_
      refine WL.y rfl (Y.dT (Y.eqi rfl rfl) (rfl)) ?_
      refine WL.y rfl (Y.move) ?_
      refine WL.y rfl (Y.move) ?_
      refine WL.y rfl (Y.dT (Y.eqi rfl rfl) (rfl)) ?_
      refine WL.y rfl (Y.pickT rfl) ?_
      refine WL.y rfl (Y.move) ?_
      refine WL.y rfl (Y.move) ?_
      refine WL.y rfl (Y.bT (Y.eqS (b := []) rfl rfl) (decide_eq_true rfl)) ?_
      refine WL.y rfl (Y.pickT rfl) ?_
      refine WL.y rfl (Y.move) ?_
      refine WL.call rfl (C.func go11) (known_ret _ (hT.bel k41)) ?_
      rintro _ w122 ⟨rfl, hb122⟩
      have k122 := Below.step k41 hb122
      refine WL.y rfl (Y.pickT rfl) ?_
      refine WL.y rfl (Y.assign) ?_
      refine WL.nil ?_
      refine WC.ret (inBlockQ.ret (thenQ.ret (endQ.one (.inr rfl) ?_)))
      exact ⟨rfl, k122⟩
    · have hu := halves3 a b up ha0 (by omega) (by omega) (by omega)
      refine Ret.of (n := 142) (rs := #[.tmp 6]) Tryd.func7 rfl rfl rfl (by simp) ?_
      refine WC.seqR rfl ?_
      refine WL.y rfl (Y.assign) ?_
      refine WL.nil ?_
      refine WC.seq ?_
      refine WC.seqR rfl ?_
      refine WL.y rfl (Y.move) ?_
      refine WL.y rfl (Y.dF (Y.lss rfl rfl) (by omega)) ?_
      refine WL.y rfl (Y.move) ?_
      refine WL.y rfl (Y.move) ?_
      refine WL.y rfl (Y.dF (Y.gtr rfl rfl) (by omega)) ?_
      refine WL.y rfl (Y.pickF rfl) ?_
      refine WL.y rfl (Y.move) ?_
      refine WL.y rfl (Y.move) ?_
      refine WL.y rfl (Y.dF (Y.lss rfl rfl) (by omega)) ?_
      refine WL.y rfl (Y.pickF rfl) ?_
      refine WL.y rfl (Y.move) ?_
      refine WL.y rfl (Y.move) ?_
      refine WL.y rfl (Y.dF (Y.gtr rfl rfl) (by omega)) ?_
      refine WL.y rfl (Y.pickF rfl) ?_
      refine WL.nil ?_
      refine WC.condF (rfl) ?_
      refine WC.skip (thenQ.normal ?_)
      refine WC.seqR rfl ?_
      refine WL.y rfl (Y.move) ?_
      refine WL.y rfl (Y.move) ?_
      refine WL.call rfl (C.func go16) (lescape_ret _ a up ha0) ?_
      rintro _ _ ⟨rfl, rfl⟩
      refine WL.y rfl (Y.catS (a := [34]) rfl rfl (by rw [hla]; decide)) ?_
      refine WL.y rfl (Y.move) ?_
      refine WL.y rfl (Y.move) ?_
      refine WL.y rfl (Y.not rfl) ?_
      refine WL.call rfl (C.func go16) (lescape_ret _ b (!up) hb0) ?_
      rintro _ _ ⟨rfl, rfl⟩
      refine WL.y rfl (Y.catS rfl rfl (by simp only [List.length_append, List.length_cons, List.length_nil]; omega)) ?_
      refine WL.y rfl (Y.catS (b := [34]) rfl rfl (by simp only [List.length_append, List.length_cons, List.length_nil]; omega)) ?_
      refine WL.y rfl (Y.assign) ?_
      refine WL.nil ?_
      refine WC.seqR rfl ?_
      refine WL.y rfl (Y.move) ?_
      refine WL.call rfl (C.func go14) (unquote_eq _ (twoE a b up) 0 (by decide) (hT.bel (Below.refl _ _)) (by rw [hlen]; decide) hu) ?_
      rintro _ w41 ⟨rfl, hb41⟩
      have k41 := hb41
      refine WL.y rfl (Y.move) ?_
      refine WL.y rfl (Y.extract rfl rfl) ?_
      refine WL.y rfl (Y.extract rfl rfl) ?_
      refine WL.y rfl (Y.extract rfl rfl) ?_
      refine WL.y rfl (Y.assign) ?_
      refine WL.y rfl (Y.assign) ?_
      refine WL.y rfl (Y.assign) ?_
      refine WL.nil ?_
      refine WC.seqR rfl ?_
      refine WL.y rfl (Y.move) ?_
      refine WL.y rfl (Y.dF (Y.geq rfl rfl) (by omega)) ?_
      refine WL.y rfl (Y.move) ?_
      refine WL.off rfl ?_
      refine WL.off rfl ?_
      refine WL.y rfl (Y.pickF rfl) ?_
      refine WL.y rfl (Y.move) ?_
      refine WL.y rfl (Y.dT (Y.geq rfl rfl) (by omega)) ?_
      refine WL.y rfl (Y.move) ?_
      refine WL.y rfl (Y.move) ?_
      refine WL.y rfl (Y.dT (Y.lss rfl rfl) (by omega)) ?_
      refine WL.y rfl (Y.pickT rfl) ?_
      refine WL.y rfl (Y.assign) ?_
      refine WL.y rfl (Y.assign) ?_
      refine WL.nil ?_
      refine WC.seqR rfl ?_
      refine WL.y rfl (Y.move) ?_
      refine WL.y rfl (Y.dT (Y.geq rfl rfl) (by omega)) ?_
      refine WL.y rfl (Y.move) ?_
      refine WL.y rfl (Y.move) ?_
      refine WL.y rfl (Y.dT (Y.lss rfl rfl) (by omega)) ?_
      refine WL.y rfl (Y.pickT rfl) ?_
      refine WL.y rfl (Y.assign) ?_
      refine WL.nil ?_
      refine WC.seq ?_
      refine WC.block ?_
      refine WC.seqR rfl ?_
      refine WL.y rfl (Y.move) ?_
      refine WL.y rfl (Y.move) ?_
      refine WL.off rfl ?_
      refine WL.y rfl (Y.pickF rfl) ?_
      refine WL.y rfl (Y.assign) ?_
      refine WL.nil ?_
      refine WC.condF (rfl) ?_
      refine WC.seqR rfl ?_
      refine WL.y rfl (Y.move) ?_
      refine WL.y rfl (Y.dF (Y.geq rfl rfl) (by omega)) ?_
      refine WL.y rfl (Y.move) ?_
      refine WL.off rfl ?_
      refine WL.off rfl ?_
      refine WL.y rfl (Y.pickF rfl) ?_
      refine WL.y rfl (Y.assign) ?_
      refine WL.nil ?_
      refine WC.condF (rfl) ?_
      refine WC.seqR rfl ?_
      refine WL.y rfl (Y.move) ?_
      refine WL.y rfl (Y.assign) ?_
      refine WL.nil ?_
      refine WC.condT (rfl) ?_
      refine WC.seqR rfl ?_
      refine WL.y rfl (Y.move) ?_
      refine WL.y rfl (Y.dT (Y.eqi rfl rfl) (rfl)) ?_
      refine WL.y rfl (Y.move) ?_
      refine WL.y rfl (Y.move) ?_
      refine WL.y rfl (Y.dT (Y.eqi rfl rfl) (rfl)) ?_
      refine WL.y rfl (Y.pickT rfl) ?_
      refine WL.y rfl (Y.move) ?_
      refine WL.y rfl (Y.move) ?_
      refine WL.y rfl (Y.bT (Y.eqS (b := []) rfl rfl) (decide_eq_true rfl)) ?_
      refine WL.y rfl (Y.pickT rfl) ?_
      refine WL.y rfl (Y.move) ?_
      refine WL.call rfl (C.func go11) (known_ret _ (hT.bel k41)) ?_
      rintro _ w122 ⟨rfl, hb122⟩
      have k122 := Below.step k41 hb122
      refine WL.y rfl (Y.pickT rfl) ?_
      refine WL.y rfl (Y.assign) ?_
      refine WL.nil ?_
      refine WC.ret (inBlockQ.ret (thenQ.ret (endQ.one (.inr rfl) ?_)))
      exact ⟨rfl, k122⟩
    · have hu := halves4 a b up ha0 (by omega) hb0 (by omega)
      have hoka : okR a := by unfold okR; omega
      have hokb : okR b := by unfold okR; omega
      have hea := enc_len a
      have heb := enc_len b
      refine Ret.of (n := 142) (rs := #[.tmp 6]) Tryd.func7 rfl rfl rfl (by simp) ?_
      refine WC.seqR rfl ?_
      refine WL.y rfl (Y.assign) ?_
      refine WL.nil ?_
      refine WC.seq ?_
      refine WC.seqR rfl ?_
      refine WL.y rfl (Y.move) ?_
      refine WL.y rfl (Y.dF (Y.lss rfl rfl) (by omega)) ?_
      refine WL.y rfl (Y.move) ?_
      refine WL.y rfl (Y.move) ?_
      refine WL.y rfl (Y.dF (Y.gtr rfl rfl) (by omega)) ?_
      refine WL.y rfl (Y.pickF rfl) ?_
      refine WL.y rfl (Y.move) ?_
      refine WL.y rfl (Y.move) ?_
      refine WL.y rfl (Y.dF (Y.lss rfl rfl) (by omega)) ?_
      refine WL.y rfl (Y.pickF rfl) ?_
      refine WL.y rfl (Y.move) ?_
      refine WL.y rfl (Y.move) ?_
      refine WL.y rfl (Y.dF (Y.gtr rfl rfl) (by omega)) ?_
      refine WL.y rfl (Y.pickF rfl) ?_
      refine WL.nil ?_
      refine WC.condF (rfl) ?_
      refine WC.skip (thenQ.normal ?_)
      refine WC.seqR rfl ?_
      refine WL.y rfl (Y.move) ?_
      refine WL.y rfl (Y.move) ?_
      refine WL.call rfl (C.func go16) (lescape_ret _ a up ha0) ?_
      rintro _ _ ⟨rfl, rfl⟩
      refine WL.y rfl (Y.catS (a := [34]) rfl rfl (by rw [hla]; decide)) ?_
      refine WL.y rfl (Y.move) ?_
      refine WL.y rfl (Y.move) ?_
      refine WL.y rfl (Y.not rfl) ?_
      refine WL.call rfl (C.func go16) (lescape_ret _ b (!up) hb0) ?_
      rintro _ _ ⟨rfl, rfl⟩
      refine WL.y rfl (Y.catS rfl rfl (by simp only [List.length_append, List.length_cons, List.length_nil]; omega)) ?_
      refine WL.y rfl (Y.catS (b := [34]) rfl rfl (by simp only [List.length_append, List.length_cons, List.length_nil]; omega)) ?_
      refine WL.y rfl (Y.assign) ?_
      refine WL.nil ?_
      refine WC.seqR rfl ?_
      refine WL.y rfl (Y.move) ?_
      refine WL.call rfl (C.func go14) (unquote_eq _ (twoE a b up) 0 (by decide) (hT.bel (Below.refl _ _)) (by rw [hlen]; decide) hu) ?_
      rintro _ w41 ⟨rfl, hb41⟩
      have k41 := hb41
      refine WL.y rfl (Y.move) ?_
      refine WL.y rfl (Y.extract rfl rfl) ?_
      refine WL.y rfl (Y.extract rfl rfl) ?_
      refine WL.y rfl (Y.extract rfl rfl) ?_
      refine WL.y rfl (Y.assign) ?_
      refine WL.y rfl (Y.assign) ?_
      refine WL.y rfl (Y.assign) ?_
      refine WL.nil ?_
      refine WC.seqR rfl ?_
      refine WL.y rfl (Y.move) ?_
      refine WL.y rfl (Y.dF (Y.geq rfl rfl) (by omega)) ?_
      refine WL.y rfl (Y.move) ?_
      refine WL.off rfl ?_
      refine WL.off rfl ?_
      refine WL.y rfl (Y.pickF rfl) ?_
      refine WL.y rfl (Y.move) ?_
      refine WL.y rfl (Y.dT (Y.geq rfl rfl) (by omega)) ?_
      refine WL.y rfl (Y.move) ?_
      refine WL.y rfl (Y.move) ?_
      refine WL.y rfl (Y.dF (Y.lss rfl rfl) (by omega)) ?_
      refine WL.y rfl (Y.pickT rfl) ?_
      refine WL.y rfl (Y.assign) ?_
      refine WL.y rfl (Y.assign) ?_
      refine WL.nil ?_
      refine WC.seqR rfl ?_
      refine WL.y rfl (Y.move) ?_
      refine WL.y rfl (Y.dT (Y.geq rfl rfl) (by omega)) ?_
      refine WL.y rfl (Y.move) ?_
      refine WL.y rfl (Y.move) ?_
      refine WL.y rfl (Y.dF (Y.lss rfl rfl) (by omega)) ?_
      refine WL.y rfl (Y.pickT rfl) ?_
      refine WL.y rfl (Y.assign) ?_
      refine WL.nil ?_
      refine WC.seq ?_
      refine WC.block ?_
      refine WC.seqR rfl ?_
      refine WL.y rfl (Y.move) ?_
      refine WL.y rfl (Y.move) ?_
      refine WL.off rfl ?_
      refine WL.y rfl (Y.pickF rfl) ?_
      refine WL.y rfl (Y.assign) ?_
      refine WL.nil ?_
      refine WC.condF (rfl) ?_
      refine WC.seqR rfl ?_
      refine WL.y rfl (Y.move) ?_
      refine WL.y rfl (Y.dF (Y.geq rfl rfl) (by omega)) ?_
      refine WL.y rfl (Y.move) ?_
      refine WL.off rfl ?_
      refine WL.off rfl ?_
      refine WL.y rfl (Y.pickF rfl) ?_
      refine WL.y rfl (Y.assign) ?_
      refine WL.nil ?_
      refine WC.condF (rfl) ?_
      refine WC.seqR rfl ?_
      refine WL.y rfl (Y.move) ?_
      refine WL.y rfl (Y.assign) ?_
      refine WL.nil ?_
      refine WC.condF (rfl) ?_
      refine WC.skip (inBlockQ.normal (thenQ.normal ?_))
      refine WC.seqR rfl ?_
      refine WL.y rfl (Y.move) ?_
      refine WL.y rfl (Y.dT (Y.eqi rfl rfl) (rfl)) ?_
      refine WL.y rfl (Y.move) ?_
      refine WL.y rfl (Y.move) ?_
      refine WL.y rfl (Y.move) ?_
      refine WL.call rfl (C.func go17) (bytes_ret _ a hoka) ?_
      rintro _ w129 ⟨rfl, hb129⟩
      have k129 := Below.step k41 hb129
      refine WL.y rfl (Y.move) ?_
      refine WL.call rfl (C.func go17) (bytes_ret _ b hokb) ?_
      rintro _ w131 ⟨rfl, hb131⟩
      have k131 := Below.step k129 hb131
      refine WL.y rfl (Y.catS rfl rfl (by omega)) ?_
      refine WL.y rfl (Y.bT (Y.eqS rfl rfl) (decide_eq_true rfl)) ?_
      refine WL.y rfl (Y.pickT rfl) ?_
      refine WL.y rfl (Y.move) ?_
      refine WL.y rfl (Y.move) ?_
      refine WL.y rfl (Y.dT (Y.eqi rfl rfl) (rfl)) ?_
      refine WL.y rfl (Y.pickT rfl) ?_
      refine WL.y rfl (Y.move) ?_
      refine WL.call rfl (C.func go11) (known_ret _ (hT.bel k131)) ?_
      rintro _ w140 ⟨rfl, hb140⟩
      have k140 := Below.step k131 hb140
      refine WL.y rfl (Y.pickT rfl) ?_
      refine WL.y rfl (Y.assign) ?_
      refine WL.nil ?_
      refine WC.ret (endQ.one (.inr rfl) ?_)
      exact ⟨rfl, k140⟩
  · rcases hB with hB | ⟨hB, hB'⟩ | ⟨hB, hB'⟩ | hB
    · have hu := halves2 a b up (by omega) (by omega) hb0 (by omega)
      refine Ret.of (n := 142) (rs := #[.tmp 6]) Tryd.func7 rfl rfl rfl (by simp) ?_
      refine WC.seqR rfl ?_
      refine WL.y rfl (Y.assign) ?_
      refine WL.nil ?_
      refine WC.seq ?_
      refine WC.seqR rfl ?_
      refine WL.y rfl (Y.move) ?_
      refine WL.y rfl (Y.dF (Y.lss rfl rfl) (by omega)) ?_
      refine WL.y rfl (Y.move) ?_
      refine WL.y rfl (Y.move) ?_
      refine WL.y rfl (Y.dF (Y.gtr rfl rfl) (by omega)) ?_
      refine WL.y rfl (Y.pickF rfl) ?_
      refine WL.y rfl (Y.move) ?_
      refine WL.y rfl (Y.move) ?_
      refine WL.y rfl (Y.dF (Y.lss rfl rfl) (by omega)) ?_
      refine WL.y rfl (Y.pickF rfl) ?_
      refine WL.y rfl (Y.move) ?_
      refine WL.y rfl (Y.move) ?_
      refine WL.y rfl (Y.dF (Y.gtr rfl rfl) (by omega)) ?_
      refine WL.y rfl (Y.pickF rfl) ?_
      refine WL.nil ?_
      refine WC.condF (rfl) ?_
      refine WC.skip (thenQ.normal ?_)
      refine WC.seqR rfl ?_
      refine WL.y rfl (Y.move) ?_
      refine WL.y rfl (Y.move) ?_
      refine WL.call rfl (C.func go16) (lescape_ret _ a up ha0) ?_
      rintro _ _ ⟨rfl, rfl⟩
      refine WL.y rfl (Y.catS (a := [34]) rfl rfl (by rw [hla]; decide)) ?_
      refine WL.y rfl (Y.move) ?_
      refine WL.y rfl (Y.move) ?_
      refine WL.y rfl (Y.not rfl) ?_
      refine WL.call rfl (C.func go16) (lescape_ret _ b (!up) hb0) ?_
      rintro _ _ ⟨rfl, rfl⟩
      refine WL.y rfl (Y.catS rfl rfl (by simp only [List.length_append, List.length_cons, List.length_nil]; omega)) ?_
      refine WL.y rfl (Y.catS (b := [34]) rfl rfl (by simp only [List.length_append, List.length_cons, List.length_nil]; omega)) ?_
      refine WL.y rfl (Y.assign) ?_
      refine WL.nil ?_
      refine WC.seqR rfl ?_
      refine WL.y rfl (Y.move) ?_
      refine WL.call rfl (C.func go14) (unquote_eq _ (twoE a b up) 0 (by decide) (hT.bel (Below.refl _ _)) (by rw [hlen]; decide) hu) ?_
      rintro _ w41 ⟨rfl, hb41⟩
      have k41 := hb41
      refine WL.y rfl (Y.move) ?_
      refine WL.y rfl (Y.extract rfl rfl) ?_
      refine WL.y rfl (Y.extract rfl rfl) ?_
      refine WL.y rfl (Y.extract rfl rfl) ?_
      refine WL.y rfl (Y.assign) ?_
      refine WL.y rfl (Y.assign) ?_
      refine WL.y rfl (Y.assign) ?_
      refine WL.nil ?_
      refine WC.seqR rfl ?_
      refine WL.y rfl (Y.move) ?_
      refine WL.y rfl (Y.dT (Y.geq rfl rfl) (by omega)) ?_
      refine WL.y rfl (Y.move) ?_
      refine WL.y rfl (Y.move) ?_
      refine WL.y rfl (Y.dT (Y.lss rfl rfl) (by omega)) ?_
      refine WL.y rfl (Y.pickT rfl) ?_
      refine WL.y rfl (Y.move) ?_
      refine WL.y rfl (Y.dF (Y.geq rfl rfl) (by omega)) ?_
      refine WL.y rfl (Y.move) ?_
      refine WL.off rfl ?_
      refine WL.off rfl ?_
      refine WL.y rfl (Y.pickF rfl) ?_
      refine WL.y rfl (Y.assign) ?_
      refine WL.y rfl (Y.assign) ?_
      refine WL.nil ?_
      refine WC.seqR rfl ?_
      refine WL.y rfl (Y.move) ?_
      refine WL.y rfl (Y.dF (Y.geq rfl rfl) (by omega)) ?_
      refine WL.y rfl (Y.move) ?_
      refine WL.off rfl ?_
      refine WL.off rfl ?_
      refine WL.y rfl (Y.pickF rfl) ?_
      refine WL.y rfl (Y.assign) ?_
      refine WL.nil ?_
      refine WC.seq ?_
      refine WC.block ?_
      refine WC.seqR rfl ?_
      refine WL.y rfl (Y.move) ?_
      refine WL.y rfl (Y.move) ?_
      refine WL.y rfl (Y.move) ?_
      refine WL.y rfl (Y.pickT rfl) ?_
      refine WL.y rfl (Y.assign) ?_
      refine WL.nil ?_
      refine WC.condF (rfl) ?_
      refine WC.seqR rfl ?_
      refine WL.y rfl (Y.move) ?_
      refine WL.y rfl (Y.dT (Y.geq rfl rfl) (by omega)) ?_
      refine WL.y rfl (Y.move) ?_
      refine WL.y rfl (Y.move) ?_
      refine WL.y rfl (Y.dT (Y.lss rfl rfl) (by omega)) ?_
      refine WL.y rfl (Y.pickT rfl) ?_
      refine WL.y rfl (Y.assign) ?_
      refine WL.nil ?_
      refine WC.condT (rfl) ?_
      refine WC.seqR rfl ?_
      refine WL.y rfl (Y.move) ?_
      refine WL.y rfl (Y.dT (Y.eqi rfl rfl) (rfl)) ?_
      refine WL.y rfl (Y.move) ?_
      refine WL.y rfl (Y.move) ?_
      refine WL.y rfl (Y.dT (Y.eqi rfl rfl) (rfl)) ?_
      refine WL.y rfl (Y.pickT rfl) ?_
      refine WL.y rfl (Y.move) ?_
      refine WL.y rfl (Y.move) ?_
      refine WL.y rfl (Y.bT (Y.eqS (b := []) rfl rfl) (decide_eq_true rfl)) ?_
      refine WL.y rfl (Y.pickT rfl) ?_
      refine WL.y rfl (Y.move) ?_
      refine WL.call rfl (C.func go11) (known_ret _ (hT.bel k41)) ?_
      rintro _ w107 ⟨rfl, hb107⟩
      have k107 := Below.step k41 hb107
      refine WL.y rfl (Y.pickT rfl) ?_
      refine WL.y rfl (Y.assign) ?_
      refine WL.nil ?_
      refine WC.ret (inBlockQ.ret (thenQ.ret (endQ.one (.inr rfl) ?_)))
      exact ⟨rfl, k107⟩
    · have hu := halves2 a b up (by omega) (by omega) hb0 (by omega)
      refine Ret.of (n := 142) (rs := #[.tmp 6]) Tryd.func7 rfl rfl rfl (by simp) ?_
      refine WC.seqR rfl ?_
      refine WL.y rfl (Y.assign) ?_
      refine WL.nil ?_
      refine WC.seq ?_
      refine WC.seqR rfl ?_
      refine WL.y rfl (Y.move) ?_
      refine WL.y rfl (Y.dF (Y.lss rfl rfl) (by omega)) ?_
      refine WL.y rfl (Y.move) ?_
      refine WL.y rfl (Y.move) ?_
      refine WL.y rfl (Y.dF (Y.gtr rfl rfl) (by omega)) ?_
      refine WL.y rfl (Y.pickF rfl) ?_
      refine WL.y rfl (Y.move) ?_
      refine WL.y rfl (Y.move) ?_
      refine WL.y rfl (Y.dF (Y.lss rfl rfl) (by omega)) ?_
      refine WL.y rfl (Y.pickF rfl) ?_
      refine WL.y rfl (Y.move) ?_
      refine WL.y rfl (Y.move) ?_
      refine WL.y rfl (Y.dF (Y.gtr rfl rfl) (by omega)) ?_
      refine WL.y rfl (Y.pickF rfl) ?_
      refine WL.nil ?_
      refine WC.condF (rfl) ?_
      refine WC.skip (thenQ.normal ?_)
      refine WC.seqR rfl ?_
      refine WL.y rfl (Y.move) ?_
      refine WL.y rfl (Y.move) ?_
      refine WL.call rfl (C.func go16) (lescape_ret _ a up ha0) ?_
      rintro _ _ ⟨rfl, rfl⟩
      refine WL.y rfl (Y.catS (a := [34]) rfl rfl (by rw [hla]; decide)) ?_
      refine WL.y rfl (Y.move) ?_
      refine WL.y rfl (Y.move) ?_
      refine WL.y rfl (Y.not rfl) ?_
      refine WL.call rfl (C.func go16) (lescape_ret _ b (!up) hb0) ?_
      rintro _ _ ⟨rfl, rfl⟩
      refine WL.y rfl (Y.catS rfl rfl (by simp only [List.length_append, List.length_cons, List.length_nil]; omega)) ?_
      refine WL.y rfl (Y.catS (b := [34]) rfl rfl (by simp only [List.length_append, List.length_cons, List.length_nil]; omega)) ?_
      refine WL.y rfl (Y.assign) ?_
      refine WL.nil ?_
      refine WC.seqR rfl ?_
      refine WL.y rfl (Y.move) ?_
      refine WL.call rfl (C.func go14) (unquote_eq _ (twoE a b up) 0 (by decide) (hT.bel (Below.refl _ _)) (by rw [hlen]; decide) hu) ?_
      rintro _ w41 ⟨rfl, hb41⟩
      have k41 := hb41
      refine WL.y rfl (Y.move) ?_
      refine WL.y rfl (Y.extract rfl rfl) ?_
      refine WL.y rfl (Y.extract rfl rfl) ?_
      refine WL.y rfl (Y.extract rfl rfl) ?_
      refine WL.y rfl (Y.assign) ?_
      refine WL.y rfl (Y.assign) ?_
      refine WL.y rfl (Y.assign) ?_
      refine WL.nil ?_
      refine WC.seqR rfl ?_
      refine WL.y rfl (Y.move) ?_
      refine WL.y rfl (Y.dT (Y.geq rfl rfl) (by omega)) ?_
      refine WL.y rfl (Y.move) ?_
      refine WL.y rfl (Y.move) ?_
      refine WL.y rfl (Y.dT (Y.lss rfl rfl) (by omega)) ?_
      refine WL.y rfl (Y.pickT rfl) ?_
      refine WL.y rfl (Y.move) ?_
      refine WL.y rfl (Y.dF (Y.geq rfl rfl) (by omega)) ?_
      refine WL.y rfl (Y.move) ?_
      refine WL.off rfl ?_
      refine WL.off rfl ?_
      refine WL.y rfl (Y.pickF rfl) ?_
      refine WL.y rfl (Y.assign) ?_
      refine WL.y rfl (Y.assign) ?_
      refine WL.nil ?_
      refine WC.seqR rfl ?_
      refine WL.y rfl (Y.move) ?_
      refine WL.y rfl (Y.dT (Y.geq rfl rfl) (by omega)) ?_
      refine WL.y rfl (Y.move) ?_
      refine WL.y rfl (Y.move) ?_
      refine WL.y rfl (Y.dT (Y.lss rfl rfl) (by omega)) ?_
      refine WL.y rfl (Y.pickT rfl) ?_
      refine WL.y rfl (Y.assign) ?_
      refine WL.nil ?_
      refine WC.seq ?_
      refine WC.block ?_
      refine WC.seqR rfl ?_
      refine WL.y rfl (Y.move) ?_
      refine WL.y rfl (Y.move) ?_
      refine WL.y rfl (Y.move) ?_
      refine WL.y rfl (Y.pickT rfl) ?_
      refine WL.y rfl (Y.assign) ?_
      refine WL.nil ?_
      refine WC.condF (rfl) ?_
      refine WC.seqR rfl ?_
      refine WL.y rfl (Y.move) ?_
      refine WL.y rfl (Y.dT (Y.geq rfl rfl) (by omega)) ?_
      refine WL.y rfl (Y.move) ?_
      refine WL.y rfl (Y.move) ?_
      refine WL.y rfl (Y.dT (Y.lss rfl rfl) (by omega)) ?_
      refine WL.y rfl (Y.pickT rfl) ?_
      refine WL.y rfl (Y.assign) ?_
      refine WL.nil ?_
      refine WC.condT (rfl) ?_
      refine WC.seqR rfl ?_
      refine WL.y rfl (Y.move) ?_
      refine WL.y rfl (Y.dT (Y.eqi rfl rfl) (rfl)) ?_
      refine WL.y rfl (Y.move) ?_
      refine WL.y rfl (Y.move) ?_
      refine WL.y rfl (Y.dT (Y.eqi rfl rfl) (rfl)) ?_
      refine WL.y rfl (Y.pickT rfl) ?_
      refine WL.y rfl (Y.move) ?_
      refine WL.y rfl (Y.move) ?_
      refine WL.y rfl (Y.bT (Y.eqS (b := []) rfl rfl) (decide_eq_true rfl)) ?_
      refine WL.y rfl (Y.pickT rfl) ?_
      refine WL.y rfl (Y.move) ?_
      refine WL.call rfl (C.func go11) (known_ret _ (hT.bel k41)) ?_
      rintro _ w107 ⟨rfl, hb107⟩
      have k107 := Below.step k41 hb107
      refine WL.y rfl (Y.pickT rfl) ?_
      refine WL.y rfl (Y.assign) ?_
      refine WL.nil ?_
      refine WC.ret (inBlockQ.ret (thenQ.ret (endQ.one (.inr rfl) ?_)))
      exact ⟨rfl, k107⟩
    · have hu := halves1 a b up hA hA' hB hB'
      have hok : okR (65536 + 1024 * (a - 55296) + (b - 56320)) := by unfold okR; omega
      refine Ret.of (n := 142) (rs := #[.tmp 6]) Tryd.func7 rfl rfl rfl (by simp) ?_
      refine WC.seqR rfl ?_
      refine WL.y rfl (Y.assign) ?_
      refine WL.nil ?_
      refine WC.seq ?_
      refine WC.seqR rfl ?_
      refine WL.y rfl (Y.move) ?_
      refine WL.y rfl (Y.dF (Y.lss rfl rfl) (by omega)) ?_
      refine WL.y rfl (Y.move) ?_
      refine WL.y rfl (Y.move) ?_
      refine WL.y rfl (Y.dF (Y.gtr rfl rfl) (by omega)) ?_
      refine WL.y rfl (Y.pickF rfl) ?_
      refine WL.y rfl (Y.move) ?_
      refine WL.y rfl (Y.move) ?_
      refine WL.y rfl (Y.dF (Y.lss rfl rfl) (by omega)) ?_
      refine WL.y rfl (Y.pickF rfl) ?_
      refine WL.y rfl (Y.move) ?_
      refine WL.y rfl (Y.move) ?_
      refine WL.y rfl (Y.dF (Y.gtr rfl rfl) (by omega)) ?_
      refine WL.y rfl (Y.pickF rfl) ?_
      refine WL.nil ?_
      refine WC.condF (rfl) ?_
      refine WC.skip (thenQ.normal ?_)
      refine WC.seqR rfl ?_
      refine WL.y rfl (Y.move) ?_
      refine WL.y rfl (Y.move) ?_
      refine WL.call rfl (C.func go16) (lescape_ret _ a up ha0) ?_
      rintro _ _ ⟨rfl, rfl⟩
      refine WL.y rfl (Y.catS (a := [34]) rfl rfl (by rw [hla]; decide)) ?_
      refine WL.y rfl (Y.move) ?_
      refine WL.y rfl (Y.move) ?_
      refine WL.y rfl (Y.not rfl) ?_
      refine WL.call rfl (C.func go16) (lescape_ret _ b (!up) hb0) ?_
      rintro _ _ ⟨rfl, rfl⟩
      refine WL.y rfl (Y.catS rfl rfl (by simp only [List.length_append, List.length_cons, List.length_nil]; omega)) ?_
      refine WL.y rfl (Y.catS (b := [34]) rfl rfl (by simp only [List.length_append, List.length_cons, List.length_nil]; omega)) ?_
      refine WL.y rfl (Y.assign) ?_
      refine WL.nil ?_
      refine WC.seqR rfl ?_
      refine WL.y rfl (Y.move) ?_
      refine WL.call rfl (C.func go14) (unquote_eq _ (twoE a b up) 0 (by decide) (hT.bel (Below.refl _ _)) (by rw [hlen]; decide) hu) ?_
      rintro _ w41 ⟨rfl, hb41⟩
      have k41 := hb41
      refine WL.y rfl (Y.move) ?_
      refine WL.y rfl (Y.extract rfl rfl) ?_
      refine WL.y rfl (Y.extract rfl rfl) ?_
      refine WL.y rfl (Y.extract rfl rfl) ?_
      refine WL.y rfl (Y.assign) ?_
      refine WL.y rfl (Y.assign) ?_
      refine WL.y rfl (Y.assign) ?_
      refine WL.nil ?_
      refine WC.seqR rfl ?_
      refine WL.y rfl (Y.move) ?_
      refine WL.y rfl (Y.dT (Y.geq rfl rfl) (by omega)) ?_
      refine WL.y rfl (Y.move) ?_
      refine WL.y rfl (Y.move) ?_
      refine WL.y rfl (Y.dT (Y.lss rfl rfl) (by omega)) ?_
      refine WL.y rfl (Y.pickT rfl) ?_
      refine WL.y rfl (Y.move) ?_
      refine WL.y rfl (Y.dT (Y.geq rfl rfl) (by omega)) ?_
      refine WL.y rfl (Y.move) ?_
      refine WL.y rfl (Y.move) ?_
      refine WL.y rfl (Y.dT (Y.lss rfl rfl) (by omega)) ?_
      refine WL.y rfl (Y.pickT rfl) ?_
      refine WL.y rfl (Y.assign) ?_
      refine WL.y rfl (Y.assign) ?_
      refine WL.nil ?_
      refine WC.seqR rfl ?_
      refine WL.y rfl (Y.move) ?_
      refine WL.y rfl (Y.dT (Y.geq rfl rfl) (by omega)) ?_
      refine WL.y rfl (Y.move) ?_
      refine WL.y rfl (Y.move) ?_
      refine WL.y rfl (Y.dT (Y.lss rfl rfl) (by omega)) ?_
      refine WL.y rfl (Y.pickT rfl) ?_
      refine WL.y rfl (Y.assign) ?_
      refine WL.nil ?_
      refine WC.seq ?_
      refine WC.block ?_
      refine WC.seqR rfl ?_
      refine WL.y rfl (Y.move) ?_
      refine WL.y rfl (Y.move) ?_
      refine WL.y rfl (Y.move) ?_
      refine WL.y rfl (Y.pickT rfl) ?_
      refine WL.y rfl (Y.assign) ?_
      refine WL.nil ?_
      refine WC.condT (rfl) ?_
      refine WC.seqR rfl ?_
      refine WL.y rfl (Y.move) ?_
      refine WL.y rfl (Y.dT (Y.eqi rfl rfl) (rfl)) ?_
      refine WL.y rfl (Y.move) ?_
      refine WL.y rfl (Y.move) ?_
      refine WL.y rfl (Y.move) ?_
      refine WL.y rfl (Y.sub64 rfl rfl (by omega)) ?_
      refine WL.y rfl (Y.mul64 rfl rfl (by omega)) ?_
      refine WL.y rfl (Y.add64 rfl rfl (by omega)) ?_
      refine WL.y rfl (Y.move) ?_
      refine WL.y rfl (Y.add64 rfl rfl (by omega)) ?_
      refine WL.y rfl (Y.sub64 rfl rfl (by omega)) ?_
      refine WL.call rfl (C.func go17) (bytes_eq _ (65536 + 1024 * (a - 55296) + (b - 56320)) (65536 + 1024 * ((a : Int) - 55296) + (b : Int) - 56320) hok (by omega)) ?_
      rintro _ w79 ⟨rfl, hb79⟩
      have k79 := Below.step k41 hb79
      refine WL.y rfl (Y.bT (Y.eqS rfl rfl) (decide_eq_true rfl)) ?_
      refine WL.y rfl (Y.pickT rfl) ?_
      refine WL.y rfl (Y.move) ?_
      refine WL.y rfl (Y.move) ?_
      refine WL.y rfl (Y.dT (Y.eqi rfl rfl) (rfl)) ?_
      refine WL.y rfl (Y.pickT rfl) ?_
      refine WL.y rfl (Y.move) ?_
      refine WL.call rfl (C.func go11) (known_ret _ (hT.bel k79)) ?_
      rintro _ w87 ⟨rfl, hb87⟩
      have k87 := Below.step k79 hb87
      refine WL.y rfl (Y.pickT rfl) ?_
      refine WL.y rfl (Y.assign) ?_
      refine WL.nil ?_
      refine WC.ret (inBlockQ.ret (thenQ.ret (endQ.one (.inr rfl) ?_)))
      exact ⟨rfl, k87⟩
    · have hu := halves2 a b up (by omega) (by omega) hb0 (by omega)
      refine Ret.of (n := 142) (rs := #[.tmp 6]) Tryd.func7 rfl rfl rfl (by simp) ?_
      refine WC.seqR rfl ?_
      refine WL.y rfl (Y.assign) ?_
      refine WL.nil ?_
      refine WC.seq ?_
      refine WC.seqR rfl ?_
      refine WL.y rfl (Y.move) ?_
      refine WL.y rfl (Y.dF (Y.lss rfl rfl) (by omega)) ?_
      refine WL.y rfl (Y.move) ?_
      refine WL.y rfl (Y.move) ?_
      refine WL.y rfl (Y.dF (Y.gtr rfl rfl) (by omega)) ?_
      refine WL.y rfl (Y.pickF rfl) ?_
      refine WL.y rfl (Y.move) ?_
      refine WL.y rfl (Y.move) ?_
      refine WL.y rfl (Y.dF (Y.lss rfl rfl) (by omega)) ?_
      refine WL.y rfl (Y.pickF rfl) ?_
      refine WL.y rfl (Y.move) ?_
      refine WL.y rfl (Y.move) ?_
      refine WL.y rfl (Y.dF (Y.gtr rfl rfl) (by omega)) ?_
      refine WL.y rfl (Y.pickF rfl) ?_
      refine WL.nil ?_
      refine WC.condF (rfl) ?_
      refine WC.skip (thenQ.normal ?_)
      refine WC.seqR rfl ?_
      refine WL.y rfl (Y.move) ?_
      refine WL.y rfl (Y.move) ?_
      refine WL.call rfl (C.func go16) (lescape_ret _ a up ha0) ?_
      rintro _ _ ⟨rfl, rfl⟩
      refine WL.y rfl (Y.catS (a := [34]) rfl rfl (by rw [hla]; decide)) ?_
      refine WL.y rfl (Y.move) ?_
      refine WL.y rfl (Y.move) ?_
      refine WL.y rfl (Y.not rfl) ?_
      refine WL.call rfl (C.func go16) (lescape_ret _ b (!up) hb0) ?_
      rintro _ _ ⟨rfl, rfl⟩
      refine WL.y rfl (Y.catS rfl rfl (by simp only [List.length_append, List.length_cons, List.length_nil]; omega)) ?_
      refine WL.y rfl (Y.catS (b := [34]) rfl rfl (by simp only [List.length_append, List.length_cons, List.length_nil]; omega)) ?_
      refine WL.y rfl (Y.assign) ?_
      refine WL.nil ?_
      refine WC.seqR rfl ?_
      refine WL.y rfl (Y.move) ?_
      refine WL.call rfl (C.func go14) (unquote_eq _ (twoE a b up) 0 (by decide) (hT.bel (Below.refl _ _)) (by rw [hlen]; decide) hu) ?_
      rintro _ w41 ⟨rfl, hb41⟩
      have k41 := hb41
      refine WL.y rfl (Y.move) ?_
      refine WL.y rfl (Y.extract rfl rfl) ?_
      refine WL.y rfl (Y.extract rfl rfl) ?_
      refine WL.y rfl (Y.extract rfl rfl) ?_
      refine WL.y rfl (Y.assign) ?_
      refine WL.y rfl (Y.assign) ?_
      refine WL.y rfl (Y.assign) ?_
      refine WL.nil ?_
      refine WC.seqR rfl ?_
      refine WL.y rfl (Y.move) ?_
      refine WL.y rfl (Y.dT (Y.geq rfl rfl) (by omega)) ?_
      refine WL.y rfl (Y.move) ?_
      refine WL.y rfl (Y.move) ?_
      refine WL.y rfl (Y.dT (Y.lss rfl rfl) (by omega)) ?_
      refine WL.y rfl (Y.pickT rfl) ?_
      refine WL.y rfl (Y.move) ?_
      refine WL.y rfl (Y.dT (Y.geq rfl rfl) (by omega)) ?_
      refine WL.y rfl (Y.move) ?_
      refine WL.y rfl (Y.move) ?_
      refine WL.y rfl (Y.dF (Y.lss rfl rfl) (by omega)) ?_
      refine WL.y rfl (Y.pickT rfl) ?_
      refine WL.y rfl (Y.assign) ?_
      refine WL.y rfl (Y.assign) ?_
      refine WL.nil ?_
      refine WC.seqR rfl ?_
      refine WL.y rfl (Y.move) ?_
      refine WL.y rfl (Y.dT (Y.geq rfl rfl) (by omega)) ?_
      refine WL.y rfl (Y.move) ?_
      refine WL.y rfl (Y.move) ?_
      refine WL.y rfl (Y.dF (Y.lss rfl rfl) (by omega)) ?_
      refine WL.y rfl (Y.pickT rfl) ?_
      refine WL.y rfl (Y.assign) ?_
      refine WL.nil ?_
      refine WC.seq ?_
      refine WC.block ?_
      refine WC.seqR rfl ?_
      refine WL.y rfl (Y.move) ?_
      refine WL.y rfl (Y.move) ?_
      refine WL.y rfl (Y.move) ?_
      refine WL.y rfl (Y.pickT rfl) ?_
      refine WL.y rfl (Y.assign) ?_
      refine WL.nil ?_
      refine WC.condF (rfl) ?_
      refine WC.seqR rfl ?_
      refine WL.y rfl (Y.move) ?_
      refine WL.y rfl (Y.dT (Y.geq rfl rfl) (by omega)) ?_
      refine WL.y rfl (Y.move) ?_
      refine WL.y rfl (Y.move) ?_
      refine WL.y rfl (Y.dT (Y.lss rfl rfl) (by omega)) ?_
      refine WL.y rfl (Y.pickT rfl) ?_
      refine WL.y rfl (Y.assign) ?_
      refine WL.nil ?_
      refine WC.condT (rfl) ?_
      refine WC.seqR rfl ?_
      refine WL.y rfl (Y.move) ?_
      refine WL.y rfl (Y.dT (Y.eqi rfl rfl) (rfl)) ?_
      refine WL.y rfl (Y.move) ?_
      refine WL.y rfl (Y.move) ?_
      refine WL.y rfl (Y.dT (Y.eqi rfl rfl) (rfl)) ?_
      refine WL.y rfl (Y.pickT rfl) ?_
      refine WL.y rfl (Y.move) ?_
      refine WL.y rfl (Y.move) ?_
      refine WL.y rfl (Y.bT (Y.eqS (b := []) rfl rfl) (decide_eq_true rfl)) ?_
      refine WL.y rfl (Y.pickT rfl) ?_
      refine WL.y rfl (Y.move) ?_
      refine WL.call rfl (C.func go11) (known_ret _ (hT.bel k41)) ?_
      rintro _ w107 ⟨rfl, hb107⟩
      have k107 := Below.step k41 hb107
      refine WL.y rfl (Y.pickT rfl) ?_
      refine WL.y rfl (Y.assign) ?_
      refine WL.nil ?_
      refine WC.ret (inBlockQ.ret (thenQ.ret (endQ.one (.inr rfl) ?_)))
      exact ⟨rfl, k107⟩
  · rcases hB with hB | ⟨hB, hB'⟩ | ⟨hB, hB'⟩ | hB
    · have hu := halves2 a b up (by omega) (by omega) hb0 (by omega)
      refine Ret.of (n := 142) (rs := #[.tmp 6]) Tryd.func7 rfl rfl rfl (by simp) ?_
      refine WC.seqR rfl ?_
      refine WL.y rfl (Y.assign) ?_
      refine WL.nil ?_
      refine WC.seq ?_
      refine WC.seqR rfl ?_
      refine WL.y rfl (Y.move) ?_
      refine WL.y rfl (Y.dF (Y.lss rfl rfl) (by omega)) ?_
      refine WL.y rfl (Y.move) ?_
      refine WL.y rfl (Y.move) ?_
      refine WL.y rfl (Y.dF (Y.gtr rfl rfl) (by omega)) ?_
      refine WL.y rfl (Y.pickF rfl) ?_
      refine WL.y rfl (Y.move) ?_
      refine WL.y rfl (Y.move) ?_
      refine WL.y rfl (Y.dF (Y.lss rfl rfl) (by omega)) ?_
      refine WL.y rfl (Y.pickF rfl) ?_
      refine WL.y rfl (Y.move) ?_
      refine WL.y rfl (Y.move) ?_
      refine WL.y rfl (Y.dF (Y.gtr rfl rfl) (by omega)) ?_
      refine WL.y rfl (Y.pickF rfl) ?_
      refine WL.nil ?_
      refine WC.condF (rfl) ?_
      refine WC.skip (thenQ.normal ?_)
      refine WC.seqR rfl ?_
      refine WL.y rfl (Y.move) ?_
      refine WL.y rfl (Y.move) ?_
      refine WL.call rfl (C.func go16) (lescape_ret _ a up ha0) ?_
      rintro _ _ ⟨rfl, rfl⟩
      refine WL.y rfl (Y.catS (a := [34]) rfl rfl (by rw [hla]; decide)) ?_
      refine WL.y rfl (Y.move) ?_
      refine WL.y rfl (Y.move) ?_
      refine WL.y rfl (Y.not rfl) ?_
      refine WL.call rfl (C.func go16) (lescape_ret _ b (!up) hb0) ?_
      rintro _ _ ⟨rfl, rfl⟩
      refine WL.y rfl (Y.catS rfl rfl (by simp only [List.length_append, List.length_cons, List.length_nil]; omega)) ?_
      refine WL.y rfl (Y.catS (b := [34]) rfl rfl (by simp only [List.length_append, List.length_cons, List.length_nil]; omega)) ?_
      refine WL.y rfl (Y.assign) ?_
      refine WL.nil ?_
      refine WC.seqR rfl ?_
      refine WL.y rfl (Y.move) ?_
      refine WL.call rfl (C.func go14) (unquote_eq _ (twoE a b up) 0 (by decide) (hT.bel (Below.refl _ _)) (by rw [hlen]; decide) hu) ?_
      rintro _ w41 ⟨rfl, hb41⟩
      have k41 := hb41
      refine WL.y rfl (Y.move) ?_
      refine WL.y rfl (Y.extract rfl rfl) ?_
      refine WL.y rfl (Y.extract rfl rfl) ?_
      refine WL.y rfl (Y.extract rfl rfl) ?_
      refine WL.y rfl (Y.assign) ?_
      refine WL.y rfl (Y.assign) ?_
      refine WL.y rfl (Y.assign) ?_
      refine WL.nil ?_
      refine WC.seqR rfl ?_
      refine WL.y rfl (Y.move) ?_
      refine WL.y rfl (Y.dT (Y.geq rfl rfl) (by omega)) ?_
      refine WL.y rfl (Y.move) ?_
      refine WL.y rfl (Y.move) ?_
      refine WL.y rfl (Y.dF (Y.lss rfl rfl) (by omega)) ?_
      refine WL.y rfl (Y.pickT rfl) ?_
      refine WL.y rfl (Y.move) ?_
      refine WL.y rfl (Y.dF (Y.geq rfl rfl) (by omega)) ?_
      refine WL.y rfl (Y.move) ?_
      refine WL.off rfl ?_
      refine WL.off rfl ?_
      refine WL.y rfl (Y.pickF rfl) ?_
      refine WL.y rfl (Y.assign) ?_
      refine WL.y rfl (Y.assign) ?_
      refine WL.nil ?_
      refine WC.seqR rfl ?_
      refine WL.y rfl (Y.move) ?_
      refine WL.y rfl (Y.dF (Y.geq rfl rfl) (by omega)) ?_
      refine WL.y rfl (Y.move) ?_
      refine WL.off rfl ?_
      refine WL.off rfl ?_
      refine WL.y rfl (Y.pickF rfl) ?_
      refine WL.y rfl (Y.assign) ?_
      refine WL.nil ?_
      refine WC.seq ?_
      refine WC.block ?_
      refine WC.seqR rfl ?_
      refine WL.y rfl (Y.move) ?_
      refine WL.y rfl (Y.move) ?_
      refine WL.off rfl ?_
      refine WL.y rfl (Y.pickF rfl) ?_
      refine WL.y rfl (Y.assign) ?_
      refine WL.nil ?_
      refine WC.condF (rfl) ?_
      refine WC.seqR rfl ?_
      refine WL.y rfl (Y.move) ?_
      refine WL.y rfl (Y.dT (Y.geq rfl rfl) (by omega)) ?_
      refine WL.y rfl (Y.move) ?_
      refine WL.y rfl (Y.move) ?_
      refine WL.y rfl (Y.dT (Y.lss rfl rfl) (by omega)) ?_
      refine WL.y rfl (Y.pickT rfl) ?_
      refine WL.y rfl (Y.assign) ?_
      refine WL.nil ?_
      refine WC.condT (rfl) ?_
      refine WC.seqR rfl ?_
      refine WL.y rfl (Y.move) ?_
      refine WL.y rfl (Y.dT (Y.eqi rfl rfl) (rfl)) ?_
      refine WL.y rfl (Y.move) ?_
      refine WL.y rfl (Y.move) ?_
      refine WL.y rfl (Y.dT (Y.eqi rfl rfl) (rfl)) ?_
      refine WL.y rfl (Y.pickT rfl) ?_
      refine WL.y rfl (Y.move) ?_
      refine WL.y rfl (Y.move) ?_
      refine WL.y rfl (Y.bT (Y.eqS (b := []) rfl rfl) (decide_eq_true rfl)) ?_
      refine WL.y rfl (Y.pickT rfl) ?_
      refine WL.y rfl (Y.move) ?_
      refine WL.call rfl (C.func go11) (known_ret _ (hT.bel k41)) ?_
      rintro _ w107 ⟨rfl, hb107⟩
      have k107 := Below.step k41 hb107
      refine WL.y rfl (Y.pickT rfl) ?_
      refine WL.y rfl (Y.assign) ?_
      refine WL.nil ?_
      refine WC.ret (inBlockQ.ret (thenQ.ret (endQ.one (.inr rfl) ?_)))
      exact ⟨rfl, k107⟩
    · have hu := halves2 a b up (by omega) (by omega) hb0 (by omega)
      refine Ret.of (n := 142) (rs := #[.tmp 6]) Tryd.func7 rfl rfl rfl (by simp) ?_
      refine WC.seqR rfl ?_
      refine WL.y rfl (Y.assign) ?_
      refine WL.nil ?_
      refine WC.seq ?_
      refine WC.seqR rfl ?_
      refine WL.y rfl (Y.move) ?_
      refine WL.y rfl (Y.dF (Y.lss rfl rfl) (by omega)) ?_
      refine WL.y rfl (Y.move) ?_
      refine WL.y rfl (Y.move) ?_
      refine WL.y rfl (Y.dF (Y.gtr rfl rfl) (by omega)) ?_
      refine WL.y rfl (Y.pickF rfl) ?_
      refine WL.y rfl (Y.move) ?_
      refine WL.y rfl (Y.move) ?_
      refine WL.y rfl (Y.dF (Y.lss rfl rfl) (by omega)) ?_
      refine WL.y rfl (Y.pickF rfl) ?_
      refine WL.y rfl (Y.move) ?_
      refine WL.y rfl (Y.move) ?_
      refine WL.y rfl (Y.dF (Y.gtr rfl rfl) (by omega)) ?_
      refine WL.y rfl (Y.pickF rfl) ?_
      refine WL.nil ?_
      refine WC.condF (rfl) ?_
      refine WC.skip (thenQ.normal ?_)
      refine WC.seqR rfl ?_
      refine WL.y rfl (Y.move) ?_
      refine WL.y rfl (Y.move) ?_
      refine WL.call rfl (C.func go16) (lescape_ret _ a up ha0) ?_
      rintro _ _ ⟨rfl, rfl⟩
      refine WL.y rfl (Y.catS (a := [34]) rfl rfl (by rw [hla]; decide)) ?_
      refine WL.y rfl (Y.move) ?_
      refine WL.y rfl (Y.move) ?_
      refine WL.y rfl (Y.not rfl) ?_
      refine WL.call rfl (C.func go16) (lescape_ret _ b (!up) hb0) ?_
      rintro _ _ ⟨rfl, rfl⟩
      refine WL.y rfl (Y.catS rfl rfl (by simp only [List.length_append, List.length_cons, List.length_nil]; omega)) ?_
      refine WL.y rfl (Y.catS (b := [34]) rfl rfl (by simp only [List.length_append, List.length_cons, List.length_nil]; omega)) ?_
      refine WL.y rfl (Y.assign) ?_
      refine WL.nil ?_
      refine WC.seqR rfl ?_
      refine WL.y rfl (Y.move) ?_
      refine WL.call rfl (C.func go14) (unquote_eq _ (twoE a b up) 0 (by decide) (hT.bel (Below.refl _ _)) (by rw [hlen]; decide) hu) ?_
      rintro _ w41 ⟨rfl, hb41⟩
      have k41 := hb41
      refine WL.y rfl (Y.move) ?_
      refine WL.y rfl (Y.extract rfl rfl) ?_
      refine WL.y rfl (Y.extract rfl rfl) ?_
      refine WL.y rfl (Y.extract rfl rfl) ?_
      refine WL.y rfl (Y.assign) ?_
      refine WL.y rfl (Y.assign) ?_
      refine WL.y rfl (Y.assign) ?_
      refine WL.nil ?_
      refine WC.seqR rfl ?_
      refine WL.y rfl (Y.move) ?_
      refine WL.y rfl (Y.dT (Y.geq rfl rfl) (by omega)) ?_
      refine WL.y rfl (Y.move) ?_
      refine WL.y rfl (Y.move) ?_
      refine WL.y rfl (Y.dF (Y.lss rfl rfl) (by omega)) ?_
      refine WL.y rfl (Y.pickT rfl) ?_
      refine WL.y rfl (Y.move) ?_
      refine WL.y rfl (Y.dF (Y.geq rfl rfl) (by omega)) ?_
      refine WL.y rfl (Y.move) ?_
      refine WL.off rfl ?_
      refine WL.off rfl ?_
      refine WL.y rfl (Y.pickF rfl) ?_
      refine WL.y rfl (Y.assign) ?_
      refine WL.y rfl (Y.assign) ?_
      refine WL.nil ?_
      refine WC.seqR rfl ?_
      refine WL.y rfl (Y.move) ?_
      refine WL.y rfl (Y.dT (Y.geq rfl rfl) (by omega)) ?_
      refine WL.y rfl (Y.move) ?_
      refine WL.y rfl (Y.move) ?_
      refine WL.y rfl (Y.dT (Y.lss rfl rfl) (by omega)) ?_
      refine WL.y rfl (Y.pickT rfl) ?_
      refine WL.y rfl (Y.assign) ?_
      refine WL.nil ?_
      refine WC.seq ?_
      refine WC.block ?_
      refine WC.seqR rfl ?_
      refine WL.y rfl (Y.move) ?_
      refine WL.y rfl (Y.move) ?_
      refine WL.off rfl ?_
      refine WL.y rfl (Y.pickF rfl) ?_
      refine WL.y rfl (Y.assign) ?_
      refine WL.nil ?_
      refine WC.condF (rfl) ?_
      refine WC.seqR rfl ?_
      refine WL.y rfl (Y.move) ?_
      refine WL.y rfl (Y.dT (Y.geq rfl rfl) (by omega)) ?_
      refine WL.y rfl (Y.move) ?_
      refine WL.y rfl (Y.move) ?_
      refine WL.y rfl (Y.dT (Y.lss rfl rfl) (by omega)) ?_
      refine WL.y rfl (Y.pickT rfl) ?_
      refine WL.y rfl (Y.assign) ?_
      refine WL.nil ?_
      refine WC.condT (rfl) ?_
      refine WC.seqR rfl ?_
      refine WL.y rfl (Y.move) ?_
      refine WL.y rfl (Y.dT (Y.eqi rfl rfl) (rfl)) ?_
      refine WL.y rfl (Y.move) ?_
      refine WL.y rfl (Y.move) ?_
      refine WL.y rfl (Y.dT (Y.eqi rfl rfl) (rfl)) ?_
      refine WL.y rfl (Y.pickT rfl) ?_
      refine WL.y rfl (Y.move) ?_
      refine WL.y rfl (Y.move) ?_
      refine WL.y rfl (Y.bT (Y.eqS (b := []) rfl rfl) (decide_eq_true rfl)) ?_
      refine WL.y rfl (Y.pickT rfl) ?_
      refine WL.y rfl (Y.move) ?_
      refine WL.call rfl (C.func go11) (known_ret _ (hT.bel k41)) ?_
      rintro _ w107 ⟨rfl, hb107⟩
      have k107 := Below.step k41 hb107
      refine WL.y rfl (Y.pickT rfl) ?_
      refine WL.y rfl (Y.assign) ?_
      refine WL.nil ?_
      refine WC.ret (inBlockQ.ret (thenQ.ret (endQ.one (.inr rfl) ?_)))
      exact ⟨rfl, k107⟩
    · have hu := halves2 a b up (by omega) (by omega) hb0 (by omega)
      refine Ret.of (n := 142) (rs := #[.tmp 6]) Tryd.func7 rfl rfl rfl (by simp) ?_
      refine WC.seqR rfl ?_
      refine WL.y rfl (Y.assign) ?_
      refine WL.nil ?_
      refine WC.seq ?_
      refine WC.seqR rfl ?_
      refine WL.y rfl (Y.move) ?_
      refine WL.y rfl (Y.dF (Y.lss rfl rfl) (by omega)) ?_
      refine WL.y rfl (Y.move) ?_
      refine WL.y rfl (Y.move) ?_
      refine WL.y rfl (Y.dF (Y.gtr rfl rfl) (by omega)) ?_
      refine WL.y rfl (Y.pickF rfl) ?_
      refine WL.y rfl (Y.move) ?_
      refine WL.y rfl (Y.move) ?_
      refine WL.y rfl (Y.dF (Y.lss rfl rfl) (by omega)) ?_
      refine WL.y rfl (Y.pickF rfl) ?_
      refine WL.y rfl (Y.move) ?_
      refine WL.y rfl (Y.move) ?_
      refine WL.y rfl (Y.dF (Y.gtr rfl rfl) (by omega)) ?_
      refine WL.y rfl (Y.pickF rfl) ?_
      refine WL.nil ?_
      refine WC.condF (rfl) ?_
      refine WC.skip (thenQ.normal ?_)
      refine WC.seqR rfl ?_
      refine WL.y rfl (Y.move) ?_
      refine WL.y rfl (Y.move) ?_
      refine WL.call rfl (C.func go16) (lescape_ret _ a up ha0) ?_
      rintro _ _ ⟨rfl, rfl⟩
      refine WL.y rfl (Y.catS (a := [34]) rfl rfl (by rw [hla]; decide)) ?_
      refine WL.y rfl (Y.move) ?_
      refine WL.y rfl (Y.move) ?_
      refine WL.y rfl (Y.not rfl) ?_
      refine WL.call rfl (C.func go16) (lescape_ret _ b (!up) hb0) ?_
      rintro _ _ ⟨rfl, rfl⟩
      refine WL.y rfl (Y.catS rfl rfl (by simp only [List.length_append, List.length_cons, List.length_nil]; omega)) ?_
      refine WL.y rfl (Y.catS (b := [34]) rfl rfl (by simp only [List.length_append, List.length_cons, List.length_nil]; omega)) ?_
      refine WL.y rfl (Y.assign) ?_
      refine WL.nil ?_
      refine WC.seqR rfl ?_
      refine WL.y rfl (Y.move) ?_
      refine WL.call rfl (C.func go14) (unquote_eq _ (twoE a b up) 0 (by decide) (hT.bel (Below.refl _ _)) (by rw [hlen]; decide) hu) ?_
      rintro _ w41 ⟨rfl, hb41⟩
      have k41 := hb41
      refine WL.y rfl (Y.move) ?_
      refine WL.y rfl (Y.extract rfl rfl) ?_
      refine WL.y rfl (Y.extract rfl rfl) ?_
      refine WL.y rfl (Y.extract rfl rfl) ?_
      refine WL.y rfl (Y.assign) ?_
      refine WL.y rfl (Y.assign) ?_
      refine WL.y rfl (Y.assign) ?_
      refine WL.nil ?_
      refine WC.seqR rfl ?_
      refine WL.y rfl (Y.move) ?_
      refine WL.y rfl (Y.dT (Y.geq rfl rfl) (by omega)) ?_
      refine WL.y rfl (Y.move) ?_
      refine WL.y rfl (Y.move) ?_
      refine WL.y rfl (Y.dF (Y.lss rfl rfl) (by omega)) ?_
      refine WL.y rfl (Y.pickT rfl) ?_
      refine WL.y rfl (Y.move) ?_
      refine WL.y rfl (Y.dT (Y.geq rfl rfl) (by omega)) ?_
      refine WL.y rfl (Y.move) ?_
      refine WL.y rfl (Y.move) ?_
      refine WL.y rfl (Y.dT (Y.lss rfl rfl) (by omega)) ?_
      refine WL.y rfl (Y.pickT rfl) ?_
      refine WL.y rfl (Y.assign) ?_
      refine WL.y rfl (Y.assign) ?_
      refine WL.nil ?_
      refine WC.seqR rfl ?_
      refine WL.y rfl (Y.move) ?_
      refine WL.y rfl (Y.dT (Y.geq rfl rfl) (by omega)) ?_
      refine WL.y rfl (Y.move) ?_
      refine WL.y rfl (Y.move) ?_
      refine WL.y rfl (Y.dT (Y.lss rfl rfl) (by omega)) ?_
      refine WL.y rfl (Y.pickT rfl) ?_
      refine WL.y rfl (Y.assign) ?_
      refine WL.nil ?_
      refine WC.seq ?_
      refine WC.block ?_
      refine WC.seqR rfl ?_
      refine WL.y rfl (Y.move) ?_
      refine WL.y rfl (Y.move) ?_
      refine WL.off rfl ?_
      refine WL.y rfl (Y.pickF rfl) ?_
      refine WL.y rfl (Y.assign) ?_
      refine WL.nil ?_
      refine WC.condF (rfl) ?_
      refine WC.seqR rfl ?_
      refine WL.y rfl (Y.move) ?_
      refine WL.y rfl (Y.dT (Y.geq rfl rfl) (by omega)) ?_
      refine WL.y rfl (Y.move) ?_
      refine WL.y rfl (Y.move) ?_
      refine WL.y rfl (Y.dT (Y.lss rfl rfl) (by omega)) ?_
      refine WL.y rfl (Y.pickT rfl) ?_
      refine WL.y rfl (Y.assign) ?_
      refine WL.nil ?_
      refine WC.condT (rfl) ?_
      refine WC.seqR rfl ?_
      refine WL.y rfl (Y.move) ?_
      refine WL.y rfl (Y.dT (Y.eqi rfl rfl) (rfl)) ?_
      refine WL.y rfl (Y.move) ?_
      refine WL.y rfl (Y.move) ?_
      refine WL.y rfl (Y.dT (Y.eqi rfl rfl) (rfl)) ?_
      refine WL.y rfl (Y.pickT rfl) ?_
      refine WL.y rfl (Y.move) ?_
      refine WL.y rfl (Y.move) ?_
      refine WL.y rfl (Y.bT (Y.eqS (b := []) rfl rfl) (decide_eq_true rfl)) ?_
      refine WL.y rfl (Y.pickT rfl) ?_
      refine WL.y rfl (Y.move) ?_
      refine WL.call rfl (C.func go11) (known_ret _ (hT.bel k41)) ?_
      rintro _ w107 ⟨rfl, hb107⟩
      have k107 := Below.step k41 hb107
      refine WL.y rfl (Y.pickT rfl) ?_
      refine WL.y rfl (Y.assign) ?_
      refine WL.nil ?_
      refine WC.ret (inBlockQ.ret (thenQ.ret (endQ.one (.inr rfl) ?_)))
      exact ⟨rfl, k107⟩
    · have hu := halves2 a b up (by omega) (by omega) hb0 (by omega)
      refine Ret.of (n := 142) (rs := #[.tmp 6]) Tryd.func7 rfl rfl rfl (by simp) ?_
      refine WC.seqR rfl ?_
      refine WL.y rfl (Y.assign) ?_
      refine WL.nil ?_
      refine WC.seq ?_
      refine WC.seqR rfl ?_
      refine WL.y rfl (Y.move) ?_
      refine WL.y rfl (Y.dF (Y.lss rfl rfl) (by omega)) ?_
      refine WL.y rfl (Y.move) ?_
      refine WL.y rfl (Y.move) ?_
      refine WL.y rfl (Y.dF (Y.gtr rfl rfl) (by omega)) ?_
      refine WL.y rfl (Y.pickF rfl) ?_
      refine WL.y rfl (Y.move) ?_
      refine WL.y rfl (Y.move) ?_
      refine WL.y rfl (Y.dF (Y.lss rfl rfl) (by omega)) ?_
      refine WL.y rfl (Y.pickF rfl) ?_
      refine WL.y rfl (Y.move) ?_
      refine WL.y rfl (Y.move) ?_
      refine WL.y rfl (Y.dF (Y.gtr rfl rfl) (by omega)) ?_
      refine WL.y rfl (Y.pickF rfl) ?_
      refine WL.nil ?_
      refine WC.condF (rfl) ?_
      refine WC.skip (thenQ.normal ?_)
      refine WC.seqR rfl ?_
      refine WL.y rfl (Y.move) ?_
      refine WL.y rfl (Y.move) ?_
      refine WL.call rfl (C.func go16) (lescape_ret _ a up ha0) ?_
      rintro _ _ ⟨rfl, rfl⟩
      refine WL.y rfl (Y.catS (a := [34]) rfl rfl (by rw [hla]; decide)) ?_
      refine WL.y rfl (Y.move) ?_
      refine WL.y rfl (Y.move) ?_
      refine WL.y rfl (Y.not rfl) ?_
      refine WL.call rfl (C.func go16) (lescape_ret _ b (!up) hb0) ?_
      rintro _ _ ⟨rfl, rfl⟩
      refine WL.y rfl (Y.catS rfl rfl (by simp only [List.length_append, List.length_cons, List.length_nil]; omega)) ?_
      refine WL.y rfl (Y.catS (b := [34]) rfl rfl (by simp only [List.length_append, List.length_cons, List.length_nil]; omega)) ?_
      refine WL.y rfl (Y.assign) ?_
      refine WL.nil ?_
      refine WC.seqR rfl ?_
      refine WL.y rfl (Y.move) ?_
      refine WL.call rfl (C.func go14) (unquote_eq _ (twoE a b up) 0 (by decide) (hT.bel (Below.refl _ _)) (by rw [hlen]; decide) hu) ?_
      rintro _ w41 ⟨rfl, hb41⟩
      have k41 := hb41
      refine WL.y rfl (Y.move) ?_
      refine WL.y rfl (Y.extract rfl rfl) ?_
      refine WL.y rfl (Y.extract rfl rfl) ?_
      refine WL.y rfl (Y.extract rfl rfl) ?_
      refine WL.y rfl (Y.assign) ?_
      refine WL.y rfl (Y.assign) ?_
      refine WL.y rfl (Y.assign) ?_
      refine WL.nil ?_
      refine WC.seqR rfl ?_
      refine WL.y rfl (Y.move) ?_
      refine WL.y rfl (Y.dT (Y.geq rfl rfl) (by omega)) ?_
      refine WL.y rfl (Y.move) ?_
      refine WL.y rfl (Y.move) ?_
      refine WL.y rfl (Y.dF (Y.lss rfl rfl) (by omega)) ?_
      refine WL.y rfl (Y.pickT rfl) ?_
      refine WL.y rfl (Y.move) ?_
      refine WL.y rfl (Y.dT (Y.geq rfl rfl) (by omega)) ?_
      refine WL.y rfl (Y.move) ?_
      refine WL.y rfl (Y.move) ?_
      refine WL.y rfl (Y.dF (Y.lss rfl rfl) (by omega)) ?_
      refine WL.y rfl (Y.pickT rfl) ?_
      refine WL.y rfl (Y.assign) ?_
      refine WL.y rfl (Y.assign) ?_
      refine WL.nil ?_
      refine WC.seqR rfl ?_
      refine WL.y rfl (Y.move) ?_
      refine WL.y rfl (Y.dT (Y.geq rfl rfl) (by omega)) ?_
      refine WL.y rfl (Y.move) ?_
      refine WL.y rfl (Y.move) ?_
      refine WL.y rfl (Y.dF (Y.lss rfl rfl) (by omega)) ?_
      refine WL.y rfl (Y.pickT rfl) ?_
      refine WL.y rfl (Y.assign) ?_
      refine WL.nil ?_
      refine WC.seq ?_
      refine WC.block ?_
      refine WC.seqR rfl ?_
      refine WL.y rfl (Y.move) ?_
      refine WL.y rfl (Y.move) ?_
      refine WL.off rfl ?_
      refine WL.y rfl (Y.pickF rfl) ?_
      refine WL.y rfl (Y.assign) ?_
      refine WL.nil ?_
      refine WC.condF (rfl) ?_
      refine WC.seqR rfl ?_
      refine WL.y rfl (Y.move) ?_
      refine WL.y rfl (Y.dT (Y.geq rfl rfl) (by omega)) ?_
      refine WL.y rfl (Y.move) ?_
      refine WL.y rfl (Y.move) ?_
      refine WL.y rfl (Y.dT (Y.lss rfl rfl) (by omega)) ?_
      refine WL.y rfl (Y.pickT rfl) ?_
      refine WL.y rfl (Y.assign) ?_
      refine WL.nil ?_
      refine WC.condT (rfl) ?_
      refine WC.seqR rfl ?_
      refine WL.y rfl (Y.move) ?_
      refine WL.y rfl (Y.dT (Y.eqi rfl rfl) (rfl)) ?_
      refine WL.y rfl (Y.move) ?_
      refine WL.y rfl (Y.move) ?_
      refine WL.y rfl (Y.dT (Y.eqi rfl rfl) (rfl)) ?_
      refine WL.y rfl (Y.pickT rfl) ?_
      refine WL.y rfl (Y.move) ?_
      refine WL.y rfl (Y.move) ?_
      refine WL.y rfl (Y.bT (Y.eqS (b := []) rfl rfl) (decide_eq_true rfl)) ?_
      refine WL.y rfl (Y.pickT rfl) ?_
      refine WL.y rfl (Y.move) ?_
      refine WL.call rfl (C.func go11) (known_ret _ (hT.bel k41)) ?_
      rintro _ w107 ⟨rfl, hb107⟩
      have k107 := Below.step k41 hb107
      refine WL.y rfl (Y.pickT rfl) ?_
      refine WL.y rfl (Y.assign) ?_
      refine WL.nil ?_
      refine WC.ret (inBlockQ.ret (thenQ.ret (endQ.one (.inr rfl) ?_)))
      exact ⟨rfl, k107⟩
  · rcases hB with hB | ⟨hB, hB'⟩ | ⟨hB, hB'⟩ | hB
    · have hu := halves4 a b up ha0 (by omega) hb0 (by omega)
      have hoka : okR a := by unfold okR; omega
      have hokb : okR b := by unfold okR; omega
      have hea := enc_len a
      have heb := enc_len b
      refine Ret.of (n := 142) (rs := #[.tmp 6]) Tryd.func7 rfl rfl rfl (by simp) ?_
      refine WC.seqR rfl ?_
      refine WL.y rfl (Y.assign) ?_
      refine WL.nil ?_
      refine WC.seq ?_
      refine WC.seqR rfl ?_
      refine WL.y rfl (Y.move) ?_
      refine WL.y rfl (Y.dF (Y.lss rfl rfl) (by omega)) ?_
      refine WL.y rfl (Y.move) ?_
      refine WL.y rfl (Y.move) ?_
      refine WL.y rfl (Y.dF (Y.gtr rfl rfl) (by omega)) ?_
      refine WL.y rfl (Y.pickF rfl) ?_
      refine WL.y rfl (Y.move) ?_
      refine WL.y rfl (Y.move) ?_
      refine WL.y rfl (Y.dF (Y.lss rfl rfl) (by omega)) ?_
      refine WL.y rfl (Y.pickF rfl) ?_
      refine WL.y rfl (Y.move) ?_
      refine WL.y rfl (Y.move) ?_
      refine WL.y rfl (Y.dF (Y.gtr rfl rfl) (by omega)) ?_
      refine WL.y rfl (Y.pickF rfl) ?_
      refine WL.nil ?_
      refine WC.condF (rfl) ?_
      refine WC.skip (thenQ.normal ?_)
      refine WC.seqR rfl ?_
      refine WL.y rfl (Y.move) ?_
      refine WL.y rfl (Y.move) ?_
      refine WL.call rfl (C.func go16) (lescape_ret _ a up ha0) ?_
      rintro _ _ ⟨rfl, rfl⟩
      refine WL.y rfl (Y.catS (a := [34]) rfl rfl (by rw [hla]; decide)) ?_
      refine WL.y rfl (Y.move) ?_
      refine WL.y rfl (Y.move) ?_
      refine WL.y rfl (Y.not rfl) ?_
      refine WL.call rfl (C.func go16) (lescape_ret _ b (!up) hb0) ?_
      rintro _ _ ⟨rfl, rfl⟩
      refine WL.y rfl (Y.catS rfl rfl (by simp only [List.length_append, List.length_cons, List.length_nil]; omega)) ?_
      refine WL.y rfl (Y.catS (b := [34]) rfl rfl (by simp only [List.length_append, List.length_cons, List.length_nil]; omega)) ?_
      refine WL.y rfl (Y.assign) ?_
      refine WL.nil ?_
      refine WC.seqR rfl ?_
      refine WL.y rfl (Y.move) ?_
      refine WL.call rfl (C.func go14) (unquote_eq _ (twoE a b up) 0 (by decide) (hT.bel (Below.refl _ _)) (by rw [hlen]; decide) hu) ?_
      rintro _ w41 ⟨rfl, hb41⟩
      have k41 := hb41
      refine WL.y rfl (Y.move) ?_
      refine WL.y rfl (Y.extract rfl rfl) ?_
      refine WL.y rfl (Y.extract rfl rfl) ?_
      refine WL.y rfl (Y.extract rfl rfl) ?_
      refine WL.y rfl (Y.assign) ?_
      refine WL.y rfl (Y.assign) ?_
      refine WL.y rfl (Y.assign) ?_
      refine WL.nil ?_
      refine WC.seqR rfl ?_
      refine WL.y rfl (Y.move) ?_
      refine WL.y rfl (Y.dT (Y.geq rfl rfl) (by omega)) ?_
      refine WL.y rfl (Y.move) ?_
      refine WL.y rfl (Y.move) ?_
      refine WL.y rfl (Y.dF (Y.lss rfl rfl) (by omega)) ?_
      refine WL.y rfl (Y.pickT rfl) ?_
      refine WL.y rfl (Y.move) ?_
      refine WL.y rfl (Y.dF (Y.geq rfl rfl) (by omega)) ?_
      refine WL.y rfl (Y.move) ?_
      refine WL.off rfl ?_
      refine WL.off rfl ?_
      refine WL.y rfl (Y.pickF rfl) ?_
      refine WL.y rfl (Y.assign) ?_
      refine WL.y rfl (Y.assign) ?_
      refine WL.nil ?_
      refine WC.seqR rfl ?_
      refine WL.y rfl (Y.move) ?_
      refine WL.y rfl (Y.dF (Y.geq rfl rfl) (by omega)) ?_
      refine WL.y rfl (Y.move) ?_
      refine WL.off rfl ?_
      refine WL.off rfl ?_
      refine WL.y rfl (Y.pickF rfl) ?_
      refine WL.y rfl (Y.assign) ?_
      refine WL.nil ?_
      refine WC.seq ?_
      refine WC.block ?_
      refine WC.seqR rfl ?_
      refine WL.y rfl (Y.move) ?_
      refine WL.y rfl (Y.move) ?_
      refine WL.off rfl ?_
      refine WL.y rfl (Y.pickF rfl) ?_
      refine WL.y rfl (Y.assign) ?_
      refine WL.nil ?_
      refine WC.condF (rfl) ?_
      refine WC.seqR rfl ?_
      refine WL.y rfl (Y.move) ?_
      refine WL.y rfl (Y.dT (Y.geq rfl rfl) (by omega)) ?_
      refine WL.y rfl (Y.move) ?_
      refine WL.y rfl (Y.move) ?_
      refine WL.y rfl (Y.dF (Y.lss rfl rfl) (by omega)) ?_
      refine WL.y rfl (Y.pickT rfl) ?_
      refine WL.y rfl (Y.assign) ?_
      refine WL.nil ?_
      refine WC.condF (rfl) ?_
      refine WC.seqR rfl ?_
      refine WL.y rfl (Y.move) ?_
      refine WL.y rfl (Y.assign) ?_
      refine WL.nil ?_
      refine WC.condF (rfl) ?_
      refine WC.skip (inBlockQ.normal (thenQ.normal ?_))
      refine WC.seqR rfl ?_
      refine WL.y rfl (Y.move) ?_
      refine WL.y rfl (Y.dT (Y.eqi rfl rfl) (rfl)) ?_
      refine WL.y rfl (Y.move) ?_
      refine WL.y rfl (Y.move) ?_
      refine WL.y rfl (Y.move) ?_
      refine WL.call rfl (C.func go17) (bytes_ret _ a hoka) ?_
      rintro _ w129 ⟨rfl, hb129⟩
      have k129 := Below.step k41 hb129
      refine WL.y rfl (Y.move) ?_
      refine WL.call rfl (C.func go17) (bytes_ret _ b hokb) ?_
      rintro _ w131 ⟨rfl, hb131⟩
      have k131 := Below.step k129 hb131
      refine WL.y rfl (Y.catS rfl rfl (by omega)) ?_
      refine WL.y rfl (Y.bT (Y.eqS rfl rfl) (decide_eq_true rfl)) ?_
      refine WL.y rfl (Y.pickT rfl) ?_
      refine WL.y rfl (Y.move) ?_
      refine WL.y rfl (Y.move) ?_
      refine WL.y rfl (Y.dT (Y.eqi rfl rfl) (rfl)) ?_
      refine WL.y rfl (Y.pickT rfl) ?_
      refine WL.y rfl (Y.move) ?_
      refine WL.call rfl (C.func go11) (known_ret _ (hT.bel k131)) ?_
      rintro _ w140 ⟨rfl, hb140⟩
      have k140 := Below.step k131 hb140
      refine WL.y rfl (Y.pickT rfl) ?_
      refine WL.y rfl (Y.assign) ?_
      refine WL.nil ?_
      refine WC.ret (endQ.one (.inr rfl) ?_)
      exact ⟨rfl, k140⟩
    · have hu := halves3 a b up ha0 (by omega) (by omega) (by omega)
      refine Ret.of (n := 142) (rs := #[.tmp 6]) Tryd.func7 rfl rfl rfl (by simp) ?_
      refine WC.seqR rfl ?_
      refine WL.y rfl (Y.assign) ?_
      refine WL.nil ?_
      refine WC.seq ?_
      refine WC.seqR rfl ?_
      refine WL.y rfl (Y.move) ?_
      refine WL.y rfl (Y.dF (Y.lss rfl rfl) (by omega)) ?_
      refine WL.y rfl (Y.move) ?_
      refine WL.y rfl (Y.move) ?_
      refine WL.y rfl (Y.dF (Y.gtr rfl rfl) (by omega)) ?_
      refine WL.y rfl (Y.pickF rfl) ?_
      refine WL.y rfl (Y.move) ?_
      refine WL.y rfl (Y.move) ?_
      refine WL.y rfl (Y.dF (Y.lss rfl rfl) (by omega)) ?_
      refine WL.y rfl (Y.pickF rfl) ?_
      refine WL.y rfl (Y.move) ?_
      refine WL.y rfl (Y.move) ?_
      refine WL.y rfl (Y.dF (Y.gtr rfl rfl) (by omega)) ?_
      refine WL.y rfl (Y.pickF rfl) ?_
      refine WL.nil ?_
      refine WC.condF (rfl) ?_
      refine WC.skip (thenQ.normal ?_)
      refine WC.seqR rfl ?_
      refine WL.y rfl (Y.move) ?_
      refine WL.y rfl (Y.move) ?_
      refine WL.call rfl (C.func go16) (lescape_ret _ a up ha0) ?_
      rintro _ _ ⟨rfl, rfl⟩
      refine WL.y rfl (Y.catS (a := [34]) rfl rfl (by rw [hla]; decide)) ?_
      refine WL.y rfl (Y.move) ?_
      refine WL.y rfl (Y.move) ?_
      refine WL.y rfl (Y.not rfl) ?_
      refine WL.call rfl (C.func go16) (lescape_ret _ b (!up) hb0) ?_
      rintro _ _ ⟨rfl, rfl⟩
      refine WL.y rfl (Y.catS rfl rfl (by simp only [List.length_append, List.length_cons, List.length_nil]; omega)) ?_
      refine WL.y rfl (Y.catS (b := [34]) rfl rfl (by simp only [List.length_append, List.length_cons, List.length_nil]; omega)) ?_
      refine WL.y rfl (Y.assign) ?_
      refine WL.nil ?_
      refine WC.seqR rfl ?_
      refine WL.y rfl (Y.move) ?_
      refine WL.call rfl (C.func go14) (unquote_eq _ (twoE a b up) 0 (by decide) (hT.bel (Below.refl _ _)) (by rw [hlen]; decide) hu) ?_
      rintro _ w41 ⟨rfl, hb41⟩
      have k41 := hb41
      refine WL.y rfl (Y.move) ?_
      refine WL.y rfl (Y.extract rfl rfl) ?_
      refine WL.y rfl (Y.extract rfl rfl) ?_
      refine WL.y rfl (Y.extract rfl rfl) ?_
      refine WL.y rfl (Y.assign) ?_
      refine WL.y rfl (Y.assign) ?_
      refine WL.y rfl (Y.assign) ?_
      refine WL.nil ?_
      refine WC.seqR rfl ?_
      refine WL.y rfl (Y.move) ?_
      refine WL.y rfl (Y.dT (Y.geq rfl rfl) (by omega)) ?_
      refine WL.y rfl (Y.move) ?_
      refine WL.y rfl (Y.move) ?_
      refine WL.y rfl (Y.dF (Y.lss rfl rfl) (by omega)) ?_
      refine WL.y rfl (Y.pickT rfl) ?_
      refine WL.y rfl (Y.move) ?_
      refine WL.y rfl (Y.dF (Y.geq rfl rfl) (by omega)) ?_
      refine WL.y rfl (Y.move) ?_
      refine WL.off rfl ?_
      refine WL.off rfl ?_
      refine WL.y rfl (Y.pickF rfl) ?_
      refine WL.y rfl (Y.assign) ?_
      refine WL.y rfl (Y.assign) ?_
      refine WL.nil ?_
      refine WC.seqR rfl ?_
      refine WL.y rfl (Y.move) ?_
      refine WL.y rfl (Y.dT (Y.geq rfl rfl) (by omega)) ?_
      refine WL.y rfl (Y.move) ?_
      refine WL.y rfl (Y.move) ?_
      refine WL.y rfl (Y.dT (Y.lss rfl rfl) (by omega)) ?_
      refine WL.y rfl (Y.pickT rfl) ?_
      refine WL.y rfl (Y.assign) ?_
      refine WL.nil ?_
      refine WC.seq ?_
      refine WC.block ?_
      refine WC.seqR rfl ?_
      refine WL.y rfl (Y.move) ?_
      refine WL.y rfl (Y.move) ?_
      refine WL.off rfl ?_
      refine WL.y rfl (Y.pickF rfl) ?_
      refine WL.y rfl (Y.assign) ?_
      refine WL.nil ?_
      refine WC.condF (rfl) ?_
      refine WC.seqR rfl ?_
      refine WL.y rfl (Y.move) ?_
      refine WL.y rfl (Y.dT (Y.geq rfl rfl) (by omega)) ?_
      refine WL.y rfl (Y.move) ?_
      refine WL.y rfl (Y.move) ?_
      refine WL.y rfl (Y.dF (Y.lss rfl rfl) (by omega)) ?_
      refine WL.y rfl (Y.pickT rfl) ?_
      refine WL.y rfl (Y.assign) ?_
      refine WL.nil ?_
      refine WC.condF (rfl) ?_
      refine WC.seqR rfl ?_
      refine WL.y rfl (Y.move) ?_
      refine WL.y rfl (Y.assign) ?_
      refine WL.nil ?_
      refine WC.condT (rfl) ?_
      refine WC.seqR rfl ?_
      refine WL.y rfl (Y.move) ?_
      refine WL.y rfl (Y.dT (Y.eqi rfl rfl) (rfl)) ?_
      refine WL.y rfl (Y.move) ?_
      refine WL.y rfl (Y.move) ?_
      refine WL.y rfl (Y.dT (Y.eqi rfl rfl) (rfl)) ?_
      refine WL.y rfl (Y.pickT rfl) ?_
      refine WL.y rfl (Y.move) ?_
      refine WL.y rfl (Y.move) ?_
      refine WL.y rfl (Y.bT (Y.eqS (b := []) rfl rfl) (decide_eq_true rfl)) ?_
      refine WL.y rfl (Y.pickT rfl) ?_
      refine WL.y rfl (Y.move) ?_
      refine WL.call rfl (C.func go11) (known_ret _ (hT.bel k41)) ?_
      rintro _ w122 ⟨rfl, hb122⟩
      have k122 := Below.step k41 hb122
      refine WL.y rfl (Y.pickT rfl) ?_
      refine WL.y rfl (Y.assign) ?_
      refine WL.nil ?_
      refine WC.ret (inBlockQ.ret (thenQ.ret (endQ.one (.inr rfl) ?_)))
      exact ⟨rfl, k122⟩
    · have hu := halves3 a b up ha0 (by omega) (by omega) (by omega)
      refine Ret.of (n := 142) (rs := #[.tmp 6]) Tryd.func7 rfl rfl rfl (by simp) ?_
      refine WC.seqR rfl ?_
      refine WL.y rfl (Y.assign) ?_
      refine WL.nil ?_
      refine WC.seq ?_
      refine WC.seqR rfl ?_
      refine WL.y rfl (Y.move) ?_
      refine WL.y rfl (Y.dF (Y.lss rfl rfl) (by omega)) ?_
      refine WL.y rfl (Y.move) ?_
      refine WL.y rfl (Y.move) ?_
      refine WL.y rfl (Y.dF (Y.gtr rfl rfl) (by omega)) ?_
      refine WL.y rfl (Y.pickF rfl) ?_
      refine WL.y rfl (Y.move) ?_
      refine WL.y rfl (Y.move) ?_
      refine WL.y rfl (Y.dF (Y.lss rfl rfl) (by omega)) ?_
      refine WL.y rfl (Y.pickF rfl) ?_
      refine WL.y rfl (Y.move) ?_
      refine WL.y rfl (Y.move) ?_
      refine WL.y rfl (Y.dF (Y.gtr rfl rfl) (by omega)) ?_
      refine WL.y rfl (Y.pickF rfl) ?_
      refine WL.nil ?_
      refine WC.condF (rfl) ?_
      refine WC.skip (thenQ.normal ?_)
      refine WC.seqR rfl ?_
      refine WL.y rfl (Y.move) ?_
      refine WL.y rfl (Y.move) ?_
      refine WL.call rfl (C.func go16) (lescape_ret _ a up ha0) ?_
      rintro _ _ ⟨rfl, rfl⟩
      refine WL.y rfl (Y.catS (a := [34]) rfl rfl (by rw [hla]; decide)) ?_
      refine WL.y rfl (Y.move) ?_
      refine WL.y rfl (Y.move) ?_
      refine WL.y rfl (Y.not rfl) ?_
      refine WL.call rfl (C.func go16) (lescape_ret _ b (!up) hb0) ?_
      rintro _ _ ⟨rfl, rfl⟩
      refine WL.y rfl (Y.catS rfl rfl (by simp only [List.length_append, List.length_cons, List.length_nil]; omega)) ?_
      refine WL.y rfl (Y.catS (b := [34]) rfl rfl (by simp only [List.length_append, List.length_cons, List.length_nil]; omega)) ?_
      refine WL.y rfl (Y.assign) ?_
      refine WL.nil ?_
      refine WC.seqR rfl ?_
      refine WL.y rfl (Y.move) ?_
      refine WL.call rfl (C.func go14) (unquote_eq _ (twoE a b up) 0 (by decide) (hT.bel (Below.refl _ _)) (by rw [hlen]; decide) hu) ?_
      rintro _ w41 ⟨rfl, hb41⟩
      have k41 := hb41
      refine WL.y rfl (Y.move) ?_
      refine WL.y rfl (Y.extract rfl rfl) ?_
      refine WL.y rfl (Y.extract rfl rfl) ?_
      refine WL.y rfl (Y.extract rfl rfl) ?_
      refine WL.y rfl (Y.assign) ?_
      refine WL.y rfl (Y.assign) ?_
      refine WL.y rfl (Y.assign) ?_
      refine WL.nil ?_
      refine WC.seqR rfl ?_
      refine WL.y rfl (Y.move) ?_
      refine WL.y rfl (Y.dT (Y.geq rfl rfl) (by omega)) ?_
      refine WL.y rfl (Y.move) ?_
      refine WL.y rfl (Y.move) ?_
      refine WL.y rfl (Y.dF (Y.lss rfl rfl) (by omega)) ?_
      refine WL.y rfl (Y.pickT rfl) ?_
      refine WL.y rfl (Y.move) ?_
      refine WL.y rfl (Y.dT (Y.geq rfl rfl) (by omega)) ?_
      refine WL.y rfl (Y.move) ?_
      refine WL.y rfl (Y.move) ?_
      refine WL.y rfl (Y.dT (Y.lss rfl rfl) (by omega)) ?_
      refine WL.y rfl (Y.pickT rfl) ?_
      refine WL.y rfl (Y.assign) ?_
      refine WL.y rfl (Y.assign) ?_
      refine WL.nil ?_
      refine WC.seqR rfl ?_
      refine WL.y rfl (Y.move) ?_
      refine WL.y rfl (Y.dT (Y.geq rfl rfl) (by omega)) ?_
      refine WL.y rfl (Y.move) ?_
      refine WL.y rfl (Y.move) ?_
      refine WL.y rfl (Y.dT (Y.lss rfl rfl) (by omega)) ?_
      refine WL.y rfl (Y.pickT rfl) ?_
      refine WL.y rfl (Y.assign) ?_
      refine WL.nil ?_
      refine WC.seq ?_
      refine WC.block ?_
      refine WC.seqR rfl ?_
      refine WL.y rfl (Y.move) ?_
      refine WL.y rfl (Y.move) ?_
      refine WL.off rfl ?_
      refine WL.y rfl (Y.pickF rfl) ?_
      refine WL.y rfl (Y.assign) ?_
      refine WL.nil ?_
      refine WC.condF (rfl) ?_
      refine WC.seqR rfl ?_
      refine WL.y rfl (Y.move) ?_
      refine WL.y rfl (Y.dT (Y.geq rfl rfl) (by omega)) ?_
      refine WL.y rfl (Y.move) ?_
      refine WL.y rfl (Y.move) ?_
      refine WL.y rfl (Y.dF (Y.lss rfl rfl) (by omega)) ?_
      refine WL.y rfl (Y.pickT rfl) ?_
      refine WL.y rfl (Y.assign) ?_
      refine WL.nil ?_
      refine WC.condF (rfl) ?_
      refine WC.seqR rfl ?_
      refine WL.y rfl (Y.move) ?_
      refine WL.y rfl (Y.assign) ?_
      refine WL.nil ?_
      refine WC.condT (rfl) ?_
      refine WC.seqR rfl ?_
      refine WL.y rfl (Y.move) ?_
      refine WL.y rfl (Y.dT (Y.eqi rfl rfl) (rfl)) ?_
      refine WL.y rfl (Y.move) ?_
      refine WL.y rfl (Y.move) ?_
      refine WL.y rfl (Y.dT (Y.eqi rfl rfl) (rfl)) ?_
      refine WL.y rfl (Y.pickT rfl) ?_
      refine WL.y rfl (Y.move) ?_
      refine WL.y rfl (Y.move) ?_
      refine WL.y rfl (Y.bT (Y.eqS (b := []) rfl rfl) (decide_eq_true rfl)) ?_
      refine WL.y rfl (Y.pickT rfl) ?_
      refine WL.y rfl (Y.move) ?_
      refine WL.call rfl (C.func go11) (known_ret _ (hT.bel k41)) ?_
      rintro _ w122 ⟨rfl, hb122⟩
      have k122 := Below.step k41 hb122
      refine WL.y rfl (Y.pickT rfl) ?_
      refine WL.y rfl (Y.assign) ?_
      refine WL.nil ?_
      refine WC.ret (inBlockQ.ret (thenQ.ret (endQ.one (.inr rfl) ?_)))
      exact ⟨rfl, k122⟩
    · have hu := halves4 a b up ha0 (by omega) hb0 (by omega)
      have hoka : okR a := by unfold okR; omega
      have hokb : okR b := by unfold okR; omega
      have hea := enc_len a
      have heb := enc_len b
      refine Ret.of (n := 142) (rs := #[.tmp 6]) Tryd.func7 rfl rfl rfl (by simp) ?_
      refine WC.seqR rfl ?_
      refine WL.y rfl (Y.assign) ?_
      refine WL.nil ?_
      refine WC.seq ?_
      refine WC.seqR rfl ?_
      refine WL.y rfl (Y.move) ?_
      refine WL.y rfl (Y.dF (Y.lss rfl rfl) (by omega)) ?_
      refine WL.y rfl (Y.move) ?_
      refine WL.y rfl (Y.move) ?_
      refine WL.y rfl (Y.dF (Y.gtr rfl rfl) (by omega)) ?_
      refine WL.y rfl (Y.pickF rfl) ?_
      refine WL.y rfl (Y.move) ?_
      refine WL.y rfl (Y.move) ?_
      refine WL.y rfl (Y.dF (Y.lss rfl rfl) (by omega)) ?_
      refine WL.y rfl (Y.pickF rfl) ?_
      refine WL.y rfl (Y.move) ?_
      refine WL.y rfl (Y.move) ?_
      refine WL.y rfl (Y.dF (Y.gtr rfl rfl) (by omega)) ?_
      refine WL.y rfl (Y.pickF rfl) ?_
      refine WL.nil ?_
      refine WC.condF (rfl) ?_
      refine WC.skip (thenQ.normal ?_)
      refine WC.seqR rfl ?_
      refine WL.y rfl (Y.move) ?_
      refine WL.y rfl (Y.move) ?_
      refine WL.call rfl (C.func go16) (lescape_ret _ a up ha0) ?_
      rintro _ _ ⟨rfl, rfl⟩
      refine WL.y rfl (Y.catS (a := [34]) rfl rfl (by rw [hla]; decide)) ?_
      refine WL.y rfl (Y.move) ?_
      refine WL.y rfl (Y.move) ?_
      refine WL.y rfl (Y.not rfl) ?_
      refine WL.call rfl (C.func go16) (lescape_ret _ b (!up) hb0) ?_
      rintro _ _ ⟨rfl, rfl⟩
      refine WL.y rfl (Y.catS rfl rfl (by simp only [List.length_append, List.length_cons, List.length_nil]; omega)) ?_
      refine WL.y rfl (Y.catS (b := [34]) rfl rfl (by simp only [List.length_append, List.length_cons, List.length_nil]; omega)) ?_
      refine WL.y rfl (Y.assign) ?_
      refine WL.nil ?_
      refine WC.seqR rfl ?_
      refine WL.y rfl (Y.move) ?_
      refine WL.call rfl (C.func go14) (unquote_eq _ (twoE a b up) 0 (by decide) (hT.bel (Below.refl _ _)) (by rw [hlen]; decide) hu) ?_
      rintro _ w41 ⟨rfl, hb41⟩
      have k41 := hb41
      refine WL.y rfl (Y.move) ?_
      refine WL.y rfl (Y.extract rfl rfl) ?_
      refine WL.y rfl (Y.extract rfl rfl) ?_
      refine WL.y rfl (Y.extract rfl rfl) ?_
      refine WL.y rfl (Y.assign) ?_
      refine WL.y rfl (Y.assign) ?_
      refine WL.y rfl (Y.assign) ?_
      refine WL.nil ?_
      refine WC.seqR rfl ?_
      refine WL.y rfl (Y.move) ?_
      refine WL.y rfl (Y.dT (Y.geq rfl rfl) (by omega)) ?_
      refine WL.y rfl (Y.move) ?_
      refine WL.y rfl (Y.move) ?_
      refine WL.y rfl (Y.dF (Y.lss rfl rfl) (by omega)) ?_
      refine WL.y rfl (Y.pickT rfl) ?_
      refine WL.y rfl (Y.move) ?_
      refine WL.y rfl (Y.dT (Y.geq rfl rfl) (by omega)) ?_
      refine WL.y rfl (Y.move) ?_
      refine WL.y rfl (Y.move) ?_
      refine WL.y rfl (Y.dF (Y.lss rfl rfl) (by omega)) ?_
      refine WL.y rfl (Y.pickT rfl) ?_
      refine WL.y rfl (Y.assign) ?_
      refine WL.y rfl (Y.assign) ?_
      refine WL.nil ?_
      refine WC.seqR rfl ?_
      refine WL.y rfl (Y.move) ?_
      refine WL.y rfl (Y.dT (Y.geq rfl rfl) (by omega)) ?_
      refine WL.y rfl (Y.move) ?_
      refine WL.y rfl (Y.move) ?_
      refine WL.y rfl (Y.dF (Y.lss rfl rfl) (by omega)) ?_
      refine WL.y rfl (Y.pickT rfl) ?_
      refine WL.y rfl (Y.assign) ?_
      refine WL.nil ?_
      refine WC.seq ?_
      refine WC.block ?_
      refine WC.seqR rfl ?_
      refine WL.y rfl (Y.move) ?_
      refine WL.y rfl (Y.move) ?_
      refine WL.off rfl ?_
      refine WL.y rfl (Y.pickF rfl) ?_
      refine WL.y rfl (Y.assign) ?_
      refine WL.nil ?_
      refine WC.condF (rfl) ?_
      refine WC.seqR rfl ?_
      refine WL.y rfl (Y.move) ?_
      refine WL.y rfl (Y.dT (Y.geq rfl rfl) (by omega)) ?_
      refine WL.y rfl (Y.move) ?_
      refine WL.y rfl (Y.move) ?_
      refine WL.y rfl (Y.dF (Y.lss rfl rfl) (by omega)) ?_
      refine WL.y rfl (Y.pickT rfl) ?_
      refine WL.y rfl (Y.assign) ?_
      refine WL.nil ?_
      refine WC.condF (rfl) ?_
      refine WC.seqR rfl ?_
      refine WL.y rfl (Y.move) ?_
      refine WL.y rfl (Y.assign) ?_
      refine WL.nil ?_
      refine WC.condF (rfl) ?_
      refine WC.skip (inBlockQ.normal (thenQ.normal ?_))
      refine WC.seqR rfl ?_
      refine WL.y rfl (Y.move) ?_
      refine WL.y rfl (Y.dT (Y.eqi rfl rfl) (rfl)) ?_
      refine WL.y rfl (Y.move) ?_
      refine WL.y rfl (Y.move) ?_
      refine WL.y rfl (Y.move) ?_
      refine WL.call rfl (C.func go17) (bytes_ret _ a hoka) ?_
      rintro _ w129 ⟨rfl, hb129⟩
      have k129 := Below.step k41 hb129
      refine WL.y rfl (Y.move) ?_
      refine WL.call rfl (C.func go17) (bytes_ret _ b hokb) ?_
      rintro _ w131 ⟨rfl, hb131⟩
      have k131 := Below.step k129 hb131
      refine WL.y rfl (Y.catS rfl rfl (by omega)) ?_
      refine WL.y rfl (Y.bT (Y.eqS rfl rfl) (decide_eq_true rfl)) ?_
      refine WL.y rfl (Y.pickT rfl) ?_
      refine WL.y rfl (Y.move) ?_
      refine WL.y rfl (Y.move) ?_
      refine WL.y rfl (Y.dT (Y.eqi rfl rfl) (rfl)) ?_
      refine WL.y rfl (Y.pickT rfl) ?_
      refine WL.y rfl (Y.move) ?_
      refine WL.call rfl (C.func go11) (known_ret _ (hT.bel k131)) ?_
      rintro _ w140 ⟨rfl, hb140⟩
      have k140 := Below.step k131 hb140
      refine WL.y rfl (Y.pickT rfl) ?_
      refine WL.y rfl (Y.assign) ?_
      refine WL.nil ?_
      refine WC.ret (endQ.one (.inr rfl) ?_)
      exact ⟨rfl, k140⟩
end Go.Proofs.YtgdemkchfemmpaaDoor
