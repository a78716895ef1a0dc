/-
  law20: known, asks: walks.
-/
import Derived.Test.YtlhhognabmnlmaaTab5
import Derived.Test.YtlhhognabmnlmaaTab10
namespace Go.Proofs.Ytlhhognabmnlmaa
open Go Go.RowKit Go.Cx
set_option linter.unusedVariables false
set_option maxHeartbeats 8000000
/-- a table whose blocks all lie from B on -/
def TabB (B : Nat) (w : World) (b : Nat) (L : List Nt) (fl : Int) : Prop := ∃ M, TabW w M b L fl ∧ ∀ x, M x → B ≤ x
theorem tab_zero {w : World} {b : Nat} (h : Blk w b 27 [.map none, .slice none 0 0, .int .u64 0, .int .u64 0]) : TabW w (fun x => x = b) b [] 0 :=
  ⟨none, [], .slice none 0 0, rfl, h, ⟨rfl, by simp, (fun c v hv => by cases hv), fun c _ => rfl, (fun c c' v v' x _ hv => by cases hv)⟩, RowW.nil⟩
theorem ref_zero {w : World} {N : Nat → Prop} {b : Nat} (hN : ¬ N b) (h : Blk w b 47 [.slice none 0 0, .int .u64 0]) : RefW w N b [] 0 := ⟨hN, _, h, SlA.nil⟩
theorem TabB.bel {B : Nat} {w w' : World} {b : Nat} {L : List Nt} {fl : Int} (h : TabB B w b L fl) (hb : Below w.heap.size w w') : TabB B w' b L fl := by
  obtain ⟨M, h1, h2⟩ := h
  exact ⟨M, h1.bel hb, h2⟩
theorem noteB {B : Nat} {w : World} {b : Nat} {L : List Nt} {fl : Int} (n : Nt) (hc : 0 ≤ n.c) (hv : 0 ≤ n.v) (hi : 0 ≤ n.i) (h : TabB B w b L fl) (hB : B ≤ w.heap.size) (hg : Good L) (hL : L.length ≤ 50000) (he : noteE L n = 0) : Ret Try.prog 12 [.pointer (some ⟨b, 0, none⟩), .int .u64 n.c, .int .u64 n.v, .int .u64 n.i].toArray w fun v w' => v = .int .i64 0 ∧ TabB B w' b (L ++ [n]) fl ∧ Below B w w' := by
  obtain ⟨M, h1, h2⟩ := h
  refine (note_ret hc hv hi h1 hg hL).mono fun v w' ⟨a1, a2, a3⟩ => ?_
  rw [he] at a1 a2
  rw [if_pos rfl] at a2
  exact ⟨a1, ⟨_, a2, fun x hx => hx.elim (h2 x) (fun h => by omega)⟩, a3.below h2 hB⟩
theorem forgetB {B : Nat} {w : World} {b : Nat} {L : List Nt} {fl fl' : Int} (v : Int) (h : TabB B w b L fl) (hB : B ≤ w.heap.size) (hg : Good L) (hL : L.length ≤ 50000) (hf : flUp fl v = fl') : Ret Try.prog 9 [.pointer (some ⟨b, 0, none⟩), .int .u64 v].toArray w fun _ w' => TabB B w' b L fl' ∧ Below B w w' := by
  obtain ⟨M, h1, h2⟩ := h
  refine (forget_ret v h1 hg hL).mono fun v w' ⟨a2, a3⟩ => ?_
  rw [hf] at a2
  exact ⟨⟨_, a2, fun x hx => hx.elim (h2 x) (fun h => by omega)⟩, a3.below h2 hB⟩
theorem atBT {B : Nat} {w : World} {b : Nat} {L : List Nt} {fl : Int} (c v x : Int) (h : TabB B w b L fl) (hg : Good L) (hL : L.length ≤ 50000) (hv : fl ≤ v) (hx : atL c v L = x) : Ret Try.prog 10 [.pointer (some ⟨b, 0, none⟩), .int .u64 c, .int .u64 v].toArray w fun r w' => r = .tuple #[.int .u64 x, .bool true] ∧ Below w.heap.size w w' := by
  obtain ⟨M, h1, h2⟩ := h
  exact (at_ret c v h1 hg (by omega)).mono fun r w' ⟨a, b⟩ => ⟨by rw [a, if_pos hv, decide_eq_true hv, hx], b⟩
theorem atBF {B : Nat} {w : World} {b : Nat} {L : List Nt} {fl : Int} (c v : Int) (h : TabB B w b L fl) (hg : Good L) (hL : L.length ≤ 50000) (hv : ¬ fl ≤ v) : Ret Try.prog 10 [.pointer (some ⟨b, 0, none⟩), .int .u64 c, .int .u64 v].toArray w fun r w' => r = .tuple #[.int .u64 0, .bool false] ∧ Below w.heap.size w w' := by
  obtain ⟨M, h1, h2⟩ := h
  exact (at_ret c v h1 hg (by omega)).mono fun r w' ⟨a, b⟩ => ⟨by rw [a, if_neg hv, decide_eq_false hv], b⟩
theorem whoBT {B : Nat} {w : World} {b : Nat} {L : List Nt} {fl : Int} (v : Int) (n : Nt) (h : TabB B w b L fl) (hg : Good L) (hL : L.length ≤ 50000) (hx : whoL fl v L = some n) : Ret Try.prog 11 [.pointer (some ⟨b, 0, none⟩), .int .u64 v].toArray w fun r w' => r = .tuple #[.int .u64 n.c, .int .u64 n.i, .bool true] ∧ Below w.heap.size w w' := by
  obtain ⟨M, h1, h2⟩ := h
  exact (who_ret v h1 hg hL).mono fun r w' ⟨a, b⟩ => ⟨by rw [a, hx]; rfl, b⟩
theorem whoBF {B : Nat} {w : World} {b : Nat} {L : List Nt} {fl : Int} (v : Int) (h : TabB B w b L fl) (hg : Good L) (hL : L.length ≤ 50000) (hx : whoL fl v L = none) : Ret Try.prog 11 [.pointer (some ⟨b, 0, none⟩), .int .u64 v].toArray w fun r w' => r = .tuple #[.int .u64 0, .int .u64 0, .bool false] ∧ Below w.heap.size w w' := by
  obtain ⟨M, h1, h2⟩ := h
  exact (who_ret v h1 hg hL).mono fun r w' ⟨a, b⟩ => ⟨by rw [a, hx]; rfl, b⟩
def n1 : Nt := ⟨7, 3, 1⟩
def n2 : Nt := ⟨8, 4, 1⟩
def n3 : Nt := ⟨7, 5, 2⟩
theorem known_ret (w : World) : Ret Try.prog 17 #[] w fun v w' => v = .bool true ∧ Below w.heap.size w w' := by
  have e1 : noteE [] n1 = 0 := by decide
  have e2 : noteE ([] ++ [n1]) n2 = 0 := by decide
  have e3 : noteE ([] ++ [n1] ++ [n2]) n3 = 0 := by decide
  have g1 := (Good.nil.note e1).1
  have g2 := (g1.note e2).1
  have g3 := (g2.note e3).1
  refine Ret.of (n := 106) (rs := #[.tmp 0]) Try.func17 rfl rfl rfl (by simp) ?_
  refine WC.seqR rfl ?_
  refine WL.y rfl (Y.assign) ?_
  refine WL.nil ?_
  refine WC.seqR rfl ?_
  refine WL.y rfl (Y.build (cells := #[.map none, .slice none 0 0, .int .u64 0, .int .u64 0]) (by kernel_rfl) _) ?_
  refine WL.eex rfl (E.boxX) ?_
  rintro _ w14 ⟨rfl, hB14, hb14⟩
  refine WL.y rfl (Y.assign) ?_
  refine WL.nil ?_
  have hT0 : TabB w.heap.size w14 w.heap.size [] 0 := ⟨_, tab_zero hB14, fun x hx => by omega⟩
  have s14 := hb14.size
  clear hB14
  refine WC.seqR rfl ?_
  refine WL.y rfl (Y.move) ?_
  refine WL.call rfl (C.func go12) (noteB n1 (by decide) (by decide) (by decide) hT0 s14 Good.nil (by decide) e1) ?_
  rintro _ w16 ⟨rfl, h16, hb16⟩
  have s16 := hb16.size
  refine WL.y rfl (Y.assign) ?_
  refine WL.nil ?_
  refine WC.seqR rfl ?_
  refine WL.y rfl (Y.move) ?_
  refine WL.call rfl (C.func go12) (noteB n2 (by decide) (by decide) (by decide) h16 (by omega) g1 (by decide) e2) ?_
  rintro _ w18 ⟨rfl, h18, hb18⟩
  have s18 := hb18.size
  refine WL.y rfl (Y.assign) ?_
  refine WL.nil ?_
  refine WC.seqR rfl ?_
  refine WL.y rfl (Y.move) ?_
  refine WL.call rfl (C.func go12) (noteB n3 (by decide) (by decide) (by decide) h18 (by omega) g2 (by decide) e3) ?_
  rintro _ w20 ⟨rfl, h20, hb20⟩
  have s20 := hb20.size
  refine WL.y rfl (Y.assign) ?_
  refine WL.nil ?_
  refine WC.seqR rfl ?_
  refine WL.y rfl (Y.move) ?_
  refine WL.call rfl (C.func go10) (atBT 7 4 1 h20 g3 (by decide) (by decide) (by decide)) ?_
  rintro _ w23 ⟨rfl, hb23⟩
  refine WL.y rfl (Y.move) ?_
  refine WL.y rfl (Y.extract rfl rfl) ?_
  refine WL.y rfl (Y.extract rfl rfl) ?_
  refine WL.y rfl (Y.assign) ?_
  refine WL.y rfl (Y.assign) ?_
  refine WL.nil ?_
  refine WC.seqR rfl ?_
  refine WL.y rfl (Y.move) ?_
  refine WL.call rfl (C.func go10) (atBT 8 3 0 (h20.bel hb23) g3 (by decide) (by decide) (by decide)) ?_
  rintro _ w28 ⟨rfl, hb28⟩
  refine WL.y rfl (Y.move) ?_
  refine WL.y rfl (Y.extract rfl rfl) ?_
  refine WL.y rfl (Y.extract rfl rfl) ?_
  refine WL.y rfl (Y.assign) ?_
  refine WL.y rfl (Y.assign) ?_
  refine WL.nil ?_
  refine WC.seqR rfl ?_
  refine WL.y rfl (Y.move) ?_
  refine WL.call rfl (C.func go11) (whoBT 5 n3 ((h20.bel hb23).bel hb28) g3 (by decide) rfl) ?_
  rintro _ w33 ⟨rfl, hb33⟩
  refine WL.y rfl (Y.move) ?_
  refine WL.y rfl (Y.extract rfl rfl) ?_
  refine WL.y rfl (Y.extract rfl rfl) ?_
  refine WL.y rfl (Y.extract rfl rfl) ?_
  refine WL.y rfl (Y.assign) ?_
  refine WL.y rfl (Y.assign) ?_
  refine WL.y rfl (Y.assign) ?_
  refine WL.nil ?_
  refine WC.seq ?_
  refine WC.seqR rfl ?_
  refine WL.y rfl (Y.move) ?_
  refine WL.y rfl (Y.dF (Y.nei rfl rfl) (fun h => h rfl)) ?_
  refine WL.y rfl (Y.move) ?_
  refine WL.y rfl (Y.move) ?_
  refine WL.y rfl (Y.dF (Y.nei rfl rfl) (fun h => h rfl)) ?_
  refine WL.y rfl (Y.pickF rfl) ?_
  refine WL.y rfl (Y.move) ?_
  refine WL.y rfl (Y.move) ?_
  refine WL.y rfl (Y.dF (Y.nei rfl rfl) (fun h => h rfl)) ?_
  refine WL.y rfl (Y.pickF rfl) ?_
  refine WL.y rfl (Y.move) ?_
  refine WL.y rfl (Y.move) ?_
  refine WL.y rfl (Y.bF (Y.not rfl) (rfl)) ?_
  refine WL.y rfl (Y.pickF rfl) ?_
  refine WL.y rfl (Y.move) ?_
  refine WL.y rfl (Y.move) ?_
  refine WL.y rfl (Y.dF (Y.nei rfl rfl) (fun h => h rfl)) ?_
  refine WL.y rfl (Y.pickF rfl) ?_
  refine WL.y rfl (Y.move) ?_
  refine WL.y rfl (Y.move) ?_
  refine WL.y rfl (Y.bF (Y.not rfl) (rfl)) ?_
  refine WL.y rfl (Y.pickF rfl) ?_
  refine WL.y rfl (Y.move) ?_
  refine WL.y rfl (Y.move) ?_
  refine WL.y rfl (Y.dF (Y.nei rfl rfl) (fun h => h rfl)) ?_
  refine WL.y rfl (Y.pickF rfl) ?_
  refine WL.y rfl (Y.move) ?_
  refine WL.y rfl (Y.move) ?_
  refine WL.y rfl (Y.bF (Y.not rfl) (rfl)) ?_
  refine WL.y rfl (Y.pickF rfl) ?_
  refine WL.y rfl (Y.move) ?_
  refine WL.y rfl (Y.move) ?_
  refine WL.y rfl (Y.dF (Y.nei rfl rfl) (fun h => h rfl)) ?_
  refine WL.y rfl (Y.pickF rfl) ?_
  refine WL.y rfl (Y.move) ?_
  refine WL.y rfl (Y.move) ?_
  refine WL.y rfl (Y.dF (Y.nei rfl rfl) (fun h => h rfl)) ?_
  refine WL.y rfl (Y.pickF rfl) ?_
  refine WL.nil ?_
  refine WC.condF (rfl) ?_
  refine WC.skip (thenQ.normal ?_)
  refine WC.seqR rfl ?_
  refine WL.y rfl (Y.move) ?_
  refine WL.call rfl (C.func go9) (forgetB 5 (((h20.bel hb23).bel hb28).bel hb33) (by have := hb23.size; have := hb28.size; have := hb33.size; omega) g3 (by decide) (rfl : flUp 0 5 = 5)) ?_
  rintro _ w76 ⟨h76, hb76⟩
  refine WL.nil ?_
  refine WC.seqR rfl ?_
  refine WL.y rfl (Y.move) ?_
  refine WL.call rfl (C.func go10) (atBF 7 4 h76 g3 (by decide) (by decide)) ?_
  rintro _ w79 ⟨rfl, hb79⟩
  refine WL.y rfl (Y.move) ?_
  refine WL.y rfl (Y.extract rfl rfl) ?_
  refine WL.y rfl (Y.extract rfl rfl) ?_
  refine WL.y rfl (Y.assign) ?_
  refine WL.nil ?_
  refine WC.seqR rfl ?_
  refine WL.y rfl (Y.move) ?_
  refine WL.call rfl (C.func go10) (atBT 7 5 2 (h76.bel hb79) g3 (by decide) (by decide) (by decide)) ?_
  rintro _ w84 ⟨rfl, hb84⟩
  refine WL.y rfl (Y.move) ?_
  refine WL.y rfl (Y.extract rfl rfl) ?_
  refine WL.y rfl (Y.extract rfl rfl) ?_
  refine WL.y rfl (Y.assign) ?_
  refine WL.y rfl (Y.assign) ?_
  refine WL.nil ?_
  refine WC.seqR rfl ?_
  refine WL.y rfl (Y.move) ?_
  refine WL.call rfl (C.func go11) (whoBF 4 ((h76.bel hb79).bel hb84) g3 (by decide) rfl) ?_
  rintro _ w89 ⟨rfl, hb89⟩
  refine WL.y rfl (Y.move) ?_
  refine WL.y rfl (Y.extract rfl rfl) ?_
  refine WL.y rfl (Y.extract rfl rfl) ?_
  refine WL.y rfl (Y.extract rfl rfl) ?_
  refine WL.y rfl (Y.assign) ?_
  refine WL.nil ?_
  refine WC.seqR rfl ?_
  refine WL.y rfl (Y.move) ?_
  refine WL.y rfl (Y.bT (Y.not rfl) (rfl)) ?_
  refine WL.y rfl (Y.move) ?_
  refine WL.y rfl (Y.move) ?_
  refine WL.y rfl (Y.pickT rfl) ?_
  refine WL.y rfl (Y.move) ?_
  refine WL.y rfl (Y.move) ?_
  refine WL.y rfl (Y.dT (Y.eqi rfl rfl) (rfl)) ?_
  refine WL.y rfl (Y.pickT rfl) ?_
  refine WL.y rfl (Y.move) ?_
  refine WL.y rfl (Y.move) ?_
  refine WL.y rfl (Y.bT (Y.not rfl) (rfl)) ?_
  refine WL.y rfl (Y.pickT rfl) ?_
  refine WL.y rfl (Y.assign) ?_
  refine WL.nil ?_
  refine WC.ret (endQ.one (.inr rfl) ?_)
  have k : Below w.heap.size w w20 := ((hb14.trans hb16).trans hb18).trans hb20
  have k2 : Below w.heap.size w w76 := (Below.step (Below.step (Below.step k hb23) hb28) hb33).trans hb76
  exact ⟨rfl, Below.step (Below.step (Below.step k2 hb79) hb84) hb89⟩
end Go.Proofs.Ytlhhognabmnlmaa
