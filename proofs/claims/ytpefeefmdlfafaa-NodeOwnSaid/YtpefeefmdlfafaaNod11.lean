/-
  law06: NodeMakes: walk.
-/
import Derived.Test.YtpefeefmdlfafaaNod10
import Derived.Test.YtpefeefmdlfafaaShO
namespace Go.Proofs.Ytpefeefmdlfafaa
open Go Go.RowKit Go.Cx
set_option linter.unusedVariables false
set_option maxHeartbeats 8000000
set_option maxRecDepth 20000
theorem smallT {s : Sh} {d : Nat} {w : World} {c : List Value} (hd : d ≤ 100) (h : ShAt w s c) (hs : smallS d s) : Ret Try.prog 9 [.agg c.toArray, .int .i64 (d : Int)].toArray w fun r w' => r = .bool true ∧ Below w.heap.size w w' :=
  (small_ret s d w c hd h).mono fun r w' ⟨⟨e, a, b⟩, d⟩ => ⟨by rw [a, b.2 hs], d⟩
theorem smallF {s : Sh} {d : Nat} {w : World} {c : List Value} (hd : d ≤ 100) (h : ShAt w s c) (hs : ¬ smallS d s) : Ret Try.prog 9 [.agg c.toArray, .int .i64 (d : Int)].toArray w fun r w' => r = .bool false ∧ Below w.heap.size w w' :=
  (small_ret s d w c hd h).mono fun r w' ⟨⟨e, a, b⟩, d⟩ => ⟨by rw [a]; cases e with | false => rfl | true => exact absurd (b.1 rfl) hs, d⟩
theorem ofT {s : Sh} : OfT s := fun w c h1 h2 h3 h4 => (of_ret s w c h1 h2 h3).mono fun _ _ h => h.T h4
theorem ofF {s : Sh} : OfF s := fun w c h1 h2 h3 h4 => (of_ret s w c h1 h2 h3).mono fun _ _ h => h.F h4
theorem ShW.two {w : World} {M : Nat → Prop} {s : Sh} {c : List Value} (h : ShW w M s c) : ∃ a b, c = [a, b] := by cases h; exact ⟨_, _, rfl⟩
theorem nodeMakes_ret (w : World) (a : Value) (s : Sh) (ha : SArg w s a) : Ret Try.prog 6 [a].toArray w fun v w' => v = .bool true ∧ Below w.heap.size w w' := by
  obtain ⟨c, rfl, hs⟩ := ha
  have hcl := hs.len
  have hmay := ok_may (s := s)
  refine Ret.of (n := 60) (rs := #[.tmp 2]) Try.func6 rfl rfl rfl (by simp) ?_
  refine WC.seqR rfl ?_
  refine WL.eex rfl (E.boxX) ?_
  rintro _ w1 ⟨rfl, hB1, hb1⟩
  refine WL.y rfl (Y.assign) ?_
  refine WL.nil ?_
  refine WC.seq ?_
  have hB : Blk w1 w.heap.size 25 c := hB1
  clear hB1
  have s1 := hb1.size
  by_cases hsm : smallS 10 s
  · have hnn := small_nodes hsm
    have hff := small_flat 10 s hsm
    by_cases hok : OkS s
    · refine WC.seqR rfl ?_
      refine WL.y rfl (Y.loadK Try.underlying25 rfl ti25 (hcl) rfl (hB.cells)) ?_
      refine WL.call rfl (C.func go9) (smallT (d := 10) (by omega) (hs.bel hb1) hsm) ?_
      rintro _ w9 ⟨rfl, hb9'⟩
      have k9 := Below.step hb1 hb9'
      refine WL.y rfl (Y.not rfl) ?_
      refine WL.nil ?_
      refine WC.condF (rfl) ?_
      refine WC.skip (thenQ.normal ?_)
      refine WC.seqR rfl ?_
      refine WL.y rfl (Y.loadK Try.underlying25 rfl ti25 (hcl) rfl ((hB.bel hb9').cells)) ?_
      refine WL.call rfl (C.func go12) (ofT _ _ (hs.bel k9) (by omega) (by omega) hok) ?_
      rintro _ w14 ⟨⟨b, rfl, n14⟩, hb14⟩
      have k14 := Below.step k9 hb14
      refine WL.y rfl (Y.move) ?_
      refine WL.y rfl (Y.extract rfl rfl) ?_
      refine WL.y rfl (Y.extract rfl rfl) ?_
      refine WL.y rfl (Y.assign) ?_
      refine WL.y rfl (Y.assign) ?_
      refine WL.nil ?_
      refine WC.seq ?_
      refine WC.seqR rfl ?_
      refine WL.y rfl (Y.loadK Try.underlying25 rfl ti25 (hcl) rfl (((hB.bel hb9').bel hb14).cells)) ?_
      refine WL.call rfl (C.func go10) (rmayT (rmay_ret s) (hmay.1 hok) _ _ _ (hs.bel k14) (Below.refl _ _) (by omega) (by omega)) ?_
      rintro _ w18 ⟨rfl, hb18⟩
      have k18 := Below.step k14 hb18
      refine WL.y rfl (Y.not rfl) ?_
      refine WL.nil ?_
      refine WC.condF (rfl) ?_
      refine WC.skip (thenQ.normal ?_)
      refine WC.seqR rfl ?_
      refine WL.y rfl (Y.move) ?_
      refine WL.call rfl (C.func go19) (nshape_ret s _ _ _ (n14.bel hb18)) ?_
      rintro _ w30 ⟨c30, rfl, h30, hb30⟩
      have hqq := h30.two
      obtain ⟨z0, z1, rfl⟩ := hqq
      refine WL.eex rfl (E.allocX ti25) ?_
      rintro _ w5 ⟨rfl, hB5, hb5⟩
      refine WL.eex rfl (E.storeAllK (us := [z0, z1]) ti25 rfl rfl rfl h30.one hB5 rfl) ?_
      rintro _ w5s ⟨hB5', hg5⟩
      refine WL.nil ?_
      have s30 := hb30.size
      have s5 := hb5.size
      have s5s := hg5.size
      have h5s := (ShW.kept (M' := fun b => b = w30.heap.size) (Kept.of_grown hg5 rfl) (fun b h1 h2 => by omega) ((h30.mono (M' := fun b => w18.heap.size ≤ b ∧ b < w30.heap.size) (fun b h1 h2 => ⟨h2, h1⟩)).bel hb5)).at
      have k5 : Below w.heap.size w w5s := Below.stepG (Below.step (Below.step k18 hb30) hb5) hg5 (by have := k18.size; omega)
      have hA := ((((hB.bel hb9').bel hb14).bel hb18).bel hb30).bel hb5 |>.grown hg5 (by have := hb9'.size; have := hb14.size; have := hb18.size; have := hB.lt; omega)
      have n5 := (((n14.bel hb18).bel hb30).bel hb5)
      clear hB5
      refine WC.seqR rfl ?_
      refine WL.y rfl (Y.loadK Try.underlying25 rfl ti25 (rfl) rfl (hB5'.cells)) ?_
      refine WL.call rfl (C.func go12) (ofT _ _ h5s (by omega) (by omega) hok) ?_
      rintro _ w33 ⟨⟨b', rfl, n33⟩, hb33⟩
      have k33 := Below.step k5 hb33
      refine WL.y rfl (Y.move) ?_
      refine WL.y rfl (Y.extract rfl rfl) ?_
      refine WL.y rfl (Y.extract rfl rfl) ?_
      refine WL.y rfl (Y.assign) ?_
      refine WL.y rfl (Y.assign) ?_
      refine WL.nil ?_
      refine WC.seq ?_
      refine WC.regionB (fun i => Nat.beq i 19 || Nat.beq i 22) [(0, .any), (1, .any), (2, .any), (3, .any), (4, .any), (5, .any), (6, .any), (7, .held), (8, .held), (9, .seq), (10, .any), (11, .any), (12, .any), (13, .any), (14, .any), (15, .any), (16, .any), (18, .held), (17, .seq), (19, .seq), (20, .any), (21, .any), (22, .seq), (23, .any), (24, .any)] mixed (by kernel_rfl) (fun w8x hS8 hheap => ?_)
      refine RL.any rfl rfl (fun _ => Y.move) ?_
      refine RL.any rfl rfl (fun _ => Y.dT (Y.eqi rfl rfl) (rfl)) ?_
      refine RL.any rfl rfl (fun _ => Y.move) ?_
      refine RL.any rfl rfl (fun _ => Y.move) ?_
      refine RL.any rfl rfl (fun _ => Y.bT (Y.nepn Try.underlying29 rfl rfl) (rfl)) ?_
      refine RL.any rfl rfl (fun _ => Y.pickT rfl) ?_
      refine RL.any rfl rfl (fun _ => Y.move) ?_
      refine RL.held rfl rfl hS8 (fun _ hb9 => Y.loadK Try.underlying25 rfl ti25 (rfl) rfl (Cells.bel (hB5'.bel hb33).cells hb9)) ?_
      refine RL.held rfl rfl hS8 (fun _ hb9 => Y.loadK Try.underlying25 rfl ti25 (hcl) rfl (Cells.bel (hA.bel hb33).cells hb9)) ?_
      refine RL.call rfl rfl (C.func go22) (sameS_ret s _ _ _ ((h5s.bel hb33).bel hS8) ((hs.bel k33).bel hS8)) ?_
      rintro _ w45 ⟨rfl, hb45⟩
      refine ⟨.inr (fun h => Below.step h hb45), ?_⟩
      refine RL.any rfl rfl (fun _ => Y.pickT rfl) ?_
      refine RL.any rfl rfl (fun _ => Y.move) ?_
      refine RL.any rfl rfl (fun _ => Y.move) ?_
      refine RL.any rfl rfl (fun _ => Y.dT (Y.eqi rfl rfl) (rfl)) ?_
      refine RL.any rfl rfl (fun _ => Y.pickT rfl) ?_
      refine RL.any rfl rfl (fun _ => Y.move) ?_
      refine RL.any rfl rfl (fun _ => Y.move) ?_
      refine RL.held rfl rfl (Below.step hS8 hb45) (fun _ hb9 => Y.loadK Try.underlying25 rfl ti25 (hcl) rfl (Cells.bel (hA.bel hb33).cells hb9)) ?_
      refine RL.call rfl rfl (C.func go19) (nshape_ret s _ _ _ ((n33.bel hS8).bel hb45)) ?_
      rintro _ w53 ⟨c53, rfl, h53, hb53⟩
      refine ⟨.inr (fun h => Below.step h hb53), ?_⟩
      refine RL.call rfl rfl (C.func go22) (sameS_ret s _ _ _ h53.at (((hs.bel (Below.step k33 hS8)).bel hb45).bel hb53)) ?_
      rintro _ w55 ⟨rfl, hb55⟩
      refine ⟨.inl rfl, ?_⟩
      refine RL.any rfl rfl (fun _ => Y.pickT rfl) ?_
      refine RL.any rfl rfl (fun _ => Y.move) ?_
      refine RL.call rfl rfl (C.func go11) (known_ret _) ?_
      rintro _ w58 ⟨rfl, hb58⟩
      refine ⟨.inl rfl, ?_⟩
      refine RL.any rfl rfl (fun _ => Y.pickT rfl) ?_
      refine RL.any rfl rfl (fun _ => Y.assign) ?_
      refine RL.nil (thenQ.normal ?_)
      refine WC.ret (endQ.one (.inr rfl) ?_)
      exact ⟨rfl, Below.step (Below.step (Below.step (Below.step (Below.step k33 hS8) hb45) hb53) hb55) hb58⟩
    · refine WC.seqR rfl ?_
      refine WL.y rfl (Y.loadK Try.underlying25 rfl ti25 (hcl) rfl (hB.cells)) ?_
      refine WL.call rfl (C.func go9) (smallT (d := 10) (by omega) (hs.bel hb1) hsm) ?_
      rintro _ w9 ⟨rfl, hb9'⟩
      have k9 := Below.step hb1 hb9'
      refine WL.y rfl (Y.not rfl) ?_
      refine WL.nil ?_
      refine WC.condF (rfl) ?_
      refine WC.skip (thenQ.normal ?_)
      refine WC.seqR rfl ?_
      refine WL.y rfl (Y.loadK Try.underlying25 rfl ti25 (hcl) rfl ((hB.bel hb9').cells)) ?_
      refine WL.call rfl (C.func go12) (ofF _ _ (hs.bel k9) (by omega) (by omega) hok) ?_
      rintro _ w14 ⟨rfl, hb14⟩
      have k14 := Below.step k9 hb14
      refine WL.y rfl (Y.move) ?_
      refine WL.y rfl (Y.extract rfl rfl) ?_
      refine WL.y rfl (Y.extract rfl rfl) ?_
      refine WL.y rfl (Y.assign) ?_
      refine WL.y rfl (Y.assign) ?_
      refine WL.nil ?_
      refine WC.seq ?_
      refine WC.seqR rfl ?_
      refine WL.y rfl (Y.loadK Try.underlying25 rfl ti25 (hcl) rfl (((hB.bel hb9').bel hb14).cells)) ?_
      refine WL.call rfl (C.func go10) (rmayF (rmay_ret s) (fun h => hok (hmay.2 h)) _ _ _ (hs.bel k14) (Below.refl _ _) (by omega) (by omega)) ?_
      rintro _ w18 ⟨rfl, hb18⟩
      refine WL.y rfl (Y.not rfl) ?_
      refine WL.nil ?_
      refine WC.condT (rfl) ?_
      refine WC.seqR rfl ?_
      refine WL.y rfl (Y.move) ?_
      refine WL.y rfl (Y.dT (Y.eqi rfl rfl) (rfl)) ?_
      refine WL.y rfl (Y.move) ?_
      refine WL.y rfl (Y.move) ?_
      refine WL.y rfl (Y.bT (Y.eqpn Try.underlying29 rfl rfl) (rfl)) ?_
      refine WL.y rfl (Y.pickT rfl) ?_
      refine WL.y rfl (Y.move) ?_
      refine WL.call rfl (C.func go11) (known_ret _) ?_
      rintro _ w27 ⟨rfl, hb27⟩
      refine WL.y rfl (Y.pickT rfl) ?_
      refine WL.y rfl (Y.assign) ?_
      refine WL.nil ?_
      refine WC.ret (thenQ.ret (endQ.one (.inr rfl) ?_))
      exact ⟨rfl, Below.step (Below.step k14 hb18) hb27⟩
  · skip
    skip
    refine WC.seqR rfl ?_
    refine WL.y rfl (Y.loadK Try.underlying25 rfl ti25 (hcl) rfl (hB.cells)) ?_
    refine WL.call rfl (C.func go9) (smallF (d := 10) (by omega) (hs.bel hb1) hsm) ?_
    rintro _ w9 ⟨rfl, hb9'⟩
    refine WL.y rfl (Y.not rfl) ?_
    refine WL.nil ?_
    refine WC.condT (rfl) ?_
    refine WC.seqR rfl ?_
    refine WL.call rfl (C.func go11) (known_ret _) ?_
    rintro _ w11 ⟨rfl, hb11⟩
    refine WL.y rfl (Y.assign) ?_
    refine WL.nil ?_
    refine WC.ret (thenQ.ret (endQ.one (.inr rfl) ?_))
    exact ⟨rfl, Below.step (Below.step hb1 hb9') hb11⟩
end Go.Proofs.Ytpefeefmdlfafaa
