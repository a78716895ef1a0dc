/-
  law20: TableNil: walk.
-/
import Derived.Test.YtlhhognabmnlmaaTab17
namespace Go.Proofs.Ytlhhognabmnlmaa
open Go Go.RowKit Go.Cx
set_option linter.unusedVariables false
set_option maxHeartbeats 8000000
set_option maxRecDepth 20000
theorem tableNil_ret (w : World) (c : Int) (hc : (Lit.int .u64 c).wf = true) (v : Int) (hv : (Lit.int .u64 v).wf = true) : Ret Try.prog 3 [.int .u64 c, .int .u64 v].toArray w fun r w' => r = .bool true ∧ Below w.heap.size w w' := by
  have hv0 := u_wf hv
  refine Ret.of (n := 112) (rs := #[.tmp 4]) Try.func3 rfl rfl rfl (by simp) ?_
  refine WC.seqR rfl ?_
  refine WL.y rfl (Y.assign) ?_
  refine WL.nil ?_
  refine WC.seqR rfl ?_
  refine WL.y rfl (Y.assign) ?_
  refine WL.nil ?_
  refine WC.seqR rfl ?_
  refine WL.eex rfl (E.allocX ti27) ?_
  rintro _ w6 ⟨rfl, hB6, hb6⟩
  refine WL.nil ?_
  have hB : Blk w6 w.heap.size 27 [.map none, .slice none 0 0, .int .u64 0, .int .u64 0] := hB6
  have hT : TabB w.heap.size w6 w.heap.size [] 0 := ⟨_, tab_zero hB, fun x hx => by omega⟩
  clear hB6
  refine WC.seqR rfl ?_
  refine WL.y rfl (Y.move) ?_
  refine WL.y rfl (Y.move) ?_
  refine WL.call rfl (C.func go9) (forget_nil _ v) ?_
  rintro _ _ rfl
  refine WL.nil ?_
  refine WC.seqR rfl ?_
  refine WL.y rfl (Y.move) ?_
  refine WL.y rfl (Y.move) ?_
  refine WL.y rfl (Y.move) ?_
  refine WL.call rfl (C.func go10) (at_nil _ c v) ?_
  rintro _ _ ⟨rfl, rfl⟩
  refine WL.y rfl (Y.move) ?_
  refine WL.y rfl (Y.extract rfl rfl) ?_
  refine WL.y rfl (Y.extract rfl rfl) ?_
  refine WL.y rfl (Y.assign) ?_
  refine WL.y rfl (Y.assign) ?_
  refine WL.nil ?_
  refine WC.seqR rfl ?_
  refine WL.y rfl (Y.move) ?_
  refine WL.y rfl (Y.move) ?_
  refine WL.call rfl (C.func go11) (who_nil _ v) ?_
  rintro _ w30 ⟨rfl, hb30⟩
  refine WL.y rfl (Y.move) ?_
  refine WL.y rfl (Y.extract rfl rfl) ?_
  refine WL.y rfl (Y.extract rfl rfl) ?_
  refine WL.y rfl (Y.extract rfl rfl) ?_
  refine WL.y rfl (Y.assign) ?_
  refine WL.y rfl (Y.assign) ?_
  refine WL.y rfl (Y.assign) ?_
  refine WL.nil ?_
  refine WC.seqR rfl ?_
  refine WL.y rfl (Y.move) ?_
  refine WL.y rfl (Y.move) ?_
  refine WL.call rfl (C.func go10) (atBT c v 0 (hT.bel hb30) Good.nil (by simp) hv0 rfl) ?_
  rintro _ w37 ⟨rfl, hb37⟩
  refine WL.y rfl (Y.move) ?_
  refine WL.y rfl (Y.extract rfl rfl) ?_
  refine WL.y rfl (Y.extract rfl rfl) ?_
  refine WL.y rfl (Y.assign) ?_
  refine WL.y rfl (Y.assign) ?_
  refine WL.nil ?_
  refine WC.seqR rfl ?_
  refine WL.y rfl (Y.move) ?_
  refine WL.call rfl (C.func go11) (whoBF v ((hT.bel hb30).bel hb37) Good.nil (by simp) rfl) ?_
  rintro _ w42 ⟨rfl, hb42⟩
  refine WL.y rfl (Y.move) ?_
  refine WL.y rfl (Y.extract rfl rfl) ?_
  refine WL.y rfl (Y.extract rfl rfl) ?_
  refine WL.y rfl (Y.extract rfl rfl) ?_
  refine WL.y rfl (Y.assign) ?_
  refine WL.y rfl (Y.assign) ?_
  refine WL.y rfl (Y.assign) ?_
  refine WL.nil ?_
  refine WC.seqR rfl ?_
  refine WL.y rfl (Y.move) ?_
  refine WL.y rfl (Y.bT (Y.not rfl) (rfl)) ?_
  refine WL.y rfl (Y.move) ?_
  refine WL.y rfl (Y.move) ?_
  refine WL.y rfl (Y.bT (Y.not rfl) (rfl)) ?_
  refine WL.y rfl (Y.pickT rfl) ?_
  refine WL.y rfl (Y.move) ?_
  refine WL.y rfl (Y.move) ?_
  refine WL.y rfl (Y.pickT rfl) ?_
  refine WL.y rfl (Y.move) ?_
  refine WL.y rfl (Y.move) ?_
  refine WL.y rfl (Y.dT (Y.eqi rfl rfl) (rfl)) ?_
  refine WL.y rfl (Y.pickT rfl) ?_
  refine WL.y rfl (Y.move) ?_
  refine WL.y rfl (Y.move) ?_
  refine WL.y rfl (Y.bT (Y.not rfl) (rfl)) ?_
  refine WL.y rfl (Y.pickT rfl) ?_
  refine WL.y rfl (Y.move) ?_
  refine WL.y rfl (Y.move) ?_
  refine WL.call rfl (C.func go12) (note_nil _ 0 0 0) ?_
  rintro _ _ ⟨rfl, rfl⟩
  refine WL.y rfl (Y.dT (Y.eqi rfl rfl) (rfl)) ?_
  refine WL.y rfl (Y.pickT rfl) ?_
  refine WL.y rfl (Y.move) ?_
  refine WL.y rfl (Y.move) ?_
  refine WL.call rfl (C.func go12) (note_nil _ 1 1 1) ?_
  rintro _ _ ⟨rfl, rfl⟩
  refine WL.y rfl (Y.dT (Y.eqi rfl rfl) (rfl)) ?_
  refine WL.y rfl (Y.pickT rfl) ?_
  refine WL.y rfl (Y.move) ?_
  refine WL.y rfl (Y.move) ?_
  refine WL.y rfl (Y.move) ?_
  refine WL.call rfl (C.func go13) (last_nil _ c) ?_
  rintro _ _ ⟨rfl, rfl⟩
  refine WL.y rfl (Y.dT (Y.eqi rfl rfl) (rfl)) ?_
  refine WL.y rfl (Y.pickT rfl) ?_
  refine WL.y rfl (Y.move) ?_
  refine WL.y rfl (Y.move) ?_
  refine WL.call rfl (C.func go14) (newest_nil _) ?_
  rintro _ _ ⟨rfl, rfl⟩
  refine WL.y rfl (Y.dT (Y.eqi rfl rfl) (rfl)) ?_
  refine WL.y rfl (Y.pickT rfl) ?_
  refine WL.y rfl (Y.move) ?_
  refine WL.y rfl (Y.move) ?_
  refine WL.call rfl (C.func go15) (clients_nil _) ?_
  rintro _ _ ⟨rfl, rfl⟩
  refine WL.y rfl (Y.lenSl Try.underlying37 ((SlK.nil (w := w) (k := 1))) _) ?_
  refine WL.y rfl (Y.dT (Y.eqi rfl rfl) (rfl)) ?_
  refine WL.y rfl (Y.pickT rfl) ?_
  refine WL.y rfl (Y.move) ?_
  refine WL.y rfl (Y.move) ?_
  refine WL.call rfl (C.func go16) (copy_nil _) ?_
  rintro _ _ ⟨rfl, rfl⟩
  refine WL.y rfl (Y.bT (Y.eqpn Try.underlying23 rfl rfl) (rfl)) ?_
  refine WL.y rfl (Y.pickT rfl) ?_
  refine WL.y rfl (Y.move) ?_
  refine WL.y rfl (Y.move) ?_
  refine WL.call rfl (C.func go13) (last_ret c ((tab_zero hB).bel (Below.step (Below.step hb30 hb37) hb42))) ?_
  rintro _ _ ⟨rfl, rfl⟩
  refine WL.y rfl (Y.dT (Y.eqi rfl rfl) (rfl)) ?_
  refine WL.y rfl (Y.pickT rfl) ?_
  refine WL.y rfl (Y.move) ?_
  refine WL.call rfl (C.func go14) (newest_ret ((tab_zero hB).bel (Below.step (Below.step hb30 hb37) hb42))) ?_
  rintro _ _ ⟨rfl, rfl⟩
  refine WL.y rfl (Y.dT (Y.eqi rfl rfl) (rfl)) ?_
  refine WL.y rfl (Y.pickT rfl) ?_
  refine WL.y rfl (Y.move) ?_
  refine WL.call rfl (C.func go15) (clients_zero _ _ _ _ _ (hB.bel (Below.step (Below.step hb30 hb37) hb42))) ?_
  rintro _ w105 ⟨rfl, hb105⟩
  refine WL.y rfl (Y.lenSl Try.underlying37 ((SlK.nil (w := w) (k := 1))) _) ?_
  refine WL.y rfl (Y.dT (Y.eqi rfl rfl) (rfl)) ?_
  refine WL.y rfl (Y.pickT rfl) ?_
  refine WL.y rfl (Y.move) ?_
  refine WL.call rfl (C.func go17) (known_ret _) ?_
  rintro _ w110 ⟨rfl, hb110⟩
  refine WL.y rfl (Y.pickT rfl) ?_
  refine WL.y rfl (Y.assign) ?_
  refine WL.nil ?_
  refine WC.ret (endQ.one (.inr rfl) ?_)
  exact ⟨rfl, Below.step (Below.step (Below.step (Below.step (Below.step hb6 hb30) hb37) hb42) hb105) hb110⟩
end Go.Proofs.Ytlhhognabmnlmaa
