/-
  keys: the chapter's rows; the laws.
-/
import Derived.Test.YtmodbnfekpeclaaDoorKey3
namespace Go.Proofs.YtmodbnfekpeclaaDoor
open Go Go.RowKit Go.Cx
set_option linter.unusedVariables false
theorem turn1 : turnS [97, 47, 120] [97, 47] [98, 47] = ([98, 47, 120], 0) := by decide +kernel
theorem turn2 : turnS [99] [97, 47] [98, 47] = ([], 12) := by decide +kernel
theorem known_ret (w : World) (hT : Tabs w) : Ret Tryd.prog 12 #[] w fun v w' => v = .bool true ∧ Below w.heap.size w w' := by
  refine Ret.of (n := 59) (rs := #[.tmp 0]) Tryd.func12 rfl rfl rfl (by simp) ?_
  refine WC.seqR rfl ?_
  refine WL.y rfl (Y.assign) ?_
  refine WL.nil ?_
  refine WC.seqR rfl ?_
  refine WL.call rfl (C.func go13) (end_ret _ [97, 98] (by simp)) ?_
  rintro _ w12 ⟨rfl, hb12⟩
  have k12 := hb12
  refine WL.y rfl (Y.move) ?_
  refine WL.y rfl (Y.extract rfl rfl) ?_
  refine WL.y rfl (Y.extract rfl (congrArg some (congrArg Value.bool (show endB [97, 98] = true from by decide +kernel)))) ?_
  refine WL.y rfl (Y.assign) ?_
  refine WL.y rfl (Y.assign) ?_
  refine WL.nil ?_
  refine WC.seqR rfl ?_
  refine WL.call rfl (C.func go13) (end_ret _ [97, 255] (by simp)) ?_
  rintro _ w16 ⟨rfl, hb16⟩
  have k16 := Below.step k12 hb16
  refine WL.y rfl (Y.move) ?_
  refine WL.y rfl (Y.extract rfl rfl) ?_
  refine WL.y rfl (Y.extract rfl (congrArg some (congrArg Value.bool (show endB [97, 255] = true from by decide +kernel)))) ?_
  refine WL.y rfl (Y.assign) ?_
  refine WL.y rfl (Y.assign) ?_
  refine WL.nil ?_
  refine WC.seqR rfl ?_
  refine WL.call rfl (C.func go13) (end_ret _ [] (by simp)) ?_
  rintro _ w20 ⟨rfl, hb20⟩
  have k20 := Below.step k16 hb20
  refine WL.y rfl (Y.move) ?_
  refine WL.y rfl (Y.extract rfl rfl) ?_
  refine WL.y rfl (Y.extract rfl (congrArg some (congrArg Value.bool (show endB [] = false from by decide +kernel)))) ?_
  refine WL.y rfl (Y.assign) ?_
  refine WL.y rfl (Y.assign) ?_
  refine WL.nil ?_
  refine WC.seqR rfl ?_
  refine WL.call rfl (C.func go15) (turn_ret _ [97, 47, 120] [97, 47] [98, 47] (by simp) (by simp) (hT.bel k20)) ?_
  rintro _ w24 ⟨rfl, hb24⟩
  have k24 := Below.step k20 hb24
  refine WL.y rfl (Y.move) ?_
  refine WL.y rfl (Y.extract rfl rfl) ?_
  refine WL.y rfl (Y.extract rfl rfl) ?_
  refine WL.y rfl (Y.assign) ?_
  refine WL.y rfl (Y.assign) ?_
  refine WL.nil ?_
  refine WC.seqR rfl ?_
  refine WL.call rfl (C.func go15) (turn_ret _ [99] [97, 47] [98, 47] (by simp) (by simp) (hT.bel k24)) ?_
  rintro _ w28 ⟨rfl, hb28⟩
  have k28 := Below.step k24 hb28
  refine WL.y rfl (Y.move) ?_
  refine WL.y rfl (Y.extract rfl rfl) ?_
  refine WL.y rfl (Y.extract rfl rfl) ?_
  refine WL.y rfl (Y.assign) ?_
  refine WL.y rfl (Y.assign) ?_
  refine WL.nil ?_
  refine WC.seqR rfl ?_
  refine WL.y rfl (Y.move) ?_
  refine WL.y rfl (Y.bT (Y.eqS (b := [97, 99]) rfl rfl) (by decide +kernel)) ?_
  refine WL.y rfl (Y.move) ?_
  refine WL.y rfl (Y.move) ?_
  refine WL.y rfl (Y.pickT rfl) ?_
  refine WL.y rfl (Y.move) ?_
  refine WL.y rfl (Y.move) ?_
  refine WL.y rfl (Y.bT (Y.eqS (b := [98]) rfl rfl) (by decide +kernel)) ?_
  refine WL.y rfl (Y.pickT rfl) ?_
  refine WL.y rfl (Y.move) ?_
  refine WL.y rfl (Y.move) ?_
  refine WL.y rfl (Y.pickT rfl) ?_
  refine WL.y rfl (Y.move) ?_
  refine WL.y rfl (Y.move) ?_
  refine WL.y rfl (Y.not rfl) ?_
  refine WL.y rfl (Y.pickT rfl) ?_
  refine WL.y rfl (Y.move) ?_
  refine WL.y rfl (Y.move) ?_
  refine WL.y rfl (Y.bT (Y.eqS (b := [98, 47, 120]) rfl rfl) (by rw [turn1]; rfl)) ?_
  refine WL.y rfl (Y.pickT rfl) ?_
  refine WL.y rfl (Y.move) ?_
  refine WL.y rfl (Y.move) ?_
  refine WL.y rfl (Y.dT (Y.eqi rfl rfl) (by rw [turn1])) ?_
  refine WL.y rfl (Y.pickT rfl) ?_
  refine WL.y rfl (Y.move) ?_
  refine WL.y rfl (Y.move) ?_
  refine WL.y rfl (Y.dT (Y.eqi rfl rfl) (by rw [turn2])) ?_
  refine WL.y rfl (Y.pickT rfl) ?_
  refine WL.y rfl (Y.assign) ?_
  refine WL.nil ?_
  refine WC.ret (endQ.one (.inr rfl) ?_)
  exact ⟨rfl, k28⟩
theorem keysMay_ret (w : World) (k : List UInt8) (hk : k.length ≤ 140737488351232) (hT : Tabs w) :
    Ret Tryd.prog 3 [strv k].toArray w fun v w' => v = .bool true ∧ Below w.heap.size w w' := by
  refine Ret.of (n := 11) (rs := #[.tmp 2]) Tryd.func3 rfl rfl rfl (by simp) ?_
  refine WC.seqR rfl ?_
  refine WL.y rfl (Y.assign) ?_
  refine WL.nil ?_
  refine WC.seqR rfl ?_
  refine WL.y rfl (Y.move) ?_
  refine WL.call rfl (C.func go10) (may_ret _ k (by omega) hT) ?_
  rintro _ w4 ⟨rfl, hb4⟩
  have k4 := hb4
  refine WL.y rfl (Y.move) ?_
  refine WL.call rfl (C.func go11) (rmay_ret _ k (by omega)) ?_
  rintro _ _ ⟨rfl, rfl⟩
  refine WL.y rfl (Y.dT (Y.eqi rfl rfl) (by omega)) ?_
  refine WL.y rfl (Y.move) ?_
  refine WL.call rfl (C.func go12) (known_ret _ (hT.bel k4)) ?_
  rintro _ w9 ⟨rfl, hb9⟩
  have k9 := Below.step k4 hb9
  refine WL.y rfl (Y.pickT rfl) ?_
  refine WL.y rfl (Y.assign) ?_
  refine WL.nil ?_
  refine WC.ret (endQ.one (.inr rfl) ?_)
  exact ⟨rfl, k9⟩
theorem keysEnd_ret (w : World) (p : List UInt8) (hp : p.length ≤ 140737488351232) (hT : Tabs w) :
    Ret Tryd.prog 4 [strv p].toArray w fun v w' => v = .bool true ∧ Below w.heap.size w w' := by
  refine Ret.of (n := 28) (rs := #[.tmp 2]) Tryd.func4 rfl rfl rfl (by simp) ?_
  refine WC.seqR rfl ?_
  refine WL.y rfl (Y.assign) ?_
  refine WL.nil ?_
  refine WC.seqR rfl ?_
  refine WL.y rfl (Y.move) ?_
  refine WL.call rfl (C.func go13) (end_ret _ p (by omega)) ?_
  rintro _ w9 ⟨rfl, hb9⟩
  have k9 := hb9
  refine WL.y rfl (Y.move) ?_
  refine WL.y rfl (Y.extract rfl rfl) ?_
  refine WL.y rfl (Y.extract rfl rfl) ?_
  refine WL.y rfl (Y.assign) ?_
  refine WL.y rfl (Y.assign) ?_
  refine WL.nil ?_
  refine WC.seqR rfl ?_
  refine WL.y rfl (Y.move) ?_
  refine WL.call rfl (C.func go14) (rend_ret _ p (by omega)) ?_
  rintro _ w14 ⟨rfl, hb14⟩
  have k14 := Below.step k9 hb14
  refine WL.y rfl (Y.move) ?_
  refine WL.y rfl (Y.extract rfl rfl) ?_
  refine WL.y rfl (Y.extract rfl rfl) ?_
  refine WL.y rfl (Y.assign) ?_
  refine WL.y rfl (Y.assign) ?_
  refine WL.nil ?_
  refine WC.seqR rfl ?_
  refine WL.y rfl (Y.move) ?_
  refine WL.y rfl (Y.move) ?_
  refine WL.y rfl (Y.bT (Y.eqS rfl rfl) (by simp)) ?_
  refine WL.y rfl (Y.move) ?_
  refine WL.y rfl (Y.move) ?_
  refine WL.y rfl (Y.move) ?_
  refine WL.y rfl (Y.bT (Y.eqb Tryd.underlying4 rfl rfl) (by simp)) ?_
  refine WL.y rfl (Y.pickT rfl) ?_
  refine WL.y rfl (Y.move) ?_
  refine WL.call rfl (C.func go12) (known_ret _ (hT.bel k14)) ?_
  rintro _ w26 ⟨rfl, hb26⟩
  have k26 := Below.step k14 hb26
  refine WL.y rfl (Y.pickT rfl) ?_
  refine WL.y rfl (Y.assign) ?_
  refine WL.nil ?_
  refine WC.ret (endQ.one (.inr rfl) ?_)
  exact ⟨rfl, k26⟩
theorem keysWithin_ret (w : World) (k : List UInt8) (hk : k.length ≤ 140737488351232) (lo : List UInt8) (hlo : lo.length ≤ 140737488351232) (hi : List UInt8) (hhi : hi.length ≤ 140737488351232) (o : Bool) (hT : Tabs w) :
    Ret Tryd.prog 8 [strv k, strv lo, strv hi, .bool o].toArray w fun v w' => v = .bool true ∧ Below w.heap.size w w' := by
  refine Ret.of (n := 23) (rs := #[.tmp 8]) Tryd.func8 rfl rfl rfl (by simp) ?_
  refine WC.seqR rfl ?_
  refine WL.y rfl (Y.assign) ?_
  refine WL.nil ?_
  refine WC.seqR rfl ?_
  refine WL.y rfl (Y.move) ?_
  refine WL.y rfl (Y.move) ?_
  refine WL.y rfl (Y.move) ?_
  refine WL.y rfl (Y.move) ?_
  refine WL.call rfl (C.func go17) (within_ret _ k lo hi o) ?_
  rintro _ _ ⟨rfl, rfl⟩
  refine WL.y rfl (Y.move) ?_
  refine WL.y rfl (Y.move) ?_
  refine WL.y rfl (Y.move) ?_
  refine WL.y rfl (Y.move) ?_
  refine WL.call rfl (C.func go18) (rwithin_ret _ k lo hi o) ?_
  rintro _ _ ⟨rfl, rfl⟩
  refine WL.y rfl (Y.bT (Y.eqb Tryd.underlying4 rfl rfl) (by simp)) ?_
  refine WL.y rfl (Y.move) ?_
  refine WL.call rfl (C.func go12) (known_ret _ (hT.bel (Below.refl _ _))) ?_
  rintro _ w21 ⟨rfl, hb21⟩
  have k21 := hb21
  refine WL.y rfl (Y.pickT rfl) ?_
  refine WL.y rfl (Y.assign) ?_
  refine WL.nil ?_
  refine WC.ret (endQ.one (.inr rfl) ?_)
  exact ⟨rfl, k21⟩
theorem keysTurn_ret (w : World) (k : List UInt8) (hk : k.length ≤ 140737488351232) (a : List UInt8) (ha : a.length ≤ 140737488351232) (b : List UInt8) (hb : b.length ≤ 140737488351232) (hT : Tabs w) :
    Ret Tryd.prog 6 [strv k, strv a, strv b].toArray w fun v w' => v = .bool true ∧ Below w.heap.size w w' := by
  refine Ret.of (n := 36) (rs := #[.tmp 6]) Tryd.func6 rfl rfl rfl (by simp) ?_
  refine WC.seqR rfl ?_
  refine WL.y rfl (Y.assign) ?_
  refine WL.nil ?_
  refine WC.seqR rfl ?_
  refine WL.y rfl (Y.move) ?_
  refine WL.y rfl (Y.move) ?_
  refine WL.y rfl (Y.move) ?_
  refine WL.call rfl (C.func go15) (turn_ret _ k a b (by omega) (by omega) hT) ?_
  rintro _ w15 ⟨rfl, hb15⟩
  have k15 := hb15
  refine WL.y rfl (Y.move) ?_
  refine WL.y rfl (Y.extract rfl rfl) ?_
  refine WL.y rfl (Y.extract rfl rfl) ?_
  refine WL.y rfl (Y.assign) ?_
  refine WL.y rfl (Y.assign) ?_
  refine WL.nil ?_
  refine WC.seqR rfl ?_
  refine WL.y rfl (Y.move) ?_
  refine WL.y rfl (Y.move) ?_
  refine WL.y rfl (Y.move) ?_
  refine WL.call rfl (C.func go16) (rturn_ret _ k a b (by omega) (by omega)) ?_
  rintro _ w22 ⟨rfl, hb22⟩
  have k22 := Below.step k15 hb22
  refine WL.y rfl (Y.move) ?_
  refine WL.y rfl (Y.extract rfl rfl) ?_
  refine WL.y rfl (Y.extract rfl rfl) ?_
  refine WL.y rfl (Y.assign) ?_
  refine WL.y rfl (Y.assign) ?_
  refine WL.nil ?_
  refine WC.seqR rfl ?_
  refine WL.y rfl (Y.move) ?_
  refine WL.y rfl (Y.move) ?_
  refine WL.y rfl (Y.bT (Y.eqS rfl rfl) (by simp)) ?_
  refine WL.y rfl (Y.move) ?_
  refine WL.y rfl (Y.move) ?_
  refine WL.y rfl (Y.move) ?_
  refine WL.y rfl (Y.dT (Y.eqi rfl rfl) (by omega)) ?_
  refine WL.y rfl (Y.pickT rfl) ?_
  refine WL.y rfl (Y.move) ?_
  refine WL.call rfl (C.func go12) (known_ret _ (hT.bel k22)) ?_
  rintro _ w34 ⟨rfl, hb34⟩
  have k34 := Below.step k22 hb34
  refine WL.y rfl (Y.pickT rfl) ?_
  refine WL.y rfl (Y.assign) ?_
  refine WL.nil ?_
  refine WC.ret (endQ.one (.inr rfl) ?_)
  exact ⟨rfl, k34⟩
end Go.Proofs.YtmodbnfekpeclaaDoor
