/-
  The laws of chapter 15 that need no more than the contracts: CrcSeals, CrcBack, CrcParts.
-/
import Derived.Test.YtkopiibdegdfjaaCrc3
namespace Go.Proofs.Ytkopiibdegdfjaa
open Go Go.RowKit Go.Cx
set_option linter.unusedVariables false
open Crc
theorem seal_isSealed (l : List UInt8) : IsSealed (sealed l) ∧ body (sealed l) = l := by
  have hb : body (sealed l) = l := by
    unfold body
    rw [sealed_len, show l.length + 4 - 4 = l.length by omega]
    unfold sealed
    rw [List.take_left]
  exact ⟨⟨by rw [sealed_len]; omega, by rw [hb]⟩, hb⟩
theorem opened_sealed (l : List UInt8) : opened (sealed l) = l := by
  unfold opened; rw [if_pos (seal_isSealed l).1, (seal_isSealed l).2]
theorem opened_len (l : List UInt8) : (opened l).length ≤ l.length := by
  unfold opened; split
  · unfold body; rw [List.length_take]; omega
  · simp
theorem sealed_opened (l : List UInt8) (h : IsSealed l) : sealed (opened l) = l := by
  unfold opened; rw [if_pos h]; exact h.2
theorem crcSeals_ret (w : World) (bv : Value) (l : List UInt8) (hs : Bs w bv l) (hl : l.length ≤ 140737488351232) :
    Ret Try.prog 6 [bv].toArray w fun v w' => v = .bool true ∧ Below w.heap.size w w' := by
  refine Ret.of (n := 39) (rs := #[.tmp 2]) Try.func6 rfl rfl rfl (by simp) ?_
  refine WC.seqR rfl ?_
  refine WL.y rfl (Y.assign) ?_
  refine WL.nil ?_
  refine WC.seqR rfl ?_
  refine WL.y rfl (Y.move) ?_
  refine WL.call rfl (C.func go11) (own_ret bv l _ (hs.bel (Below.refl _ _)) (by omega)) ?_
  rintro v9 w9 ⟨ho9, hb9⟩
  have k9 := hb9
  refine WL.call rfl (C.func go16) (seal_ret v9 l _ ho9.bs (by omega)) ?_
  rintro v10 w10 ⟨ho10, hb10⟩
  have k10 := Below.step k9 hb10
  refine WL.y rfl (Y.assign) ?_
  refine WL.nil ?_
  refine WC.seqR rfl ?_
  refine WL.y rfl (Y.move) ?_
  refine WL.call rfl (C.func go11) (own_ret bv l _ (hs.bel k10) (by omega)) ?_
  rintro v13 w13 ⟨ho13, hb13⟩
  have k13 := Below.step k10 hb13
  refine WL.call rfl (C.func go17) (open_ret v13 l _ ho13.bs (by omega)) ?_
  rintro _ w14 ⟨⟨x14, rfl, ho14⟩, hb14⟩
  have k14 := Below.step k13 hb14
  refine WL.y rfl (Y.move) ?_
  refine WL.y rfl (Y.extract rfl rfl) ?_
  refine WL.y rfl (Y.extract rfl rfl) ?_
  refine WL.y rfl (Y.assign) ?_
  refine WL.y rfl (Y.assign) ?_
  refine WL.nil ?_
  refine WC.seqR rfl ?_
  refine WL.y rfl (Y.move) ?_
  refine WL.call rfl (C.func go18) (refOpen_ret bv l _ (hs.bel k14) (by omega)) ?_
  rintro _ w19 ⟨⟨x19, rfl, ho19⟩, hb19⟩
  have k19 := Below.step k14 hb19
  refine WL.y rfl (Y.move) ?_
  refine WL.y rfl (Y.extract rfl rfl) ?_
  refine WL.y rfl (Y.extract rfl rfl) ?_
  refine WL.y rfl (Y.assign) ?_
  refine WL.y rfl (Y.assign) ?_
  refine WL.nil ?_
  refine WC.seqR rfl ?_
  refine WL.y rfl (Y.move) ?_
  refine WL.y rfl (Y.move) ?_
  refine WL.call rfl (C.func go20) (refSeal_ret bv l _ (hs.bel k19) (by omega)) ?_
  rintro v24 w24 ⟨ho24, hb24⟩
  have k24 := Below.step k19 hb24
  refine WL.call rfl (C.func go19) ((same_ret v10 v24 (sealed l) (sealed l) _ ((((ho10.bel hb13).bel hb14).bel hb19).bel hb24).bs ho24.bs).yes rfl) ?_
  rintro _ w25 ⟨rfl, hb25⟩
  have k25 := Below.step k24 hb25
  refine WL.y rfl (Y.move) ?_
  refine WL.y rfl (Y.move) ?_
  refine WL.y rfl (Y.move) ?_
  refine WL.y rfl (Y.bT (Y.eqb Try.underlying4 rfl rfl) (beq_self_eq_true _)) ?_
  refine WL.y rfl (Y.pickT rfl) ?_
  refine WL.y rfl (Y.move) ?_
  refine WL.y rfl (Y.move) ?_
  refine WL.y rfl (Y.move) ?_
  refine WL.call rfl (C.func go19) ((same_ret x14 x19 (opened l) (opened l) _ (((ho14.bel hb19).bel hb24).bel hb25).bs ((ho19.bel hb24).bel hb25)).yes rfl) ?_
  rintro _ w34 ⟨rfl, hb34⟩
  have k34 := Below.step k25 hb34
  refine WL.y rfl (Y.pickT rfl) ?_
  refine WL.y rfl (Y.move) ?_
  refine WL.call rfl (C.func go15) (known_ret _) ?_
  rintro _ w37 ⟨rfl, hb37⟩
  have k37 := Below.step k34 hb37
  refine WL.y rfl (Y.pickT rfl) ?_
  refine WL.y rfl (Y.assign) ?_
  refine WL.nil ?_
  refine WC.ret (endQ.one (.inr rfl) ?_)
  exact ⟨rfl, k37⟩
theorem crcBack_ret (w : World) (bv : Value) (l : List UInt8) (hs : Bs w bv l) (hl : l.length ≤ 140737488351232) (xv : Value) (x : List UInt8) (hx : Bs w xv x) (hlx : x.length ≤ 140737488351232) :
    Ret Try.prog 7 [bv, xv].toArray w fun v w' => v = .bool true ∧ Below w.heap.size w w' := by
  refine Ret.of (n := 39) (rs := #[.tmp 4]) Try.func7 rfl rfl rfl (by simp) ?_
  refine WC.seqR rfl ?_
  refine WL.y rfl (Y.assign) ?_
  refine WL.nil ?_
  refine WC.seqR rfl ?_
  refine WL.y rfl (Y.move) ?_
  refine WL.call rfl (C.func go11) (own_ret bv l _ (hs.bel (Below.refl _ _)) (by omega)) ?_
  rintro v11 w11 ⟨ho11, hb11⟩
  have k11 := hb11
  refine WL.call rfl (C.func go16) (seal_ret v11 l _ ho11.bs (by omega)) ?_
  rintro v12 w12 ⟨ho12, hb12⟩
  have k12 := Below.step k11 hb12
  refine WL.call rfl (C.func go17) (open_ret v12 (sealed l) _ ho12.bs (by rw [sealed_len]; omega)) ?_
  rintro _ w13 ⟨⟨x13, rfl, ho13⟩, hb13⟩
  have k13 := Below.step k12 hb13
  simp only [opened_sealed] at ho13
  refine WL.y rfl (Y.move) ?_
  refine WL.y rfl (Y.extract rfl rfl) ?_
  refine WL.y rfl (Y.extract rfl (congrArg some (congrArg Value.bool (decide_eq_true (seal_isSealed l).1)))) ?_
  refine WL.y rfl (Y.assign) ?_
  refine WL.y rfl (Y.assign) ?_
  refine WL.nil ?_
  refine WC.seq ?_
  refine WC.seqR rfl ?_
  refine WL.y rfl (Y.move) ?_
  refine WL.y rfl (Y.not rfl) ?_
  refine WL.y rfl (Y.move) ?_
  refine WL.y rfl (Y.move) ?_
  refine WL.y rfl (Y.move) ?_
  refine WL.call rfl (C.func go19) ((same_ret x13 bv l l _ ho13.bs (hs.bel k13)).yes rfl) ?_
  rintro _ w21 ⟨rfl, hb21⟩
  have k21 := Below.step k13 hb21
  refine WL.y rfl (Y.not rfl) ?_
  refine WL.y rfl (Y.pickF rfl) ?_
  refine WL.nil ?_
  by_cases hse : IsSealed x
  · refine WC.condF (rfl) ?_
    refine WC.skip (thenQ.normal ?_)
    refine WC.seqR rfl ?_
    refine WL.y rfl (Y.move) ?_
    refine WL.call rfl (C.func go11) (own_ret xv x _ (hx.bel k21) (by omega)) ?_
    rintro v26 w26 ⟨ho26, hb26⟩
    have k26 := Below.step k21 hb26
    refine WL.call rfl (C.func go17) (open_ret v26 x _ ho26.bs (by omega)) ?_
    rintro _ w27 ⟨⟨x27, rfl, ho27⟩, hb27⟩
    have k27 := Below.step k26 hb27
    refine WL.y rfl (Y.move) ?_
    refine WL.y rfl (Y.extract rfl rfl) ?_
    refine WL.y rfl (Y.extract rfl (congrArg some (congrArg Value.bool (decide_eq_true hse)))) ?_
    refine WL.y rfl (Y.assign) ?_
    refine WL.y rfl (Y.assign) ?_
    refine WL.nil ?_
    refine WC.seq ?_
    refine WC.seqR rfl ?_
    refine WL.y rfl (Y.move) ?_
    refine WL.y rfl (Y.move) ?_
    refine WL.y rfl (Y.move) ?_
    refine WL.call rfl (C.func go16) (seal_ret x27 (opened x) _ ho27.bs (by have := opened_len x; omega)) ?_
    rintro v33 w33 ⟨ho33, hb33⟩
    have k33 := Below.step k27 hb33
    refine WL.y rfl (Y.move) ?_
    refine WL.call rfl (C.func go19) ((same_ret v33 xv (sealed (opened x)) x _ ho33.bs (hx.bel k33)).yes (sealed_opened x hse)) ?_
    rintro _ w35 ⟨rfl, hb35⟩
    have k35 := Below.step k33 hb35
    refine WL.y rfl (Y.not rfl) ?_
    refine WL.y rfl (Y.pickT rfl) ?_
    refine WL.nil ?_
    refine WC.condF (rfl) ?_
    refine WC.skip (thenQ.normal ?_)
    refine WC.seqR rfl ?_
    refine WL.call rfl (C.func go15) (known_ret _) ?_
    rintro _ w38 ⟨rfl, hb38⟩
    have k38 := Below.step k35 hb38
    refine WL.y rfl (Y.assign) ?_
    refine WL.nil ?_
    refine WC.ret (endQ.one (.inr rfl) ?_)
    exact ⟨rfl, k38⟩
  · skip
    refine WC.condF (rfl) ?_
    refine WC.skip (thenQ.normal ?_)
    refine WC.seqR rfl ?_
    refine WL.y rfl (Y.move) ?_
    refine WL.call rfl (C.func go11) (own_ret xv x _ (hx.bel k21) (by omega)) ?_
    rintro v26 w26 ⟨ho26, hb26⟩
    have k26 := Below.step k21 hb26
    refine WL.call rfl (C.func go17) (open_ret v26 x _ ho26.bs (by omega)) ?_
    rintro _ w27 ⟨⟨x27, rfl, ho27⟩, hb27⟩
    have k27 := Below.step k26 hb27
    refine WL.y rfl (Y.move) ?_
    refine WL.y rfl (Y.extract rfl rfl) ?_
    refine WL.y rfl (Y.extract rfl (congrArg some (congrArg Value.bool (decide_eq_false hse)))) ?_
    refine WL.y rfl (Y.assign) ?_
    refine WL.y rfl (Y.assign) ?_
    refine WL.nil ?_
    refine WC.seq ?_
    refine WC.seqR rfl ?_
    refine WL.y rfl (Y.move) ?_
    refine WL.y rfl (Y.move) ?_
    refine WL.off rfl ?_
    refine WL.off rfl ?_
    refine WL.off rfl ?_
    refine WL.off rfl ?_
    refine WL.off rfl ?_
    refine WL.y rfl (Y.pickF rfl) ?_
    refine WL.nil ?_
    refine WC.condF (rfl) ?_
    refine WC.skip (thenQ.normal ?_)
    refine WC.seqR rfl ?_
    refine WL.call rfl (C.func go15) (known_ret _) ?_
    rintro _ w38 ⟨rfl, hb38⟩
    have k38 := Below.step k27 hb38
    refine WL.y rfl (Y.assign) ?_
    refine WL.nil ?_
    refine WC.ret (endQ.one (.inr rfl) ?_)
    exact ⟨rfl, k38⟩
theorem crcParts_ret (w : World) (av : Value) (a : List UInt8) (ha : Bs w av a) (hla : a.length ≤ 1048576) (bv : Value) (b : List UInt8) (hb : Bs w bv b) (hlb : b.length ≤ 1048576) (cv : Value) (c : List UInt8) (hc : Bs w cv c) (hlc : c.length ≤ 1048576) :
    Ret Try.prog 4 [av, bv, cv].toArray w fun v w' => v = .bool true ∧ Below w.heap.size w w' := by
  have e1 : more (more (sum a) b) c = sum (a ++ b ++ c) := by unfold sum; rw [more_append, more_append, List.append_assoc]
  have hmx : maxLen = 9223372036854775807 := rfl
  have e2 : more (sum a) [] = sum a := by unfold sum; rw [more_append, List.append_nil]
  have hnil : ∀ w', Bs w' (.slice none 0 0) [] := fun w' => SlK.nil
  refine Ret.of (n := 39) (rs := #[.tmp 6]) Try.func4 rfl rfl rfl (by simp) ?_
  refine WC.seqR rfl ?_
  refine WL.y rfl (Y.assign) ?_
  refine WL.nil ?_
  refine WC.seqR rfl ?_
  refine WL.y rfl (Y.move) ?_
  refine WL.call rfl (C.func go11) (own_ret av a _ (ha.bel (Below.refl _ _)) (by omega)) ?_
  rintro v9 w9 ⟨ho9, hb9⟩
  have k9 := hb9
  refine WL.y rfl (Y.move) ?_
  refine WL.eex rfl (E.append Try.underlying22 ti5 rfl (by decide) ho9 (hb.bel k9) (one_u8 b) (by omega) (by omega) (k9).size) ?_
  rintro v11 w11 ⟨ho11, hb11, -⟩
  have k11 := k9.trans hb11
  refine WL.y rfl (Y.move) ?_
  refine WL.eex rfl (E.append Try.underlying22 ti5 rfl (by decide) ho11 (hc.bel k11) (one_u8 c) (by omega) (by omega) (k11).size) ?_
  rintro v13 w13 ⟨ho13, hb13, -⟩
  have k13 := k11.trans hb13
  have ho13 : Own w13 w.heap.size v13 (a ++ b ++ c) := by unfold Own; rw [List.length_append, List.length_append, List.map_append, List.map_append]; exact ho13
  refine WL.y rfl (Y.assign) ?_
  refine WL.nil ?_
  refine WC.seqR rfl ?_
  refine WL.y rfl (Y.move) ?_
  refine WL.call rfl (C.func go11) (own_ret av a _ (ha.bel k13) (by omega)) ?_
  rintro v15 w15 ⟨ho15, hb15⟩
  have k15 := Below.step k13 hb15
  refine WL.call rfl (C.func go10) (sum_ret v15 a _ ho15.bs) ?_
  rintro _ w16 ⟨rfl, hb16⟩
  have k16 := Below.step k15 hb16
  refine WL.y rfl (Y.move) ?_
  refine WL.call rfl (C.func go11) (own_ret bv b _ (hb.bel k16) (by omega)) ?_
  rintro v18 w18 ⟨ho18, hb18⟩
  have k18 := Below.step k16 hb18
  refine WL.call rfl (C.func go13) (more_ret (sum a) v18 b _ ho18.bs) ?_
  rintro _ w19 ⟨rfl, hb19⟩
  have k19 := Below.step k18 hb19
  refine WL.y rfl (Y.move) ?_
  refine WL.call rfl (C.func go11) (own_ret cv c _ (hc.bel k19) (by omega)) ?_
  rintro v21 w21 ⟨ho21, hb21⟩
  have k21 := Below.step k19 hb21
  refine WL.call rfl (C.func go13) (more_ret (more (sum a) b) v21 c _ ho21.bs) ?_
  rintro _ w22 ⟨rfl, hb22⟩
  have k22 := Below.step k21 hb22
  refine WL.y rfl (Y.move) ?_
  refine WL.call rfl (C.func go10) (sum_ret v13 (a ++ b ++ c) _ ((((((ho13.bel hb15).bel hb16).bel hb18).bel hb19).bel hb21).bel hb22).bs) ?_
  rintro _ w24 ⟨rfl, hb24⟩
  have k24 := Below.step k22 hb24
  refine WL.y rfl (Y.dT (Y.eqi rfl rfl) (by rw [e1])) ?_
  refine WL.y rfl (Y.move) ?_
  refine WL.y rfl (Y.move) ?_
  refine WL.call rfl (C.func go11) (own_ret av a _ (ha.bel k24) (by omega)) ?_
  rintro v28 w28 ⟨ho28, hb28⟩
  have k28 := Below.step k24 hb28
  refine WL.call rfl (C.func go10) (sum_ret v28 a _ ho28.bs) ?_
  rintro _ w29 ⟨rfl, hb29⟩
  have k29 := Below.step k28 hb29
  refine WL.call rfl (C.func go13) (more_ret (sum a) (.slice none 0 0) [] _ (hnil _)) ?_
  rintro _ w30 ⟨rfl, hb30⟩
  have k30 := Below.step k29 hb30
  refine WL.y rfl (Y.move) ?_
  refine WL.call rfl (C.func go11) (own_ret av a _ (ha.bel k30) (by omega)) ?_
  rintro v32 w32 ⟨ho32, hb32⟩
  have k32 := Below.step k30 hb32
  refine WL.call rfl (C.func go10) (sum_ret v32 a _ ho32.bs) ?_
  rintro _ w33 ⟨rfl, hb33⟩
  have k33 := Below.step k32 hb33
  refine WL.y rfl (Y.dT (Y.eqi rfl rfl) (by rw [e2])) ?_
  refine WL.y rfl (Y.pickT rfl) ?_
  refine WL.y rfl (Y.move) ?_
  refine WL.call rfl (C.func go15) (known_ret _) ?_
  rintro _ w37 ⟨rfl, hb37⟩
  have k37 := Below.step k33 hb37
  refine WL.y rfl (Y.pickT rfl) ?_
  refine WL.y rfl (Y.assign) ?_
  refine WL.nil ?_
  refine WC.ret (endQ.one (.inr rfl) ?_)
  exact ⟨rfl, k37⟩
end Go.Proofs.Ytkopiibdegdfjaa
