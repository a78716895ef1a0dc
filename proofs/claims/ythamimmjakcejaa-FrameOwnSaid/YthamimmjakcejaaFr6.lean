/-
  The document's frames; the closed sentence of chapter 16.
-/
import Derived.Test.YthamimmjakcejaaFr5
namespace Go.Proofs.Ythamimmjakcejaa
open Go Go.RowKit Go.Cx
set_option linter.unusedVariables false
open Crc
theorem bs_nil (w : World) : Bs w (.slice none 0 0) [] := SlK.nil
theorem refFrame_ret (w : World) (k : UInt8) (bv : Value) (l : List UInt8) (hs : Bs w bv l) (hl : l.length + 5 ≤ 140737488355328) :
    Ret Try.prog 12 [u8v k, bv].toArray w fun v w' => (∃ fv, v = .tuple #[fv, .int .i64 (frameCode k)] ∧ Own w' w.heap.size fv (frameOf k l)) ∧ Below w.heap.size w w' := by
  have hmx : maxLen = 9223372036854775807 := rfl
  by_cases hk : k = 0
  · subst hk
    refine Ret.of (n := 13) (rs := #[.tmp 4, .tmp 5]) Try.func12 rfl rfl rfl (by simp) ?_
    refine WC.seqR rfl ?_
    refine WL.y rfl (Y.assign) ?_
    refine WL.y rfl (Y.assign) ?_
    refine WL.nil ?_
    refine WC.seq ?_
    refine WC.seqR rfl ?_
    refine WL.y rfl (Y.move) ?_
    refine WL.y rfl (Y.dT (Y.eqi rfl rfl) (by simp)) ?_
    refine WL.nil ?_
    refine WC.condT (rfl) ?_
    refine WC.seqR rfl ?_
    refine WL.y rfl (Y.assign) ?_
    refine WL.y rfl (Y.assign) ?_
    refine WL.nil ?_
    refine WC.ret (thenQ.ret (endQ.two (.inr rfl) ?_))
    exact ⟨⟨.slice none 0 0, rfl, World.ownsRow_nil _ _ _ _⟩, Below.refl _ _⟩
  · have hk' : k.toNat ≠ 0 := fun h => hk (UInt8.toNat_inj.mp h)
    refine Ret.of (n := 13) (rs := #[.tmp 4, .tmp 5]) Try.func12 rfl rfl rfl (by simp) ?_
    refine WC.seqR rfl ?_
    refine WL.y rfl (Y.assign) ?_
    refine WL.y rfl (Y.assign) ?_
    refine WL.nil ?_
    refine WC.seq ?_
    refine WC.seqR rfl ?_
    refine WL.y rfl (Y.move) ?_
    refine WL.y rfl (Y.dF (Y.eqi rfl rfl) (by omega)) ?_
    refine WL.nil ?_
    refine WC.condF (rfl) ?_
    refine WC.skip (thenQ.normal ?_)
    refine WC.seqR rfl ?_
    refine WL.y rfl (Y.move) ?_
    refine WL.eex rfl (E.buildSliceX (len := 1) (cs := [u8v k]) Try.underlying22 ti5 (by omega) (by omega) (by kernel_rfl) rfl) ?_
    rintro _ w9 ⟨rfl, ho9, hb9, -⟩
    refine WL.y rfl (Y.move) ?_
    refine WL.eex rfl (E.append Try.underlying22 ti5 rfl (by decide) ho9 (hs.bel hb9) (one_u8 l) (by omega) (by omega) hb9.size) ?_
    rintro v11 w11 ⟨ho11, hb11, -⟩
    have hO : Own w11 w.heap.size v11 (k :: l) := by unfold Own; rw [List.length_cons, List.map_cons, Nat.add_comm]; exact ho11
    refine WL.call rfl (C.func go24) (refSeal_ret v11 (k :: l) _ hO.bs (by rw [List.length_cons]; omega)) ?_
    rintro v12 w12 ⟨ho12, hb12⟩
    refine WL.y rfl (Y.assign) ?_
    refine WL.y rfl (Y.assign) ?_
    refine WL.nil ?_
    refine WC.ret (endQ.two (.inr rfl) ?_)
    have kk := Below.step (hb9.trans hb11) hb12
    refine ⟨⟨v12, congrArg (fun c => Value.tuple #[v12, .int .i64 c]) (frameCode_pos hk).symm, ?_⟩, kk⟩
    unfold frameOf
    rw [if_neg hk]
    exact ownsRow_mono ho12 (hb9.trans hb11).size
theorem refFrameOpen_ret (w : World) (bv : Value) (l : List UInt8) (hs : Bs w bv l) (hl : l.length ≤ 140737488355328) :
    Ret Try.prog 17 [bv].toArray w fun v w' => (∃ xv, v = .tuple #[u8v (openOf l).1, xv, .int .i64 (openOf l).2.2] ∧ Bs w' xv (openOf l).2.1) ∧ Below w.heap.size w w' := by
  by_cases hse : IsSealed l
  · cases hop : opened l with
    | nil =>
      have hro : openOf l = (0, [], 11) := by unfold openOf readOf; rw [hop]; rfl
      rw [hro]
      refine Ret.of (n := 28) (rs := #[.tmp 2, .tmp 3, .tmp 4]) Try.func17 rfl rfl rfl (by simp) ?_
      refine WC.seqR rfl ?_
      refine WL.y rfl (Y.assign) ?_
      refine WL.y rfl (Y.assign) ?_
      refine WL.y rfl (Y.assign) ?_
      refine WL.nil ?_
      refine WC.seqR rfl ?_
      refine WL.y rfl (Y.move) ?_
      refine WL.call rfl (C.func go29) (refOpen_ret bv l _ (hs.bel (Below.refl _ _)) (by omega)) ?_
      rintro _ w9 ⟨⟨o9, rfl, ho9⟩, hb9⟩
      have k9 := hb9
      refine WL.y rfl (Y.move) ?_
      refine WL.y rfl (Y.extract rfl rfl) ?_
      refine WL.y rfl (Y.extract rfl (congrArg some (congrArg Value.bool (decide_eq_true hse)))) ?_
      refine WL.y rfl (Y.assign) ?_
      refine WL.y rfl (Y.assign) ?_
      refine WL.nil ?_
      refine WC.seq ?_
      refine WC.seqR rfl ?_
      refine WL.y rfl (Y.move) ?_
      refine WL.y rfl (Y.not rfl) ?_
      refine WL.y rfl (Y.move) ?_
      refine WL.y rfl (Y.move) ?_
      refine WL.y rfl (Y.lenSl Try.underlying22 (ho9) _) ?_
      refine WL.y rfl (Y.dT (Y.eqi rfl rfl) (by rw [hop]; rfl)) ?_
      refine WL.y rfl (Y.pickF rfl) ?_
      refine WL.nil ?_
      refine WC.condT (rfl) ?_
      refine WC.seqR rfl ?_
      refine WL.y rfl (Y.assign) ?_
      refine WL.y rfl (Y.assign) ?_
      refine WL.y rfl (Y.assign) ?_
      refine WL.nil ?_
      refine WC.ret (thenQ.ret (endQ.three (.inr rfl) ?_))
      exact ⟨⟨.slice none 0 0, rfl, bs_nil _⟩, k9⟩
    | cons m xs =>
      have hlm : (m :: xs).length = xs.length + 1 := List.length_cons
      by_cases hm : m = 0
      · subst hm
        have hro : openOf l = (0, [], 2) := by unfold openOf readOf; rw [hop]; rfl
        rw [hro]
        refine Ret.of (n := 28) (rs := #[.tmp 2, .tmp 3, .tmp 4]) Try.func17 rfl rfl rfl (by simp) ?_
        refine WC.seqR rfl ?_
        refine WL.y rfl (Y.assign) ?_
        refine WL.y rfl (Y.assign) ?_
        refine WL.y rfl (Y.assign) ?_
        refine WL.nil ?_
        refine WC.seqR rfl ?_
        refine WL.y rfl (Y.move) ?_
        refine WL.call rfl (C.func go29) (refOpen_ret bv l _ (hs.bel (Below.refl _ _)) (by omega)) ?_
        rintro _ w9 ⟨⟨o9, rfl, ho9⟩, hb9⟩
        have k9 := hb9
        have ho9 : Bs w9 o9 (0 :: xs) := by rw [hop] at ho9; exact ho9
        refine WL.y rfl (Y.move) ?_
        refine WL.y rfl (Y.extract rfl rfl) ?_
        refine WL.y rfl (Y.extract rfl (congrArg some (congrArg Value.bool (decide_eq_true hse)))) ?_
        refine WL.y rfl (Y.assign) ?_
        refine WL.y rfl (Y.assign) ?_
        refine WL.nil ?_
        refine WC.seq ?_
        refine WC.seqR rfl ?_
        refine WL.y rfl (Y.move) ?_
        refine WL.y rfl (Y.not rfl) ?_
        refine WL.y rfl (Y.move) ?_
        refine WL.y rfl (Y.move) ?_
        refine WL.y rfl (Y.lenSl Try.underlying22 (ho9) _) ?_
        refine WL.y rfl (Y.dF (Y.eqi rfl rfl) (by omega)) ?_
        refine WL.y rfl (Y.pickF rfl) ?_
        refine WL.nil ?_
        refine WC.condF (rfl) ?_
        refine WC.skip (thenQ.normal ?_)
        refine WC.seq ?_
        refine WC.seqR rfl ?_
        refine WL.y rfl (Y.move) ?_
        refine WL.yex rfl (Y.idxE 0 Try.underlying22 ti5 (ho9) rfl (by omega) (by omega)) ?_
        rintro _ ⟨b20, o20, rfl, hp20⟩
        refine WL.y rfl (Y.load1 Try.underlying5 rfl rfl (hp20)) ?_
        refine WL.y rfl (Y.dT (Y.eqi rfl rfl) (by simp)) ?_
        refine WL.nil ?_
        refine WC.condT (rfl) ?_
        refine WC.seqR rfl ?_
        refine WL.y rfl (Y.assign) ?_
        refine WL.y rfl (Y.assign) ?_
        refine WL.y rfl (Y.assign) ?_
        refine WL.nil ?_
        refine WC.ret (thenQ.ret (endQ.three (.inr rfl) ?_))
        exact ⟨⟨.slice none 0 0, rfl, bs_nil _⟩, k9⟩
      · have hro : openOf l = (m, xs, 0) := by unfold openOf readOf; rw [hop]; simp [hm]
        have hm' : m.toNat ≠ 0 := fun h => hm (UInt8.toNat_inj.mp h)
        rw [hro]
        refine Ret.of (n := 28) (rs := #[.tmp 2, .tmp 3, .tmp 4]) Try.func17 rfl rfl rfl (by simp) ?_
        refine WC.seqR rfl ?_
        refine WL.y rfl (Y.assign) ?_
        refine WL.y rfl (Y.assign) ?_
        refine WL.y rfl (Y.assign) ?_
        refine WL.nil ?_
        refine WC.seqR rfl ?_
        refine WL.y rfl (Y.move) ?_
        refine WL.call rfl (C.func go29) (refOpen_ret bv l _ (hs.bel (Below.refl _ _)) (by omega)) ?_
        rintro _ w9 ⟨⟨o9, rfl, ho9⟩, hb9⟩
        have k9 := hb9
        have ho9 : Bs w9 o9 (m :: xs) := by rw [hop] at ho9; exact ho9
        refine WL.y rfl (Y.move) ?_
        refine WL.y rfl (Y.extract rfl rfl) ?_
        refine WL.y rfl (Y.extract rfl (congrArg some (congrArg Value.bool (decide_eq_true hse)))) ?_
        refine WL.y rfl (Y.assign) ?_
        refine WL.y rfl (Y.assign) ?_
        refine WL.nil ?_
        refine WC.seq ?_
        refine WC.seqR rfl ?_
        refine WL.y rfl (Y.move) ?_
        refine WL.y rfl (Y.not rfl) ?_
        refine WL.y rfl (Y.move) ?_
        refine WL.y rfl (Y.move) ?_
        refine WL.y rfl (Y.lenSl Try.underlying22 (ho9) _) ?_
        refine WL.y rfl (Y.dF (Y.eqi rfl rfl) (by omega)) ?_
        refine WL.y rfl (Y.pickF rfl) ?_
        refine WL.nil ?_
        refine WC.condF (rfl) ?_
        refine WC.skip (thenQ.normal ?_)
        refine WC.seq ?_
        refine WC.seqR rfl ?_
        refine WL.y rfl (Y.move) ?_
        refine WL.yex rfl (Y.idxE 0 Try.underlying22 ti5 (ho9) rfl (by omega) (by omega)) ?_
        rintro _ ⟨b20, o20, rfl, hp20⟩
        refine WL.y rfl (Y.load1 Try.underlying5 rfl rfl ((show _ = some (u8v m) from hp20))) ?_
        refine WL.y rfl (Y.dF (Y.eqi rfl rfl) (by omega)) ?_
        refine WL.nil ?_
        refine WC.condF (rfl) ?_
        refine WC.skip (thenQ.normal ?_)
        refine WC.seq ?_
        refine WC.regionB (fun _ => false) [(0, .any), (1, .any), (2, .held), (3, .any), (4, .any), (5, .any), (6, .any), (7, .any)] mixed (by kernel_rfl) (fun wr6 hS6 hheap => ?_)
        have kr6 := Below.step k9 hS6
        refine RL.any rfl rfl (fun _ => Y.move) ?_
        refine RL.yex rfl rfl (Y.idxE 0 Try.underlying22 ti5 (ho9) rfl (by omega) (by omega)) ?_
        rintro _ ⟨b24, o24, rfl, hp24⟩
        refine RL.held rfl rfl hS6 (fun _ hb9 => Y.load1 Try.underlying5 rfl rfl ((show _ = some (u8v m) from cell_bel hp24 hb9))) ?_
        refine RL.any rfl rfl (fun _ => Y.move) ?_
        refine RL.yex rfl rfl (Y.sliceFrom 1 Try.underlying22 ti5 (ho9) rfl (by omega) (by omega)) ?_
        rintro v27 hs27
        refine RL.any rfl rfl (fun _ => Y.assign) ?_
        refine RL.any rfl rfl (fun _ => Y.assign) ?_
        refine RL.any rfl rfl (fun _ => Y.assign) ?_
        refine RL.nil (thenQ.normal ?_)
        refine WC.ret (endQ.three (.inr rfl) ?_)
        exact ⟨⟨v27, rfl, hs27.bel hS6⟩, kr6⟩
  · have hro : openOf l = (0, [], 11) := by unfold openOf readOf opened; rw [if_neg hse]; rfl
    rw [hro]
    refine Ret.of (n := 28) (rs := #[.tmp 2, .tmp 3, .tmp 4]) Try.func17 rfl rfl rfl (by simp) ?_
    refine WC.seqR rfl ?_
    refine WL.y rfl (Y.assign) ?_
    refine WL.y rfl (Y.assign) ?_
    refine WL.y rfl (Y.assign) ?_
    refine WL.nil ?_
    refine WC.seqR rfl ?_
    refine WL.y rfl (Y.move) ?_
    refine WL.call rfl (C.func go29) (refOpen_ret bv l _ (hs.bel (Below.refl _ _)) (by omega)) ?_
    rintro _ w9 ⟨⟨o9, rfl, ho9⟩, hb9⟩
    have k9 := hb9
    refine WL.y rfl (Y.move) ?_
    refine WL.y rfl (Y.extract rfl rfl) ?_
    refine WL.y rfl (Y.extract rfl (congrArg some (congrArg Value.bool (decide_eq_false hse)))) ?_
    refine WL.y rfl (Y.assign) ?_
    refine WL.y rfl (Y.assign) ?_
    refine WL.nil ?_
    refine WC.seq ?_
    refine WC.seqR rfl ?_
    refine WL.y rfl (Y.move) ?_
    refine WL.y rfl (Y.not rfl) ?_
    refine WL.y rfl (Y.move) ?_
    refine WL.off rfl ?_
    refine WL.off rfl ?_
    refine WL.off rfl ?_
    refine WL.y rfl (Y.pickT rfl) ?_
    refine WL.nil ?_
    refine WC.condT (rfl) ?_
    refine WC.seqR rfl ?_
    refine WL.y rfl (Y.assign) ?_
    refine WL.y rfl (Y.assign) ?_
    refine WL.y rfl (Y.assign) ?_
    refine WL.nil ?_
    refine WC.ret (thenQ.ret (endQ.three (.inr rfl) ?_))
    exact ⟨⟨.slice none 0 0, rfl, bs_nil _⟩, k9⟩
end Go.Proofs.Ythamimmjakcejaa
