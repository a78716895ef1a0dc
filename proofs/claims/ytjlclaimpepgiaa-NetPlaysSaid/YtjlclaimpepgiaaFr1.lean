/-
  frame: the small functions.
-/
import Derived.Test.YtjlclaimpepgiaaBase8
import Derived.Test.YtjlclaimpepgiaaCrcP
import Derived.Test.YtjlclaimpepgiaaOpen0
namespace Go.Proofs.Ytjlclaimpepgiaa
open Go Go.RowKit Go.Cx
set_option linter.unusedVariables false
open Crc
theorem unless_ret (so : Bool) (c : Int) (w : World) :
    Ret Try.prog 50 [.bool so, .int .i64 c].toArray w fun v w' => v = .int .i64 (if so then 0 else c) ∧ w = w' := by
  refine Ret.of (n := 7) (rs := #[.tmp 4]) Try.func50 rfl rfl rfl (by simp) ?_
  refine WC.seqR rfl ?_
  refine WL.y rfl (Y.assign) ?_
  refine WL.nil ?_
  refine WC.seq ?_
  refine WC.seqR rfl ?_
  refine WL.y rfl (Y.move) ?_
  refine WL.nil ?_
  refine WC.cond rfl (fun hc => ?_) (fun hc => ?_)
  · refine WC.seqR rfl ?_
    refine WL.y rfl (Y.assign) ?_
    refine WL.nil ?_
    refine WC.ret (thenQ.ret (endQ.one (.inr rfl) ?_))
    subst hc
    exact ⟨rfl, rfl⟩
  · refine WC.skip (thenQ.normal ?_)
    refine WC.seqR rfl ?_
    refine WL.y rfl (Y.move) ?_
    refine WL.y rfl (Y.assign) ?_
    refine WL.nil ?_
    refine WC.ret (endQ.one (.inr rfl) ?_)
    subst hc
    exact ⟨rfl, rfl⟩
theorem named_ret (m : UInt8) (w : World) :
    Ret Try.prog 43 [u8v m].toArray w fun v w' => v = .int .i64 (if m = 0 then 2 else 0) ∧ w = w' := by
  by_cases hm : m = 0
  · subst hm
    refine Ret.of (n := 6) (rs := #[.tmp 2]) Try.func43 rfl rfl rfl (by simp) ?_
    refine WC.seqR rfl ?_
    refine WL.y rfl (Y.assign) ?_
    refine WL.nil ?_
    refine WC.seqR rfl ?_
    refine WL.y rfl (Y.move) ?_
    refine WL.y rfl (Y.dF (Y.nei rfl rfl) (by simp)) ?_
    refine WL.call rfl (C.func go50) (unless_ret false 2 _) ?_
    rintro _ _ ⟨rfl, rfl⟩
    refine WL.y rfl (Y.assign) ?_
    refine WL.nil ?_
    refine WC.ret (endQ.one (.inr rfl) ?_)
    exact ⟨rfl, rfl⟩
  · have hm' : m.toNat ≠ 0 := fun h => hm (UInt8.toNat_inj.mp h)
    refine Ret.of (n := 6) (rs := #[.tmp 2]) Try.func43 rfl rfl rfl (by simp) ?_
    refine WC.seqR rfl ?_
    refine WL.y rfl (Y.assign) ?_
    refine WL.nil ?_
    refine WC.seqR rfl ?_
    refine WL.y rfl (Y.move) ?_
    refine WL.y rfl (Y.dT (Y.nei rfl rfl) (by omega)) ?_
    refine WL.call rfl (C.func go50) (unless_ret true 2 _) ?_
    rintro _ _ ⟨rfl, rfl⟩
    refine WL.y rfl (Y.assign) ?_
    refine WL.nil ?_
    refine WC.ret (endQ.one (.inr rfl) ?_)
    exact ⟨(show Value.int .i64 0 = Value.int .i64 (if m = 0 then 2 else 0) by rw [if_neg hm]), rfl⟩
theorem joined_ret (bv : Value) (l : List UInt8) (m : UInt8) (w : World) (hs : Bs w bv l) (hl : l.length + 1 ≤ 140737488355328) :
    Ret Try.prog 46 [bv, u8v m].toArray w fun v w' => Own w' w.heap.size v (m :: l) ∧ Below w.heap.size w w' := by
  have hmx : maxLen = 9223372036854775807 := rfl
  refine Ret.of (n := 9) (rs := #[.tmp 4]) Try.func46 rfl rfl rfl (by simp) ?_
  refine WC.seqR rfl ?_
  refine WL.y rfl (Y.assign) ?_
  refine WL.nil ?_
  refine WC.seqR rfl ?_
  refine WL.y rfl (Y.move) ?_
  refine WL.eex rfl (E.buildSliceX (len := 1) (cs := [u8v m]) Try.underlying32 ti5 (by omega) (by omega) (by kernel_rfl) rfl) ?_
  rintro _ w6 ⟨rfl, ho6, hb6, -⟩
  refine WL.y rfl (Y.move) ?_
  refine WL.eex rfl (E.append2 Try.underlying77 Try.underlying32 ti5 rfl (by decide) ho6 (hs.bel hb6) (one_u8 l) (by omega) (by omega) hb6.size) ?_
  rintro v8 w8 ⟨ho8, hb8, -⟩
  refine WL.y rfl (Y.assign) ?_
  refine WL.nil ?_
  refine WC.ret (endQ.one (.inr rfl) ?_)
  refine ⟨?_, hb6.trans hb8⟩
  unfold Own
  rw [List.length_cons, List.map_cons, Nat.add_comm]
  exact ho8
/-- the first code that is not 0 -/
def firstOf : List Int → Int
  | [] => 0
  | c :: l => if c = 0 then firstOf l else c
theorem first_ret (v : Value) (fs : List Value) (codes : List Int) (w : World) (hs : SlK w 1 v fs.length fs) (hlen : codes.length = fs.length)
    (hret : ∀ i u, fs[i]? = some u → ∃ gf fst cap, u = .func (.func gf) (fst : List Value).toArray (cap : List Value).toArray ∧ GoFn Try.prog gf ∧ Ret Try.prog gf (fst ++ cap).toArray w fun v w' => v = .int .i64 (codes.getD i 0) ∧ w = w') :
    Ret Try.prog 44 [v].toArray w fun v w' => v = .int .i64 (firstOf codes) ∧ w = w' := by
  have hln := hs.len
  refine Ret.of (n := 18) (rs := #[.tmp 2]) Try.func44 rfl rfl rfl (by simp) ?_
  refine WC.seqR rfl ?_
  refine WL.y rfl (Y.assign) ?_
  refine WL.nil ?_
  refine WC.seq ?_
  refine WC.seqR rfl ?_
  refine WL.y rfl (Y.move) ?_
  refine WL.y rfl (Y.lenSl Try.underlying82 (hs) _) ?_
  refine WL.y rfl (Y.move) ?_
  refine WL.nil ?_
  refine WC.block ?_
  refine WC.loop (fun k => fs.length - k) (fun k f ds w' => k ≤ fs.length ∧ ds = [] ∧ w = w' ∧ firstOf codes = firstOf (codes.drop k) ∧ ∃ J, f = ov J [(6, v), (7, .int .i64 (fs.length : Int)), (8, .int .i64 (k : Int))]) 0 ?_ ?_
  · exact ⟨by omega, rfl, rfl, rfl, _, ov_mk ⟨rfl, rfl, rfl, trivial⟩⟩
  · rintro k _ _ _ ⟨hk, rfl, rfl, hfst, J, rfl⟩
    refine WC.seqR rfl ?_
    refine WL.y rfl (Y.lss rfl rfl) ?_
    refine WL.nil ?_
    refine WC.seq ?_
    refine WC.condD rfl (fun hlt => ?_) (fun hlt => ?_)
    · have hkl : k < fs.length := by omega
      obtain ⟨gf, fst, cap, hu, hgo, hR⟩ := hret k fs[k] (by simp [hkl])
      have hdrop : codes.drop k = codes.getD k 0 :: codes.drop (k + 1) := by
        rw [List.drop_eq_getElem_cons (by omega)]
        simp [show k < codes.length by omega]
      have hcl : codes.drop k ≠ [] := by rw [hdrop]; simp
      refine WC.skip (thenQ.normal ?_)
      refine WC.seq ?_
      refine WC.block ?_
      refine WC.seqR rfl ?_
      refine WL.yex rfl (Y.idx1 Try.underlying82 ti80 hs rfl (by omega) (by omega)) ?_
      rintro _ ⟨p10, rfl, hp10⟩
      refine WL.y rfl (Y.load1 Try.underlying80 rfl rfl (hp10.trans (show fs[((k : Int)).toNat]? = some fs[k] by simp [hkl]))) ?_
      refine WL.y rfl (Y.assign) ?_
      refine WL.nil ?_
      refine WC.seqR rfl ?_
      refine WL.y rfl (Y.move) ?_
      refine WL.call rfl (C.valueX hgo hu) (by rw [List.append_assoc]; exact hR) ?_
      rintro _ _ ⟨rfl, rfl⟩
      refine WL.y rfl (Y.assign) ?_
      refine WL.nil ?_
      refine WC.seqR rfl ?_
      refine WL.y rfl (Y.move) ?_
      refine WL.y rfl (Y.nei rfl rfl) ?_
      refine WL.nil ?_
      refine WC.condD rfl (fun hnz => ?_) (fun hnz => ?_)
      · refine WC.seqR rfl ?_
        refine WL.y rfl (Y.move) ?_
        refine WL.y rfl (Y.assign) ?_
        refine WL.nil ?_
        refine WC.ret (inBlockQ.ret (thenQ.ret (thenQ.ret (inBlockQ.ret (thenQ.ret (endQ.one (.inr rfl) ?_))))))
        exact ⟨congrArg (Value.int .i64) (show codes.getD k 0 = firstOf codes by rw [hfst, hdrop, firstOf, if_neg hnz]), rfl⟩
      · refine WC.skip (inBlockQ.normal (thenQ.normal ?_))
        refine WC.region rfl ?_
        refine WL.y rfl (Y.add64 rfl rfl (by omega)) ?_
        refine WL.y rfl (Y.move) ?_
        refine WL.nil (thenQ.normal ?_)
        refine ⟨k + 1, by omega, by omega, rfl, rfl, ?_, _, ov_mk ⟨rfl, rfl, rfl, trivial⟩⟩
        rw [hfst, hdrop, firstOf, if_pos (Decidable.not_not.mp hnz)]
    · have hkl : k = fs.length := by omega
      subst hkl
      rw [← hlen, List.drop_length] at hfst
      refine WC.exit (thenQ.exit (thenQ.exit (inBlockQ.hit (thenQ.normal ?_))))
      refine WC.seqR rfl ?_
      refine WL.y rfl (Y.assign) ?_
      refine WL.nil ?_
      refine WC.ret (endQ.one (.inr rfl) ?_)
      exact ⟨congrArg (Value.int .i64) (show (0 : Int) = firstOf codes by rw [hfst]; rfl), rfl⟩
end Go.Proofs.Ytjlclaimpepgiaa
