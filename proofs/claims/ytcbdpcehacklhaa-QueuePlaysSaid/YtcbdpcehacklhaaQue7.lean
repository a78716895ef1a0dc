/-
  The law QueueLast: walk.
-/
import Derived.Test.YtcbdpcehacklhaaQue6
namespace Go.Proofs.Ytcbdpcehacklhaa
open Go Go.RowKit Go.Cx
set_option linter.unusedVariables false
set_option maxHeartbeats 8000000
theorem slnil {w : World} {k : Nat} : SlK w k (.slice none 0 0) 0 [] := SlK.nil
theorem nlat0 {w : World} {a : Int} : NLAt w (numd a []) (.slice none 0 0) := ⟨[], rfl, SlK.nil, fun j h => absurd h (by simp [numd])⟩
/-- what an adding answers -/
theorem qadd_any {w : World} {B : Nat} {q : Nat} {last : Int} {ms : List Mt} (h : QW w (fun b => B ≤ b) q last ms) (hB : B ≤ w.heap.size) (m : Mt) (c : List Value) (hm : MtAt w m c) (hl : ms.length < 100000) : Ret Try.prog 10 [.pointer (some ⟨q, 0, none⟩), .agg c.toArray].toArray w fun v w' =>
    v = .tuple #[.int .u64 (if last + ms.length + 1 ≤ 4611686018427387903 then last + ms.length + 1 else 0), .int .i64 (if last + ms.length + 1 ≤ 4611686018427387903 then 0 else 7)] ∧ QW w' (fun b => B ≤ b) q last (if last + ms.length + 1 ≤ 4611686018427387903 then ms ++ [m] else ms) ∧ Below B w w' := by
  by_cases hr : last + ms.length + 1 ≤ 4611686018427387903
  · simp only [if_pos hr]
    exact qadd_at h hB m c hm hr hl
  · simp only [if_neg hr]
    refine (qadd_full h c (by omega)).mono ?_
    rintro v w' ⟨h1, h2⟩
    exact ⟨h1, h.bel h2, h2.mono hB⟩
theorem queueLast_ret (w : World) (left : Int) (hleft : (Lit.int .u64 left).wf = true) (n : Int) (hn : (Lit.int .i64 n).wf = true) : Ret Try.prog 5 [.int .u64 left, .int .i64 n].toArray w fun v w' => v = .bool true ∧ Below w.heap.size w w' := by
  have hr := u64_range hleft
  have hr2 := i64_range hn
  refine Ret.of (n := 78) (rs := #[.tmp 4]) Try.func5 rfl rfl rfl (by simp) ?_
  refine WC.seqR rfl ?_
  refine WL.y rfl (Y.assign) ?_
  refine WL.nil ?_
  refine WC.seq ?_
  by_cases c1 : 10 < left
  · refine WC.seqR rfl ?_
    refine WL.y rfl (Y.move) ?_
    refine WL.y rfl (Y.dT (Y.gtr rfl rfl) (by omega)) ?_
    refine WL.y rfl (Y.move) ?_
    refine WL.off rfl ?_
    refine WL.off rfl ?_
    refine WL.y rfl (Y.pickT rfl) ?_
    refine WL.y rfl (Y.move) ?_
    refine WL.off rfl ?_
    refine WL.off rfl ?_
    refine WL.y rfl (Y.pickT rfl) ?_
    refine WL.nil ?_
    refine WC.condT (rfl) ?_
    refine WC.seqR rfl ?_
    refine WL.call rfl (C.func go16) (known_ret _) ?_
    rintro _ w21 ⟨rfl, hb21⟩
    refine WL.y rfl (Y.assign) ?_
    refine WL.nil ?_
    refine WC.ret (thenQ.ret (endQ.one (.inr rfl) ?_))
    exact ⟨rfl, hb21⟩
  · by_cases c2 : n < 0
    · refine WC.seqR rfl ?_
      refine WL.y rfl (Y.move) ?_
      refine WL.y rfl (Y.dF (Y.gtr rfl rfl) (by omega)) ?_
      refine WL.y rfl (Y.move) ?_
      refine WL.y rfl (Y.move) ?_
      refine WL.y rfl (Y.dT (Y.lss rfl rfl) (by omega)) ?_
      refine WL.y rfl (Y.pickF rfl) ?_
      refine WL.y rfl (Y.move) ?_
      refine WL.off rfl ?_
      refine WL.off rfl ?_
      refine WL.y rfl (Y.pickT rfl) ?_
      refine WL.nil ?_
      refine WC.condT (rfl) ?_
      refine WC.seqR rfl ?_
      refine WL.call rfl (C.func go16) (known_ret _) ?_
      rintro _ w21 ⟨rfl, hb21⟩
      refine WL.y rfl (Y.assign) ?_
      refine WL.nil ?_
      refine WC.ret (thenQ.ret (endQ.one (.inr rfl) ?_))
      exact ⟨rfl, hb21⟩
    · by_cases c3 : 20 < n
      · refine WC.seqR rfl ?_
        refine WL.y rfl (Y.move) ?_
        refine WL.y rfl (Y.dF (Y.gtr rfl rfl) (by omega)) ?_
        refine WL.y rfl (Y.move) ?_
        refine WL.y rfl (Y.move) ?_
        refine WL.y rfl (Y.dF (Y.lss rfl rfl) (by omega)) ?_
        refine WL.y rfl (Y.pickF rfl) ?_
        refine WL.y rfl (Y.move) ?_
        refine WL.y rfl (Y.move) ?_
        refine WL.y rfl (Y.dT (Y.gtr rfl rfl) (by omega)) ?_
        refine WL.y rfl (Y.pickF rfl) ?_
        refine WL.nil ?_
        refine WC.condT (rfl) ?_
        refine WC.seqR rfl ?_
        refine WL.call rfl (C.func go16) (known_ret _) ?_
        rintro _ w21 ⟨rfl, hb21⟩
        refine WL.y rfl (Y.assign) ?_
        refine WL.nil ?_
        refine WC.ret (thenQ.ret (endQ.one (.inr rfl) ?_))
        exact ⟨rfl, hb21⟩
      · have hof := fun w' : World => qof_ret w' (4611686018427387904 - left - 1) [] (.slice none 0 0) nlat0 ⟨by omega, by simp only [List.length_nil]; omega⟩ (by simp)
        have e0 : (4611686018427387904 - left - 1 + (([] : List Mt).length : Int) + 1) = 4611686018427387904 - left := by simp only [List.length_nil]; omega
        simp only [e0] at hof
        skip
        refine WC.seqR rfl ?_
        refine WL.y rfl (Y.move) ?_
        refine WL.y rfl (Y.dF (Y.gtr rfl rfl) (by omega)) ?_
        refine WL.y rfl (Y.move) ?_
        refine WL.y rfl (Y.move) ?_
        refine WL.y rfl (Y.dF (Y.lss rfl rfl) (by omega)) ?_
        refine WL.y rfl (Y.pickF rfl) ?_
        refine WL.y rfl (Y.move) ?_
        refine WL.y rfl (Y.move) ?_
        refine WL.y rfl (Y.dF (Y.gtr rfl rfl) (by omega)) ?_
        refine WL.y rfl (Y.pickF rfl) ?_
        refine WL.nil ?_
        refine WC.condF (rfl) ?_
        refine WC.skip (thenQ.normal ?_)
        refine WC.seqR rfl ?_
        refine WL.y rfl (Y.move) ?_
        refine WL.y rfl (Y.subU64 rfl rfl (by omega)) ?_
        refine WL.y rfl (Y.assign) ?_
        refine WL.nil ?_
        refine WC.seqR rfl ?_
        refine WL.y rfl (Y.move) ?_
        refine WL.y rfl (Y.subU64 rfl rfl (by omega)) ?_
        refine WL.y rfl (Y.move) ?_
        refine WL.call rfl (C.func go22) (hof _) ?_
        rintro _ w28 ⟨q, rfl, hq, hb28⟩
        refine WL.y rfl (Y.move) ?_
        refine WL.y rfl (Y.extract rfl rfl) ?_
        refine WL.y rfl (Y.extract rfl rfl) ?_
        refine WL.y rfl (Y.assign) ?_
        refine WL.y rfl (Y.assign) ?_
        refine WL.nil ?_
        refine WC.seq ?_
        refine WC.seqR rfl ?_
        refine WL.y rfl (Y.move) ?_
        refine WL.y rfl (Y.bF (Y.eqpn Try.underlying32 rfl rfl) (rfl)) ?_
        refine WL.y rfl (Y.move) ?_
        refine WL.y rfl (Y.move) ?_
        refine WL.y rfl (Y.dF (Y.nei rfl rfl) (fun h => h rfl)) ?_
        refine WL.y rfl (Y.pickF rfl) ?_
        refine WL.nil ?_
        refine WC.condF (rfl) ?_
        refine WC.skip (thenQ.normal ?_)
        refine WC.seq ?_
        refine WC.seqR rfl ?_
        refine WL.y rfl (Y.assign) ?_
        refine WL.nil ?_
        refine WC.block ?_
        obtain ⟨N, rfl⟩ : ∃ N : Nat, n = N := ⟨n.toNat, by omega⟩
        refine WC.loop (fun j => N - j) (fun j f ds w' => j ≤ N ∧ ds = [] ∧ Below w.heap.size w w' ∧ ∃ ms J, (ms.length : Int) = min (j : Int) left ∧ QW w' (fun b => w.heap.size ≤ b) q (4611686018427387904 - left - 1) ms ∧ f = Go.Cx.ov J [(0, .int .u64 left), (1, .int .i64 N), (5, .int .u64 (4611686018427387904 - left)), (6, .pointer (some ⟨q, 0, none⟩)), (8, .int .i64 (j : Int))]) 0 ?_ ?_
        · exact ⟨by omega, rfl, hb28, [], _, by simp only [List.length_nil]; omega, hq, ov_mk ⟨rfl, rfl, rfl, rfl, rfl, trivial⟩⟩
        · rintro j _ _ wL ⟨hj, rfl, kL, ms, J, hms, hqL, rfl⟩
          have sL := kL.size
          refine WC.seq ?_
          refine WC.seqR rfl ?_
          refine WL.y rfl (Y.move) ?_
          refine WL.y rfl (Y.move) ?_
          refine WL.y rfl (Y.lss rfl rfl) ?_
          refine WL.nil ?_
          refine WC.condD rfl (fun h0 => ?_) (fun h0 => ?_)
          · refine WC.skip (thenQ.normal ?_)
            refine WC.seq ?_
            refine WC.block ?_
            refine WC.seqR rfl ?_
            refine WL.y rfl (Y.move) ?_
            refine WL.call rfl (C.func go11) (del_ret _ [107] (by simp)) ?_
            rintro _ w44 ⟨rfl, hb44⟩
            refine WL.call rfl (C.func go10) (qadd_any (hqL.bel hb44) (by have := hb44.size; omega) (delMt [107]) _ (dc_at (by simp)) (by omega)) ?_
            rintro _ w45 ⟨rfl, h45, hb45⟩
            refine WL.y rfl (Y.move) ?_
            refine WL.y rfl (Y.extract rfl rfl) ?_
            refine WL.y rfl (Y.extract rfl rfl) ?_
            refine WL.y rfl (Y.assign) ?_
            refine WL.y rfl (Y.assign) ?_
            refine WL.nil ?_
            have k45 := (Below.step kL hb44).trans hb45
            have s44 := hb44.size
            by_cases d : (j : Int) < left
            · have hfit : 4611686018427387904 - left - 1 + (ms.length : Int) + 1 ≤ 4611686018427387903 := by omega
              rw [if_pos hfit] at h45
              have e45 : (if 4611686018427387904 - left - 1 + (ms.length : Int) + 1 ≤ 4611686018427387903 then 4611686018427387904 - left - 1 + (ms.length : Int) + 1 else 0) = 4611686018427387904 - left + j := by rw [if_pos hfit]; omega
              have e46 : (if 4611686018427387904 - left - 1 + (ms.length : Int) + 1 ≤ 4611686018427387903 then (0 : Int) else 7) = 0 := if_pos hfit
              refine WC.seqR rfl ?_
              refine WL.y rfl (Y.move) ?_
              refine WL.y rfl (Y.conviR Try.underlying3 Try.underlying33 rfl (by simp only [IntKind.min, IntKind.max, IntKind.signed, IntKind.bits]; omega)) ?_
              refine WL.y rfl (Y.move) ?_
              refine WL.y rfl (Y.dT (Y.lss rfl rfl) (by omega)) ?_
              refine WL.nil ?_
              refine WC.condT (rfl) ?_
              refine WC.seqR rfl ?_
              refine WL.y rfl (Y.move) ?_
              refine WL.y rfl (Y.dF (Y.nei rfl rfl) (fun h => h e46)) ?_
              refine WL.y rfl (Y.move) ?_
              refine WL.y rfl (Y.move) ?_
              refine WL.y rfl (Y.move) ?_
              refine WL.y rfl (Y.move) ?_
              refine WL.y rfl (Y.conviR Try.underlying3 Try.underlying33 rfl (by simp only [IntKind.min, IntKind.max, IntKind.signed, IntKind.bits]; omega)) ?_
              refine WL.y rfl (Y.addU64 rfl rfl (by omega)) ?_
              refine WL.y rfl (Y.dF (Y.nei rfl rfl) (fun h => h e45)) ?_
              refine WL.y rfl (Y.pickF rfl) ?_
              refine WL.nil ?_
              refine WC.condF (rfl) ?_
              refine WC.skip (inBlockQ.normal (thenQ.normal ?_))
              refine WC.region rfl ?_
              refine WL.y rfl (Y.move) ?_
              refine WL.y rfl (Y.add64 rfl rfl (by omega)) ?_
              refine WL.y rfl (Y.assign) ?_
              refine WL.nil (thenQ.normal ?_)
              exact ⟨j + 1, by omega, by omega, rfl, k45, _, _, by rw [List.length_append]; show ((ms.length + 1 : Nat) : Int) = _; omega, h45, ov_mk ⟨rfl, rfl, rfl, rfl, rfl, trivial⟩⟩
            · have hfit : ¬ 4611686018427387904 - left - 1 + (ms.length : Int) + 1 ≤ 4611686018427387903 := by omega
              rw [if_neg hfit] at h45
              have e45 : (if 4611686018427387904 - left - 1 + (ms.length : Int) + 1 ≤ 4611686018427387903 then 4611686018427387904 - left - 1 + (ms.length : Int) + 1 else 0) = 0 := if_neg hfit
              have e46 : (if 4611686018427387904 - left - 1 + (ms.length : Int) + 1 ≤ 4611686018427387903 then (0 : Int) else 7) = 7 := if_neg hfit
              skip
              refine WC.seqR rfl ?_
              refine WL.y rfl (Y.move) ?_
              refine WL.y rfl (Y.conviR Try.underlying3 Try.underlying33 rfl (by simp only [IntKind.min, IntKind.max, IntKind.signed, IntKind.bits]; omega)) ?_
              refine WL.y rfl (Y.move) ?_
              refine WL.y rfl (Y.dF (Y.lss rfl rfl) (by omega)) ?_
              refine WL.nil ?_
              refine WC.condF (rfl) ?_
              refine WC.seqR rfl ?_
              refine WL.y rfl (Y.move) ?_
              refine WL.y rfl (Y.dF (Y.nei rfl rfl) (fun h => h e46)) ?_
              refine WL.y rfl (Y.move) ?_
              refine WL.y rfl (Y.move) ?_
              refine WL.y rfl (Y.dF (Y.nei rfl rfl) (fun h => h e45)) ?_
              refine WL.y rfl (Y.pickF rfl) ?_
              refine WL.nil ?_
              refine WC.condF (rfl) ?_
              refine WC.skip (inBlockQ.normal (thenQ.normal ?_))
              refine WC.region rfl ?_
              refine WL.y rfl (Y.move) ?_
              refine WL.y rfl (Y.add64 rfl rfl (by omega)) ?_
              refine WL.y rfl (Y.assign) ?_
              refine WL.nil (thenQ.normal ?_)
              exact ⟨j + 1, by omega, by omega, rfl, k45, _, _, by omega, h45, ov_mk ⟨rfl, rfl, rfl, rfl, rfl, trivial⟩⟩
          · refine WC.exit (thenQ.exit (thenQ.exit (inBlockQ.hit (thenQ.normal ?_))))
            refine WC.seqR rfl ?_
            refine WL.y rfl (Y.move) ?_
            refine WL.call rfl (C.func go21) (qlen_ret hqL) ?_
            rintro _ _ ⟨rfl, rfl⟩
            refine WL.y rfl (Y.move) ?_
            refine WL.y rfl (Y.move) ?_
            refine WL.y rfl (Y.conviR Try.underlying33 Try.underlying3 rfl (by simp only [IntKind.min, IntKind.max, IntKind.signed, IntKind.bits]; omega)) ?_
            refine WL.y rfl (Y.min2 rfl rfl rfl) ?_
            refine WL.y rfl (Y.dT (Y.eqi rfl rfl) (by omega)) ?_
            refine WL.y rfl (Y.move) ?_
            refine WL.call rfl (C.func go16) (known_ret _) ?_
            rintro _ w76 ⟨rfl, hb76⟩
            refine WL.y rfl (Y.pickT rfl) ?_
            refine WL.y rfl (Y.assign) ?_
            refine WL.nil ?_
            refine WC.ret (endQ.one (.inr rfl) ?_)
            exact ⟨rfl, Below.step kL hb76⟩
end Go.Proofs.Ytcbdpcehacklhaa
