/-
  CrcBursts.
-/
import Derived.Test.YtkopiibdegdfjaaCrc6
import Derived.Test.YtkopiibdegdfjaaCrc7
import Derived.Test.YtkopiibdegdfjaaOpen1
namespace Go.Proofs.Ytkopiibdegdfjaa
open Go Go.RowKit Go.Cx
set_option linter.unusedVariables false
open Crc
theorem agg_cells (mask : List UInt8) : (Value.agg (mask.map u8v).toArray).cells = (mask.map u8v).toArray := by
  simp [Value.cells]
theorem seal4 (l : List UInt8) : 4 ≤ (sealed l).length := by rw [sealed_len]; omega
section
variable {H : Type} {enc : TypeId × Value → H} {W : World} {b0 base : Nat} {spare : Nat → Bool} {held : Bool} {v : Value} {d : DataW H} {p : List MemPlace} {r : Reach}
theorem openT34 (hval : Value.okWide Try.prog W r b0 34 v) (h : DataW.Trod enc Try.prog W base spare held 34 v d p) : ∃ mask : List UInt8, mask.length = 4 ∧ v = .agg (mask.map u8v).toArray :=
  open_barr Try.underlying34 Try.underlying5 (by kernel_rfl) (by kernel_rfl) hval h
end
theorem crcBursts_ret (w : World) (bv : Value) (l : List UInt8) (hs : Bs w bv l) (hl : l.length ≤ 140737488351232) (at' : Int) (hat : (Lit.int .i64 at').wf = true) (mv : Value) (mask : List UInt8) (hmk' : mask.length = 4 ∧ mv = .agg (mask.map u8v).toArray) :
    Ret Try.prog 8 [bv, .int .i64 at', mv].toArray w fun v w' => v = .bool true ∧ Below w.heap.size w w' := by
  obtain ⟨hmk, rfl⟩ := hmk'
  have hmx : maxLen = 9223372036854775807 := rfl
  have hr64 := int_range hat
  have e1 : IntKind.i64.min = -9223372036854775808 := rfl
  have e2 : IntKind.i64.max = 9223372036854775807 := rfl
  rw [e1, e2] at hr64
  have hsl := sealed_len l
  refine Ret.of (n := 69) (rs := #[.tmp 6]) Try.func8 rfl rfl rfl (by simp) ?_
  refine WC.seqR rfl ?_
  refine WL.eex rfl (E.boxX) ?_
  rintro _ w5 ⟨rfl, hB5, hb5⟩
  have k5 := hb5
  refine WL.y rfl (Y.assign) ?_
  refine WL.nil ?_
  refine WC.seqR rfl ?_
  refine WL.y rfl (Y.move) ?_
  refine WL.call rfl (C.func go11) (own_ret bv l _ (hs.bel k5) (by omega)) ?_
  rintro v14 w14 ⟨ho14, hb14⟩
  have k14 := Below.step k5 hb14
  refine WL.call rfl (C.func go16) (seal_ret v14 l _ ho14.bs (by omega)) ?_
  rintro v15 w15 ⟨ho15, hb15⟩
  have k15 := Below.step k14 hb15
  refine WL.y rfl (Y.assign) ?_
  refine WL.nil ?_
  refine WC.seq ?_
  refine WC.seqR rfl ?_
  refine WL.y rfl (Y.move) ?_
  refine WL.y rfl (Y.lenSl Try.underlying22 (ho15.bs) _) ?_
  refine WL.y rfl (Y.move) ?_
  refine WL.y rfl (Y.lenSl Try.underlying22 (hs.bel k15) _) ?_
  refine WL.y rfl (Y.add64 rfl rfl (by omega)) ?_
  refine WL.y rfl (Y.dF (Y.nei rfl rfl) (by omega)) ?_
  refine WL.nil ?_
  refine WC.condF (rfl) ?_
  refine WC.skip (thenQ.normal ?_)
  refine WC.seqR rfl ?_
  refine WL.y rfl (Y.assign) ?_
  refine WL.nil ?_
  refine WC.seq ?_
  refine WC.seqR rfl ?_
  refine WL.y rfl (Y.assign) ?_
  refine WL.nil ?_
  refine WC.block ?_
  have hB : Blk w5 w.heap.size 34 (mask.map u8v) := by have := hB5; exact this.trans (by rfl)
  have hB15 : Blk w15 w.heap.size 34 (mask.map u8v) := (hB.bel hb14).bel hb15
  have hlt5 : w.heap.size < w5.heap.size := hB.lt
  have h14s := hb14.size
  generalize hse : sealed l = s at *
  have hsS : IsSealed s := by rw [← hse]; exact (seal_isSealed l).1
  have hs4 : 4 ≤ s.length := by omega
  obtain ⟨b15, cap15, rfl, hb15l, hb15h⟩ := own_form ho15 (by omega)
  by_cases hat0 : 0 ≤ at'
  · obtain ⟨r, hr, hrs⟩ : ∃ r : Nat, at'.tmod (s.length : Int) = (r : Int) ∧ r < s.length := by
      refine ⟨(at'.toNat % s.length), ?_, Nat.mod_lt _ (by omega)⟩
      rw [Int.tmod_eq_emod_of_nonneg hat0]
      rw [Int.natCast_emod, Int.toNat_of_nonneg hat0]
    refine WC.loop (fun k => 4 - k) (fun k f ds w' => k ≤ 4 ∧ ds = [] ∧ Below w.heap.size w w' ∧ Blk w' w.heap.size 34 (mask.map u8v) ∧ w'.ownsRow w14.heap.size 5 1 (.slice (some ⟨b15, 0, none⟩) s.length cap15) s.length ((cur s r mask k).map u8v) ∧ ∃ J, f = ov J [(1, .int .i64 at'), (5, .pointer (some ⟨w.heap.size, 0, none⟩)), (7, .slice (some ⟨b15, 0, none⟩) s.length cap15), (8, .bool (chg s.length r mask k)), (9, .int .i64 (k : Int))]) 0 ?_ ?_
    · exact ⟨by omega, rfl, k15, hB15, by rw [cur_zero]; exact ho15, _, ov_mk ⟨rfl, rfl, rfl, rfl, rfl, trivial⟩⟩
    · rintro k _ _ w3 ⟨hk, rfl, hb3, hB3, ho3, J, rfl⟩
      have hcl := cur_len s r mask k
      refine WC.seq ?_
      refine WC.seqR rfl ?_
      refine WL.y rfl (Y.move) ?_
      refine WL.y rfl (Y.lss rfl rfl) ?_
      refine WL.nil ?_
      refine WC.condD rfl (fun hlt => ?_) (fun hlt => ?_)
      · have hk4 : k < 4 := by omega
        have hmc : w3.cell? ⟨w.heap.size, k, none⟩ = some (u8v (mask.getD k 0)) := by rw [hB3.cell]; simp [show k < mask.length by omega]
        have hm256 := (mask.getD k 0).toNat_lt
        by_cases hin : r + k < s.length
        · by_cases hmz : mask.getD k 0 ≠ 0
          · have hmz' : (mask.getD k 0).toNat ≠ 0 := fun h => hmz (UInt8.toNat_inj.mp h)
            have hcc : w3.cell? ⟨b15, r + k, none⟩ = some (u8v ((cur s r mask k).getD (r + k) 0)) := (own_cell ho3 (r + k) hin).trans (by simp [show r + k < (cur s r mask k).length by omega])
            refine WC.skip (thenQ.normal ?_)
            refine WC.seq ?_
            refine WC.block ?_
            refine WC.seqR rfl ?_
            refine WL.y rfl (Y.move) ?_
            refine WL.y rfl (Y.move) ?_
            refine WL.y rfl (Y.lenV Try.underlying22 rfl _) ?_
            refine WL.y rfl (Y.remT rfl rfl (by omega)) ?_
            refine WL.y rfl (Y.move) ?_
            refine WL.y rfl (Y.add64 rfl rfl (by omega)) ?_
            refine WL.y rfl (Y.assign) ?_
            refine WL.nil ?_
            refine WC.seqR rfl ?_
            refine WL.y rfl (Y.move) ?_
            refine WL.y rfl (Y.dT (Y.geq rfl rfl) (by omega)) ?_
            refine WL.y rfl (Y.move) ?_
            refine WL.y rfl (Y.move) ?_
            refine WL.y rfl (Y.move) ?_
            refine WL.y rfl (Y.lenV Try.underlying22 rfl _) ?_
            refine WL.y rfl (Y.dT (Y.lss rfl rfl) (by omega)) ?_
            refine WL.y rfl (Y.pickT rfl) ?_
            refine WL.y rfl (Y.move) ?_
            refine WL.y rfl (Y.move) ?_
            refine WL.y rfl (Y.idxArr (j := k) Try.underlying34 ti5 rfl rfl (by omega) (by omega) (by omega)) ?_
            refine WL.y rfl (Y.load1 Try.underlying5 rfl rfl (hmc)) ?_
            refine WL.y rfl (Y.dT (Y.nei rfl rfl) (by omega)) ?_
            refine WL.y rfl (Y.pickT rfl) ?_
            refine WL.nil ?_
            refine WC.condT (rfl) ?_
            refine WC.seq ?_
            refine WC.regionB (fun i => Nat.beq i 11) [(0, .any), (1, .any), (2, .any), (3, .any), (4, .any), (5, .held), (6, .any), (7, .any), (8, .held), (9, .any), (10, .any), (11, .seq)] mixed (by kernel_rfl) (fun wr10 hS10 hheap => ?_)
            have kr10 := Below.step hb3 hS10
            refine RL.any rfl rfl (fun _ => Y.move) ?_
            refine RL.any rfl rfl (fun _ => Y.move) ?_
            refine RL.any rfl rfl (fun _ => Y.move) ?_
            refine RL.any rfl rfl (fun _ => Y.move) ?_
            refine RL.any rfl rfl (fun _ => Y.idxV1 (j := r + k) Try.underlying22 ti5 rfl rfl (by omega) (by omega) _) ?_
            refine RL.held rfl rfl hS10 (fun _ hb9 => Y.load1 Try.underlying5 rfl rfl (cell_bel hcc hb9)) ?_
            refine RL.any rfl rfl (fun _ => Y.move) ?_
            refine RL.any rfl rfl (fun _ => Y.idxArr (j := k) Try.underlying34 ti5 rfl rfl (by omega) (by omega) (by omega)) ?_
            refine RL.held rfl rfl hS10 (fun _ hb9 => Y.load1 Try.underlying5 rfl rfl (cell_bel hmc hb9)) ?_
            refine RL.any rfl rfl (fun _ => Y.xorU8 rfl rfl) ?_
            refine RL.any rfl rfl (fun _ => Y.idxV1 (j := r + k) Try.underlying22 ti5 rfl rfl (by omega) (by omega) _) ?_
            refine RL.eex rfl rfl (E.storeOwn (u := u8v ((cur s r mask k).getD (r + k) 0 ^^^ mask.getD k 0)) ti5 rfl rfl rfl (ownsRow_bel ho3 hS10) (by omega)) ?_ ?_
            · exact fun _ _ _ => .inl rfl
            rintro _ w56 ⟨ho56, hg56⟩
            refine RL.nil (thenQ.normal ?_)
            refine WC.region rfl ?_
            refine WL.y rfl (Y.assign) ?_
            refine WL.nil (inBlockQ.normal (thenQ.normal ?_))
            refine WC.region rfl ?_
            refine WL.y rfl (Y.move) ?_
            refine WL.y rfl (Y.add64 rfl rfl (by omega)) ?_
            refine WL.y rfl (Y.assign) ?_
            refine WL.nil (thenQ.normal ?_)
            rw [← List.map_set, ← cur_on s r mask k ⟨hin, hmz⟩] at ho56
            exact ⟨k + 1, by omega, by omega, rfl, kr10.trans (below_of_grown hg56 kr10.size (fun k e => by cases e; omega)), (hB3.bel hS10).grown hg56 (by omega), ho56, _, ov_mk ⟨rfl, rfl, rfl, congrArg Value.bool (chg_on _ _ _ _ ⟨hin, hmz⟩).symm, rfl, trivial⟩⟩
          · have hmz' : (mask.getD k 0).toNat = 0 := by rw [Decidable.not_not.mp hmz]; rfl
            refine WC.skip (thenQ.normal ?_)
            refine WC.seq ?_
            refine WC.block ?_
            refine WC.seqR rfl ?_
            refine WL.y rfl (Y.move) ?_
            refine WL.y rfl (Y.move) ?_
            refine WL.y rfl (Y.lenV Try.underlying22 rfl _) ?_
            refine WL.y rfl (Y.remT rfl rfl (by omega)) ?_
            refine WL.y rfl (Y.move) ?_
            refine WL.y rfl (Y.add64 rfl rfl (by omega)) ?_
            refine WL.y rfl (Y.assign) ?_
            refine WL.nil ?_
            refine WC.seqR rfl ?_
            refine WL.y rfl (Y.move) ?_
            refine WL.y rfl (Y.dT (Y.geq rfl rfl) (by omega)) ?_
            refine WL.y rfl (Y.move) ?_
            refine WL.y rfl (Y.move) ?_
            refine WL.y rfl (Y.move) ?_
            refine WL.y rfl (Y.lenV Try.underlying22 rfl _) ?_
            refine WL.y rfl (Y.dT (Y.lss rfl rfl) (by omega)) ?_
            refine WL.y rfl (Y.pickT rfl) ?_
            refine WL.y rfl (Y.move) ?_
            refine WL.y rfl (Y.move) ?_
            refine WL.y rfl (Y.idxArr (j := k) Try.underlying34 ti5 rfl rfl (by omega) (by omega) (by omega)) ?_
            refine WL.y rfl (Y.load1 Try.underlying5 rfl rfl (hmc)) ?_
            refine WL.y rfl (Y.dF (Y.nei rfl rfl) (by omega)) ?_
            refine WL.y rfl (Y.pickT rfl) ?_
            refine WL.nil ?_
            refine WC.condF (rfl) ?_
            refine WC.skip (inBlockQ.normal (thenQ.normal ?_))
            refine WC.region rfl ?_
            refine WL.y rfl (Y.move) ?_
            refine WL.y rfl (Y.add64 rfl rfl (by omega)) ?_
            refine WL.y rfl (Y.assign) ?_
            refine WL.nil (thenQ.normal ?_)
            exact ⟨k + 1, by omega, by omega, rfl, hb3, hB3, by rw [cur_off _ _ _ _ (fun h => hmz h.2)]; exact ho3, _, ov_mk ⟨rfl, rfl, rfl, congrArg Value.bool (chg_off _ _ _ _ (fun h => hmz h.2)).symm, rfl, trivial⟩⟩
        · refine WC.skip (thenQ.normal ?_)
          refine WC.seq ?_
          refine WC.block ?_
          refine WC.seqR rfl ?_
          refine WL.y rfl (Y.move) ?_
          refine WL.y rfl (Y.move) ?_
          refine WL.y rfl (Y.lenV Try.underlying22 rfl _) ?_
          refine WL.y rfl (Y.remT rfl rfl (by omega)) ?_
          refine WL.y rfl (Y.move) ?_
          refine WL.y rfl (Y.add64 rfl rfl (by omega)) ?_
          refine WL.y rfl (Y.assign) ?_
          refine WL.nil ?_
          refine WC.seqR rfl ?_
          refine WL.y rfl (Y.move) ?_
          refine WL.y rfl (Y.dT (Y.geq rfl rfl) (by omega)) ?_
          refine WL.y rfl (Y.move) ?_
          refine WL.y rfl (Y.move) ?_
          refine WL.y rfl (Y.move) ?_
          refine WL.y rfl (Y.lenV Try.underlying22 rfl _) ?_
          refine WL.y rfl (Y.dF (Y.lss rfl rfl) (by omega)) ?_
          refine WL.y rfl (Y.pickT rfl) ?_
          refine WL.y rfl (Y.move) ?_
          refine WL.off rfl ?_
          refine WL.off rfl ?_
          refine WL.off rfl ?_
          refine WL.off rfl ?_
          refine WL.y rfl (Y.pickF rfl) ?_
          refine WL.nil ?_
          refine WC.condF (rfl) ?_
          refine WC.skip (inBlockQ.normal (thenQ.normal ?_))
          refine WC.region rfl ?_
          refine WL.y rfl (Y.move) ?_
          refine WL.y rfl (Y.add64 rfl rfl (by omega)) ?_
          refine WL.y rfl (Y.assign) ?_
          refine WL.nil (thenQ.normal ?_)
          exact ⟨k + 1, by omega, by omega, rfl, hb3, hB3, by rw [cur_off _ _ _ _ (fun h => hin h.1)]; exact ho3, _, ov_mk ⟨rfl, rfl, rfl, congrArg Value.bool (chg_off _ _ _ _ (fun h => hin h.1)).symm, rfl, trivial⟩⟩
      · have hk4 : k = 4 := by omega
        subst hk4
        have ho3' : Own w3 w14.heap.size (.slice (some ⟨b15, 0, none⟩) s.length cap15) (cur s r mask 4) := by unfold Own; rw [hcl]; exact ho3
        refine WC.exit (thenQ.exit (thenQ.exit (inBlockQ.hit (thenQ.normal ?_))))
        refine WC.seqR rfl ?_
        refine WL.y rfl (Y.move) ?_
        refine WL.call rfl (C.func go17) (open_ret _ (cur s r mask 4) _ ho3'.bs (by omega)) ?_
        rintro _ w59 ⟨⟨x59, rfl, ho59⟩, hb59⟩
        have k59 := Below.step hb3 hb59
        refine WL.y rfl (Y.move) ?_
        refine WL.y rfl (Y.extract rfl rfl) ?_
        refine WL.y rfl (Y.extract rfl rfl) ?_
        refine WL.y rfl (Y.assign) ?_
        refine WL.y rfl (Y.assign) ?_
        refine WL.nil ?_
        refine WC.seqR rfl ?_
        refine WL.y rfl (Y.move) ?_
        refine WL.y rfl (Y.move) ?_
        refine WL.y rfl (Y.not rfl) ?_
        refine WL.y rfl (Y.bT (Y.eqb Try.underlying4 rfl rfl) ((by rw [bursts s hs4 hsS r (by omega) mask]; exact beq_self_eq_true _))) ?_
        refine WL.y rfl (Y.move) ?_
        refine WL.call rfl (C.func go15) (known_ret _) ?_
        rintro _ w67 ⟨rfl, hb67⟩
        have k67 := Below.step k59 hb67
        refine WL.y rfl (Y.pickT rfl) ?_
        refine WL.y rfl (Y.assign) ?_
        refine WL.nil ?_
        refine WC.ret (endQ.one (.inr rfl) ?_)
        exact ⟨rfl, k67⟩
  · skip
    have hnn : at' < 0 := by omega
    obtain ⟨q, hq, hq1, hq2⟩ : ∃ q : Int, at'.tmod (s.length : Int) = q ∧ -(s.length : Int) < q ∧ q < s.length := by
      refine ⟨_, rfl, ?_, ?_⟩
      · have := Int.tmod_lt_of_pos (-at') (b := (s.length : Int)) (by omega)
        rw [Int.neg_tmod] at this
        omega
      · exact Int.tmod_lt_of_pos _ (by omega)
    refine WC.loop (fun k => 4 - k) (fun k f ds w' => k ≤ 4 ∧ ds = [] ∧ w15 = w' ∧ ∃ J, f = ov J [(1, .int .i64 at'), (5, .pointer (some ⟨w.heap.size, 0, none⟩)), (7, .slice (some ⟨b15, 0, none⟩) s.length cap15), (8, .bool false), (9, .int .i64 (k : Int))]) 0 ?_ ?_
    · exact ⟨by omega, rfl, rfl, _, ov_mk ⟨rfl, rfl, rfl, rfl, rfl, trivial⟩⟩
    · rintro k _ _ _ ⟨hk, rfl, rfl, J, rfl⟩
      refine WC.seq ?_
      refine WC.seqR rfl ?_
      refine WL.y rfl (Y.move) ?_
      refine WL.y rfl (Y.lss rfl rfl) ?_
      refine WL.nil ?_
      refine WC.condD rfl (fun hlt => ?_) (fun hlt => ?_)
      · refine WC.skip (thenQ.normal ?_)
        refine WC.seq ?_
        refine WC.block ?_
        refine WC.seqR rfl ?_
        refine WL.y rfl (Y.move) ?_
        refine WL.y rfl (Y.move) ?_
        refine WL.y rfl (Y.lenV Try.underlying22 rfl _) ?_
        refine WL.y rfl (Y.remT rfl rfl (by omega)) ?_
        refine WL.y rfl (Y.move) ?_
        refine WL.y rfl (Y.add64 rfl rfl (by rw [hq]; omega)) ?_
        refine WL.y rfl (Y.assign) ?_
        refine WL.nil ?_
        refine WC.seqR rfl ?_
        refine WL.y rfl (Y.move) ?_
        refine WL.y rfl (Y.dF (Y.geq rfl rfl) (by omega)) ?_
        refine WL.y rfl (Y.move) ?_
        refine WL.off rfl ?_
        refine WL.off rfl ?_
        refine WL.off rfl ?_
        refine WL.off rfl ?_
        refine WL.y rfl (Y.pickF rfl) ?_
        refine WL.y rfl (Y.move) ?_
        refine WL.off rfl ?_
        refine WL.off rfl ?_
        refine WL.off rfl ?_
        refine WL.off rfl ?_
        refine WL.y rfl (Y.pickF rfl) ?_
        refine WL.nil ?_
        refine WC.condF (rfl) ?_
        refine WC.skip (inBlockQ.normal (thenQ.normal ?_))
        refine WC.region rfl ?_
        refine WL.y rfl (Y.move) ?_
        refine WL.y rfl (Y.add64 rfl rfl (by omega)) ?_
        refine WL.y rfl (Y.assign) ?_
        refine WL.nil (thenQ.normal ?_)
        exact ⟨k + 1, by omega, by omega, rfl, rfl, _, ov_mk ⟨rfl, rfl, rfl, rfl, rfl, trivial⟩⟩
      · refine WC.exit (thenQ.exit (thenQ.exit (inBlockQ.hit (thenQ.normal ?_))))
        refine WC.seqR rfl ?_
        refine WL.y rfl (Y.move) ?_
        refine WL.call rfl (C.func go17) (open_ret _ s _ ho15.bs (by omega)) ?_
        rintro _ w59 ⟨⟨x59, rfl, ho59⟩, hb59⟩
        have k59 := Below.step k15 hb59
        refine WL.y rfl (Y.move) ?_
        refine WL.y rfl (Y.extract rfl rfl) ?_
        refine WL.y rfl (Y.extract rfl rfl) ?_
        refine WL.y rfl (Y.assign) ?_
        refine WL.y rfl (Y.assign) ?_
        refine WL.nil ?_
        refine WC.seqR rfl ?_
        refine WL.y rfl (Y.move) ?_
        refine WL.y rfl (Y.move) ?_
        refine WL.y rfl (Y.not rfl) ?_
        refine WL.y rfl (Y.bT (Y.eqb Try.underlying4 rfl rfl) ((by rw [decide_eq_true hsS]; rfl))) ?_
        refine WL.y rfl (Y.move) ?_
        refine WL.call rfl (C.func go15) (known_ret _) ?_
        rintro _ w67 ⟨rfl, hb67⟩
        have k67 := Below.step k59 hb67
        refine WL.y rfl (Y.pickT rfl) ?_
        refine WL.y rfl (Y.assign) ?_
        refine WL.nil ?_
        refine WC.ret (endQ.one (.inr rfl) ?_)
        exact ⟨rfl, k67⟩
end Go.Proofs.Ytkopiibdegdfjaa
