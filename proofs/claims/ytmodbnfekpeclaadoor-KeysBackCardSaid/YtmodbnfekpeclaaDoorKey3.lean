/-
  keys: ends.
-/
import Derived.Test.YtmodbnfekpeclaaDoorKey2
import Derived.Test.YtmodbnfekpeclaaDoorBase13
namespace Go.Proofs.YtmodbnfekpeclaaDoor
open Go Go.RowKit Go.Cx
set_option linter.unusedVariables false
/-- how much of the first n bytes is left when all 255 at their end are struck -/
def endN (p : List UInt8) : Nat → Nat
  | 0 => 0
  | n + 1 => if p.getD n 0 = 255 then endN p n else n + 1
theorem endN_le (p : List UInt8) : ∀ n, endN p n ≤ n
  | 0 => Nat.le_refl _
  | n + 1 => by unfold endN; split; exact Nat.le_succ_of_le (endN_le p n); exact Nat.le_refl _
def endL (p : List UInt8) : List UInt8 := if endN p p.length = 0 then [] else p.take (endN p p.length - 1) ++ [p.getD (endN p p.length - 1) 0 + 1]
def endB (p : List UInt8) : Bool := !decide (endN p p.length = 0)
theorem end_none (p : List UInt8) (h : endN p p.length = 0) : Value.tuple #[strv [], .bool false] = .tuple #[strv (endL p), .bool (endB p)] := by
  unfold endL endB
  rw [if_pos h, decide_eq_true h]; rfl
theorem end_some (p : List UInt8) (n : Nat) (h : endN p p.length = n) (h0 : n ≠ 0) : Value.tuple #[strv (p.take (n - 1) ++ [p.getD (n - 1) 0 + 1]), .bool true] = .tuple #[strv (endL p), .bool (endB p)] := by
  subst h
  unfold endL endB
  rw [if_neg h0, decide_eq_false h0]; rfl
theorem take_set_last (p : List UInt8) (n : Nat) (h0 : 0 < n) (hn : n ≤ p.length) (c : UInt8) : ((p.take n).map u8v).set (n - 1) (u8v c) = (p.take (n - 1) ++ [c]).map u8v := by
  rw [← List.map_set]
  congr 1
  rw [List.set_eq_take_append_cons_drop, if_pos (by rw [List.length_take]; omega), List.take_take, Nat.min_eq_left (by omega), List.drop_of_length_le (by rw [List.length_take]; omega)]
theorem end_ret (w : World) (p : List UInt8) (hp : p.length ≤ 1152921504606846976) :
    Ret Tryd.prog 13 [strv p].toArray w fun v w' => v = .tuple #[strv (endL p), .bool (endB p)] ∧ Below w.heap.size w w' := by
  refine Ret.of (n := 32) (rs := #[.tmp 2, .tmp 3]) Tryd.func13 rfl rfl rfl (by simp) ?_
  refine WC.seqR rfl ?_
  refine WL.y rfl (Y.assign) ?_
  refine WL.y rfl (Y.assign) ?_
  refine WL.nil ?_
  refine WC.scope ?_
  refine WC.seqR rfl ?_
  refine WL.y rfl (Y.move) ?_
  refine WL.y rfl (Y.lenS Tryd.underlying9 rfl _) ?_
  refine WL.y rfl (Y.sub64 rfl rfl (by omega)) ?_
  refine WL.y rfl (Y.assign) ?_
  refine WL.nil ?_
  refine WC.seq ?_
  refine WC.label (thenQ.normal ?_)
  refine WC.seq ?_
  refine WC.block ?_
  refine WC.loop (fun n => n) (fun n f ds w' => n ≤ p.length ∧ ds = [] ∧ w = w' ∧ endN p p.length = endN p n ∧ ∃ J, f = ov J [(0, strv p), (4, .int .i64 ((n : Int) - 1))]) p.length ?_ ?_
  · exact ⟨by omega, rfl, rfl, rfl, _, ov_mk ⟨rfl, rfl, trivial⟩⟩
  · rintro n _ _ _ ⟨hn, rfl, rfl, hv, J, rfl⟩
    refine WC.seq ?_
    refine WC.seqR rfl ?_
    refine WL.y rfl (Y.move) ?_
    refine WL.y rfl (Y.geq rfl rfl) ?_
    refine WL.nil ?_
    refine WC.condD rfl (fun h0 => ?_) (fun h0 => ?_)
    · obtain ⟨m, rfl⟩ : ∃ m, n = m + 1 := ⟨n - 1, by omega⟩
      have hml : (p.take (m + 1)).length = m + 1 := by rw [List.length_take]; omega
      have hg : (p.take (m + 1)).getD m 0 = p.getD m 0 := by
        rw [List.getD_eq_getElem?_getD, List.getD_eq_getElem?_getD, List.getElem?_take, if_pos (by omega)]
      refine WC.skip (thenQ.normal ?_)
      refine WC.seq ?_
      refine WC.block ?_
      refine WC.seqR rfl ?_
      refine WL.y rfl (Y.move) ?_
      refine WL.y rfl (Y.move) ?_
      refine WL.y rfl (Y.idxN (m) Tryd.underlying9 rfl rfl (by omega) (by omega) _) ?_
      refine WL.y rfl (Y.nei rfl rfl) ?_
      refine WL.nil ?_
      refine WC.condD rfl (fun h1 => ?_) (fun h1 => ?_)
      · have hne : p.getD m 0 ≠ 255 := fun e => h1 (by rw [e]; rfl)
        have hv2 : endN p p.length = m + 1 := by rw [hv]; unfold endN; rw [if_neg hne]
        refine WC.exit (inBlockQ.miss rfl (thenQ.exit (thenQ.exit (inBlockQ.hit (thenQ.normal ?_)))))
        refine WC.seq ?_
        refine WC.seqR rfl ?_
        refine WL.y rfl (Y.move) ?_
        refine WL.y rfl (Y.dF (Y.lss rfl rfl) (by omega)) ?_
        refine WL.nil ?_
        refine WC.condF (rfl) ?_
        refine WC.skip (thenQ.normal ?_)
        refine WC.seqR rfl ?_
        refine WL.y rfl (Y.move) ?_
        refine WL.y rfl (Y.move) ?_
        refine WL.y rfl (Y.add64 rfl rfl (by omega)) ?_
        refine WL.y rfl (Y.sliceToN (m+1) Tryd.underlying9 rfl rfl (by omega) (by omega) _) ?_
        refine WL.eex rfl (E.s2b Tryd.underlying9 Tryd.underlying41 Tryd.underlying5 rfl (by unfold maxLen; omega)) ?_
        rintro _ w23 ⟨cap, rfl, hc1, hc2, hF, hb23⟩
        have k23 := hb23
        have hcell : w23.cell? ⟨w.heap.size, m, none⟩ = some (u8v (p.getD m 0)) := by have := hF.cells m (u8v (p.getD m 0)) (by rw [List.getElem?_map, List.getElem?_take, if_pos (by omega)]; simp [show m < p.length by omega]); rwa [Nat.zero_add] at this
        refine WL.y rfl (Y.assign) ?_
        refine WL.nil ?_
        refine WC.seqR rfl ?_
        refine WL.y rfl (Y.move) ?_
        refine WL.y rfl (Y.move) ?_
        refine WL.y rfl (Y.idxV1 Tryd.underlying41 ti5 rfl rfl (j := m) (by omega) (by omega) _) ?_
        refine WL.y rfl (Y.load1 Tryd.underlying5 rfl rfl (hcell)) ?_
        refine WL.y rfl (Y.addU8 (a := p.getD m 0) (b := 1) rfl rfl) ?_
        refine WL.y rfl (Y.idxV1 Tryd.underlying41 ti5 rfl rfl (j := m) (by omega) (by omega) _) ?_
        refine WL.eex rfl (E.storeFB (u := u8v (p.getD m 0 + 1)) ti5 rfl rfl rfl hF (by rw [List.length_map]; omega)) ?_
        rintro _ w8 ⟨hF8, hg8⟩
        have hF9 : FB w8 w.heap.size 5 ((p.take m ++ [p.getD m 0 + 1]).map u8v) := by have := take_set_last p (m + 1) (by omega) (by omega) (p.getD m 0 + 1); rw [Nat.add_sub_cancel] at this; rw [← this]; exact hF8
        have hl9 : (p.take m ++ [p.getD m 0 + 1]).length = (p.take (m + 1)).length := by rw [List.length_append, List.length_take, hml]; simp only [List.length_cons, List.length_nil]; omega
        have hb8 : Below w.heap.size w w8 := hb23.trans (below_of_grown hg8 hb23.size (fun k e => by cases e; omega))
        refine WL.nil ?_
        refine WC.seqR rfl ?_
        refine WL.y rfl (Y.move) ?_
        refine WL.y rfl (Y.b2s (l := p.take m ++ [p.getD m 0 + 1]) Tryd.underlying41 Tryd.underlying5 Tryd.underlying9 (by rw [hl9]; exact hF9.sl (by rw [List.length_map, hl9]) hc1 hc2)) ?_
        refine WL.y rfl (Y.assign) ?_
        refine WL.y rfl (Y.assign) ?_
        refine WL.nil ?_
        refine WC.ret (noJump.ret (endQ.two (.inr rfl) ?_))
        have e := end_some p (m + 1) hv2 (by omega)
        rw [Nat.add_sub_cancel] at e
        exact ⟨e, hb8⟩
      · have h3 : p.getD m 0 = 255 := UInt8.toNat_inj.mp (by have := Decidable.not_not.mp h1; exact Int.ofNat.inj this)
        have hv2 : endN p p.length = endN p m := by rw [hv, endN, if_pos h3]
        refine WC.skip (inBlockQ.normal (thenQ.normal ?_))
        refine WC.region rfl ?_
        refine WL.y rfl (Y.move) ?_
        refine WL.y rfl (Y.sub64 rfl rfl (by omega)) ?_
        refine WL.y rfl (Y.assign) ?_
        refine WL.nil (thenQ.normal ?_)
        refine ⟨m, by omega, by omega, rfl, rfl, hv2, _, ov_mk ⟨rfl, congrArg (Value.int .i64) (by omega), trivial⟩⟩
    · have hn0 : n = 0 := by omega
      subst hn0
      refine WC.exit (thenQ.exit (thenQ.exit (inBlockQ.hit (thenQ.normal ?_))))
      refine WC.seq ?_
      refine WC.seqR rfl ?_
      refine WL.y rfl (Y.move) ?_
      refine WL.y rfl (Y.dT (Y.lss rfl rfl) (by omega)) ?_
      refine WL.nil ?_
      refine WC.condT (rfl) ?_
      refine WC.seqR rfl ?_
      refine WL.y rfl (Y.assign) ?_
      refine WL.y rfl (Y.assign) ?_
      refine WL.nil ?_
      refine WC.ret (thenQ.ret (noJump.ret (endQ.two (.inr rfl) ?_)))
      exact ⟨end_none p hv, Below.refl _ _⟩
theorem rend_ret (w : World) (p : List UInt8) (hp : p.length ≤ 1152921504606846976) :
    Ret Tryd.prog 14 [strv p].toArray w fun v w' => v = .tuple #[strv (endL p), .bool (endB p)] ∧ Below w.heap.size w w' := by
  refine Ret.of (n := 32) (rs := #[.tmp 2, .tmp 3]) Tryd.func14 rfl rfl rfl (by simp) ?_
  refine WC.seqR rfl ?_
  refine WL.y rfl (Y.assign) ?_
  refine WL.y rfl (Y.assign) ?_
  refine WL.nil ?_
  refine WC.seqR rfl ?_
  refine WL.y rfl (Y.move) ?_
  refine WL.y rfl (Y.lenS Tryd.underlying9 rfl _) ?_
  refine WL.y rfl (Y.assign) ?_
  refine WL.nil ?_
  refine WC.seq ?_
  refine WC.block ?_
  refine WC.loop (fun n => n) (fun n f ds w' => n ≤ p.length ∧ ds = [] ∧ w = w' ∧ endN p p.length = endN p n ∧ ∃ J, f = ov J [(0, strv p), (4, .int .i64 (n : Int))]) p.length ?_ ?_
  · exact ⟨by omega, rfl, rfl, rfl, _, ov_mk ⟨rfl, rfl, trivial⟩⟩
  · rintro n _ _ _ ⟨hn, rfl, rfl, hv, J, rfl⟩
    rcases Nat.eq_zero_or_pos n with hn0 | hn0
    · subst hn0
      refine WC.seq ?_
      refine WC.seqR rfl ?_
      refine WL.y rfl (Y.move) ?_
      refine WL.y rfl (Y.dF (Y.gtr rfl rfl) (by omega)) ?_
      refine WL.y rfl (Y.move) ?_
      refine WL.off rfl ?_
      refine WL.off rfl ?_
      refine WL.off rfl ?_
      refine WL.off rfl ?_
      refine WL.off rfl ?_
      refine WL.y rfl (Y.pickF rfl) ?_
      refine WL.nil ?_
      refine WC.condF (rfl) ?_
      refine WC.exit (thenQ.exit (thenQ.exit (inBlockQ.hit (thenQ.normal ?_))))
      refine WC.seq ?_
      refine WC.seqR rfl ?_
      refine WL.y rfl (Y.move) ?_
      refine WL.y rfl (Y.dT (Y.eqi rfl rfl) (by omega)) ?_
      refine WL.nil ?_
      refine WC.condT (rfl) ?_
      refine WC.seqR rfl ?_
      refine WL.y rfl (Y.assign) ?_
      refine WL.y rfl (Y.assign) ?_
      refine WL.nil ?_
      refine WC.ret (thenQ.ret (endQ.two (.inr rfl) ?_))
      exact ⟨end_none p hv, Below.refl _ _⟩
    · obtain ⟨m, rfl⟩ : ∃ m, n = m + 1 := ⟨n - 1, by omega⟩
      by_cases h3 : p.getD m 0 = 255
      · have hv2 : endN p p.length = endN p m := by rw [hv, endN, if_pos h3]
        refine WC.seq ?_
        refine WC.seqR rfl ?_
        refine WL.y rfl (Y.move) ?_
        refine WL.y rfl (Y.dT (Y.gtr rfl rfl) (by omega)) ?_
        refine WL.y rfl (Y.move) ?_
        refine WL.y rfl (Y.move) ?_
        refine WL.y rfl (Y.move) ?_
        refine WL.y rfl (Y.sub64 rfl rfl (by omega)) ?_
        refine WL.y rfl (Y.idxN (m) Tryd.underlying9 rfl rfl (by omega) (by omega) _) ?_
        refine WL.y rfl (Y.dT (Y.eqi rfl rfl) (by rw [h3]; rfl)) ?_
        refine WL.y rfl (Y.pickT rfl) ?_
        refine WL.nil ?_
        refine WC.condT (rfl) ?_
        refine WC.skip (thenQ.normal ?_)
        refine WC.block ?_
        refine WC.region rfl ?_
        refine WL.y rfl (Y.move) ?_
        refine WL.y rfl (Y.sub64 rfl rfl (by omega)) ?_
        refine WL.y rfl (Y.assign) ?_
        refine WL.nil (inBlockQ.normal (thenQ.normal ?_))
        exact ⟨m, by omega, by omega, rfl, rfl, hv2, _, ov_mk ⟨rfl, congrArg (Value.int .i64) (by omega), trivial⟩⟩
      · have hv2 : endN p p.length = m + 1 := by rw [hv]; unfold endN; rw [if_neg h3]
        have h4 : ¬ ((p.getD m 0).toNat : Int) = 255 := fun e => h3 (UInt8.toNat_inj.mp (Int.ofNat.inj e))
        have h5 : (p.take m).length ≤ m := by rw [List.length_take]; omega
        refine WC.seq ?_
        refine WC.seqR rfl ?_
        refine WL.y rfl (Y.move) ?_
        refine WL.y rfl (Y.dT (Y.gtr rfl rfl) (by omega)) ?_
        refine WL.y rfl (Y.move) ?_
        refine WL.y rfl (Y.move) ?_
        refine WL.y rfl (Y.move) ?_
        refine WL.y rfl (Y.sub64 rfl rfl (by omega)) ?_
        refine WL.y rfl (Y.idxN (m) Tryd.underlying9 rfl rfl (by omega) (by omega) _) ?_
        refine WL.y rfl (Y.dF (Y.eqi rfl rfl) (h4)) ?_
        refine WL.y rfl (Y.pickT rfl) ?_
        refine WL.nil ?_
        refine WC.condF (rfl) ?_
        refine WC.exit (thenQ.exit (thenQ.exit (inBlockQ.hit (thenQ.normal ?_))))
        refine WC.seq ?_
        refine WC.seqR rfl ?_
        refine WL.y rfl (Y.move) ?_
        refine WL.y rfl (Y.dF (Y.eqi rfl rfl) (by omega)) ?_
        refine WL.nil ?_
        refine WC.condF (rfl) ?_
        refine WC.skip (thenQ.normal ?_)
        refine WC.seq ?_
        refine WC.regionB (fun i => Nat.beq i 9 || Nat.beq i 10) [(0, .any), (1, .any), (2, .any), (3, .any), (4, .any), (5, .any), (6, .any), (7, .any), (8, .any), (9, .seq), (10, .seq), (11, .any), (12, .any), (13, .any)] mixed (by kernel_rfl) (fun wr6 hS6 hheap => ?_)
        have kr6 := hS6
        refine RL.any rfl rfl (fun _ => Y.move) ?_
        refine RL.any rfl rfl (fun _ => Y.move) ?_
        refine RL.any rfl rfl (fun _ => Y.sub64 rfl rfl (by omega)) ?_
        refine RL.any rfl rfl (fun _ => Y.sliceToN (m) Tryd.underlying9 rfl rfl (by omega) (by omega) _) ?_
        refine RL.any rfl rfl (fun _ => Y.move) ?_
        refine RL.any rfl rfl (fun _ => Y.move) ?_
        refine RL.any rfl rfl (fun _ => Y.sub64 rfl rfl (by omega)) ?_
        refine RL.any rfl rfl (fun _ => Y.idxN (m) Tryd.underlying9 rfl rfl (by omega) (by omega) _) ?_
        refine RL.any rfl rfl (fun _ => Y.addU8 (a := p.getD m 0) (b := 1) rfl rfl) ?_
        refine RL.eex rfl rfl (E.build1 Tryd.underlying41 ti5 rfl rfl rfl) ?_ ?_
        · exact fun _ _ _ => .inl rfl
        rintro v29 w29 ⟨hs29, hb29, _⟩
        have k29 := Below.step kr6 hb29
        refine RL.y rfl rfl (Y.b2s (l := [p.getD m 0 + 1]) Tryd.underlying41 Tryd.underlying5 Tryd.underlying9 (show SlK w29 1 v29 1 [u8v (p.getD m 0 + 1)] from hs29)) ?_
        refine RL.any rfl rfl (fun _ => Y.catS rfl rfl (by simp only [List.length_cons, List.length_nil]; omega)) ?_
        refine RL.any rfl rfl (fun _ => Y.assign) ?_
        refine RL.any rfl rfl (fun _ => Y.assign) ?_
        refine RL.nil (thenQ.normal ?_)
        refine WC.ret (endQ.two (.inr rfl) ?_)
        have e := end_some p (m + 1) hv2 (by omega)
        rw [Nat.add_sub_cancel] at e
        exact ⟨e, k29⟩
end Go.Proofs.YtmodbnfekpeclaaDoor
