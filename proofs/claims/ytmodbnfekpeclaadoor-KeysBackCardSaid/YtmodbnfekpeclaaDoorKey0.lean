/-
  keys: what may be a key; texts and their beginnings, ends.
-/
import Derived.Test.YtmodbnfekpeclaaDoorUtf1
import Derived.Test.YtmodbnfekpeclaaDoorShelf
import Derived.Test.YtmodbnfekpeclaaDoorBase9
import Derived.Shelf.Unicode.ValidAny
namespace Go.Proofs.YtmodbnfekpeclaaDoor
open Go Go.RowKit Go.Cx
set_option linter.unusedVariables false
/-- unicode/utf8's tables hold what they are laid to hold -/
def Tabs (w : World) : Prop := Go.Lib.Utf8Tabs (Tryd.laysValid_ren.g 3) (Tryd.laysValid_ren.g 4) w
theorem Tabs.bel {w w' : World} (h : Tabs w) (hb : Below w.heap.size w w') : Tabs w' := Utf8Tabs_below h hb
theorem validString_ret (w : World) (s : List UInt8) (hs : s.length ≤ 2305843009213693952) (hT : Tabs w) :
    Ret Tryd.prog 32 [strv s].toArray w fun v w' => v = .bool (Lib.validD s) ∧ Below w.heap.size w w' := by
  refine Calls.mono (Any.utf8_ValidString Tryd.laysValid ⟨s.toArray⟩ w (by rw [ba_size]; omega) hT) ?_
  rintro e w' ⟨rfl, hb⟩
  exact ⟨_, rfl, by simp, hb⟩
/-- why a text may not be a key (0: it may) -/
def mayS (k : List UInt8) : Int := if k = [] then 8 else if 64 < k.length then 6 else if Lib.validD k then 0 else 3
def beg (k p : List UInt8) : Prop := p.length ≤ k.length ∧ k.take p.length = p
instance (k p : List UInt8) : Decidable (beg k p) := inferInstanceAs (Decidable (_ ∧ _))
def turnS (k a b : List UInt8) : List UInt8 × Int := if beg k a then (if mayS (b ++ k.drop a.length) = 0 then (b ++ k.drop a.length, 0) else ([], mayS (b ++ k.drop a.length))) else ([], 12)
theorem rmay_ret (w : World) (k : List UInt8) (hs : k.length ≤ 1152921504606846976) :
    Ret Tryd.prog 11 [strv k].toArray w fun v w' => v = .int .i64 (mayS k) ∧ w = w' := by
  refine Ret.of (n := 12) (rs := #[.tmp 2]) Tryd.func11 rfl rfl rfl (by simp) ?_
  refine WC.seqR rfl ?_
  refine WL.y rfl (Y.assign) ?_
  refine WL.nil ?_
  refine WC.seq ?_
  refine WC.seqR rfl ?_
  refine WL.y rfl (Y.move) ?_
  refine WL.y rfl (Y.lenS Tryd.underlying9 rfl _) ?_
  refine WL.y rfl (Y.eqi rfl rfl) ?_
  refine WL.nil ?_
  refine WC.condD rfl (fun h0 => ?_) (fun h0 => ?_)
  · have e : mayS k = 8 := by unfold mayS; rw [if_pos (List.length_eq_zero_iff.mp (by omega))]
    refine WC.seqR rfl ?_
    refine WL.y rfl (Y.assign) ?_
    refine WL.nil ?_
    refine WC.ret (thenQ.ret (endQ.one (.inr rfl) ?_))
    exact ⟨congrArg (Value.int .i64) e.symm, rfl⟩
  · have hne : k ≠ [] := fun e => h0 (by rw [e]; rfl)
    refine WC.skip (thenQ.normal ?_)
    refine WC.seq ?_
    refine WC.seqR rfl ?_
    refine WL.y rfl (Y.move) ?_
    refine WL.y rfl (Y.lenS Tryd.underlying9 rfl _) ?_
    refine WL.y rfl (Y.gtr rfl rfl) ?_
    refine WL.nil ?_
    refine WC.condD rfl (fun h1 => ?_) (fun h1 => ?_)
    · have e : mayS k = 6 := by unfold mayS; rw [if_neg hne, if_pos (by omega)]
      refine WC.seqR rfl ?_
      refine WL.y rfl (Y.assign) ?_
      refine WL.nil ?_
      refine WC.ret (thenQ.ret (endQ.one (.inr rfl) ?_))
      exact ⟨congrArg (Value.int .i64) e.symm, rfl⟩
    · refine WC.skip (thenQ.normal ?_)
      refine WC.seq ?_
      refine WC.seqR rfl ?_
      refine WL.y rfl (Y.move) ?_
      refine WL.call rfl (C.func go21) (valid_ret _ k (by omega)) ?_
      rintro _ _ ⟨rfl, rfl⟩
      refine WL.y rfl (Y.not rfl) ?_
      refine WL.nil ?_
      refine WC.cond rfl (fun h2 => ?_) (fun h2 => ?_)
      · have e : mayS k = 3 := by unfold mayS; rw [if_neg hne, if_neg (by omega), if_neg (by simpa using h2)]
        refine WC.seqR rfl ?_
        refine WL.y rfl (Y.assign) ?_
        refine WL.nil ?_
        refine WC.ret (thenQ.ret (endQ.one (.inr rfl) ?_))
        exact ⟨congrArg (Value.int .i64) e.symm, rfl⟩
      · have e : mayS k = 0 := by unfold mayS; rw [if_neg hne, if_neg (by omega), if_pos (by simpa using h2)]
        refine WC.skip (thenQ.normal ?_)
        refine WC.seqR rfl ?_
        refine WL.y rfl (Y.assign) ?_
        refine WL.nil ?_
        refine WC.ret (endQ.one (.inr rfl) ?_)
        exact ⟨congrArg (Value.int .i64) e.symm, rfl⟩
theorem uvalid_ret (w : World) (s : List UInt8) (hs : s.length ≤ 2305843009213693952) (hT : Tabs w) :
    Ret Tryd.prog 28 [strv s].toArray w fun v w' => v = .bool (Lib.validD s) ∧ Below w.heap.size w w' := by
  refine Ret.of (n := 5) (rs := #[.tmp 2]) Tryd.func28 rfl rfl rfl (by simp) ?_
  refine WC.seqR rfl ?_
  refine WL.y rfl (Y.assign) ?_
  refine WL.nil ?_
  refine WC.seqR rfl ?_
  refine WL.y rfl (Y.move) ?_
  refine WL.call rfl (C.func go32) (validString_ret _ s hs hT) ?_
  rintro _ w4 ⟨rfl, hb4⟩
  refine WL.y rfl (Y.assign) ?_
  refine WL.nil ?_
  refine WC.ret (endQ.one (.inr rfl) ?_)
  exact ⟨rfl, hb4⟩
theorem reason1_ret (w : World) (b : Nat) (k : List UInt8) (hB : Blk w b 9 [strv k]) :
    Ret Tryd.prog 25 [.pointer (some ⟨b, 0, none⟩)].toArray w fun v w' => v = .bool (decide (k = [])) ∧ w = w' := by
  refine Ret.of (n := 4) (rs := #[.tmp 1]) Tryd.func25 rfl rfl rfl (by simp) ?_
  refine WC.seqR rfl ?_
  refine WL.y rfl (Y.assign) ?_
  refine WL.nil ?_
  refine WC.seqR rfl ?_
  refine WL.y rfl (Y.load1 Tryd.underlying9 rfl rfl (hB.one)) ?_
  refine WL.y rfl (Y.eqS (b := []) rfl rfl) ?_
  refine WL.y rfl (Y.assign) ?_
  refine WL.nil ?_
  refine WC.ret (endQ.one (.inr rfl) ?_)
  exact ⟨rfl, rfl⟩
theorem reason2_ret (w : World) (b : Nat) (k : List UInt8) (hB : Blk w b 9 [strv k]) :
    Ret Tryd.prog 26 [.pointer (some ⟨b, 0, none⟩)].toArray w fun v w' => v = .bool (decide ((64 : Int) < k.length)) ∧ w = w' := by
  refine Ret.of (n := 5) (rs := #[.tmp 1]) Tryd.func26 rfl rfl rfl (by simp) ?_
  refine WC.seqR rfl ?_
  refine WL.y rfl (Y.assign) ?_
  refine WL.nil ?_
  refine WC.seqR rfl ?_
  refine WL.y rfl (Y.load1 Tryd.underlying9 rfl rfl (hB.one)) ?_
  refine WL.y rfl (Y.lenS Tryd.underlying9 rfl _) ?_
  refine WL.y rfl (Y.gtr rfl rfl) ?_
  refine WL.y rfl (Y.assign) ?_
  refine WL.nil ?_
  refine WC.ret (endQ.one (.inr rfl) ?_)
  exact ⟨rfl, rfl⟩
theorem reason3_ret (w : World) (b : Nat) (k : List UInt8) (hB : Blk w b 9 [strv k]) (hs : k.length ≤ 1152921504606846976) (hT : Tabs w) :
    Ret Tryd.prog 27 [.pointer (some ⟨b, 0, none⟩)].toArray w fun v w' => v = .bool (!Lib.validD k) ∧ Below w.heap.size w w' := by
  refine Ret.of (n := 5) (rs := #[.tmp 1]) Tryd.func27 rfl rfl rfl (by simp) ?_
  refine WC.seqR rfl ?_
  refine WL.y rfl (Y.assign) ?_
  refine WL.nil ?_
  refine WC.seqR rfl ?_
  refine WL.y rfl (Y.load1 Tryd.underlying9 rfl rfl (hB.one)) ?_
  refine WL.call rfl (C.func go28) (uvalid_ret _ k (by omega) hT) ?_
  rintro _ w3 ⟨rfl, hb3⟩
  refine WL.y rfl (Y.not rfl) ?_
  refine WL.y rfl (Y.assign) ?_
  refine WL.nil ?_
  refine WC.ret (endQ.one (.inr rfl) ?_)
  exact ⟨rfl, hb3⟩
/-- the reasons: a code, and who tells -/
def rsL : List (Int × Nat) := [(8, 25), (6, 26), (3, 27)]
def encR (b : Nat) (p : Int × Nat) : List Value := [.int .i64 p.1, .func (.func p.2) #[] #[.pointer (some ⟨b, 0, none⟩)]]
theorem reasons_ret (w : World) (k : List UInt8) :
    Ret Tryd.prog 20 [strv k].toArray w fun v w' => (∃ b, SlK w' 2 v rsL.length (rsL.flatMap (encR b)) ∧ Blk w' b 9 [strv k]) ∧ Below w.heap.size w w' := by
  refine Ret.of (n := 10) (rs := #[.tmp 2]) Tryd.func20 rfl rfl rfl (by simp) ?_
  refine WC.seqR rfl ?_
  refine WL.eex rfl (E.boxX) ?_
  rintro _ w1 ⟨rfl, hB1, hb1⟩
  have k1 := hb1
  refine WL.y rfl (Y.assign) ?_
  refine WL.nil ?_
  refine WC.seqR rfl ?_
  refine WL.y rfl (Y.makeFunc) ?_
  refine WL.y rfl (Y.build (cells := #[.int .i64 8, .func (.func 25) #[] #[.pointer (some ⟨w.heap.size, 0, none⟩)]]) (by kernel_rfl) _) ?_
  refine WL.y rfl (Y.makeFunc) ?_
  refine WL.y rfl (Y.build (cells := #[.int .i64 6, .func (.func 26) #[] #[.pointer (some ⟨w.heap.size, 0, none⟩)]]) (by kernel_rfl) _) ?_
  refine WL.y rfl (Y.makeFunc) ?_
  refine WL.y rfl (Y.build (cells := #[.int .i64 3, .func (.func 27) #[] #[.pointer (some ⟨w.heap.size, 0, none⟩)]]) (by kernel_rfl) _) ?_
  refine WL.eex rfl (E.buildSliceX (len := 3) (cs := rsL.flatMap (encR w.heap.size)) Tryd.underlying37 ti40 (by omega) (by omega) (by kernel_rfl) rfl) ?_
  rintro _ w9 ⟨rfl, ho9, hb9, -⟩
  have k9 := Below.step k1 hb9
  refine WL.y rfl (Y.assign) ?_
  refine WL.nil ?_
  refine WC.ret (endQ.one (.inr rfl) ?_)
  exact ⟨⟨w.heap.size, ownsRow_sl ho9, Blk.bel (vs := [strv k]) hB1 hb9⟩, k9⟩
/-- does the reason hold? -/
def holdR (k : List UInt8) : Nat → Bool
  | 0 => decide (k = [])
  | 1 => decide ((64 : Int) < k.length)
  | _ => !Lib.validD k
theorem mayS_hold (k : List UInt8) (i : Nat) (hi : i < 3) (hn : ∀ j, j < i → holdR k j = false) (h : holdR k i = true) : mayS k = (rsL.getD i (0, 0)).1 := by
  have h0 := hn 0
  have h1 := hn 1
  unfold mayS
  have hi : i = 0 ∨ i = 1 ∨ i = 2 := by omega
  rcases hi with rfl | rfl | rfl
  · simp only [holdR, decide_eq_true_eq] at h
    rw [if_pos h]; rfl
  · have h0 := h0 (by omega)
    simp only [holdR, decide_eq_true_eq, decide_eq_false_iff_not] at h h0
    rw [if_neg h0, if_pos (by omega)]; rfl
  · have h0 := h0 (by omega)
    have h1 := h1 (by omega)
    simp only [holdR, decide_eq_false_iff_not, Bool.not_eq_true'] at h h0 h1
    rw [if_neg h0, if_neg (by omega), if_neg (by rw [h]; simp)]; rfl
theorem mayS_ok (k : List UInt8) (hn : ∀ j, j < 3 → holdR k j = false) : mayS k = 0 := by
  have h0 := hn 0 (by omega)
  have h1 := hn 1 (by omega)
  have h2 := hn 2 (by omega)
  simp only [holdR, decide_eq_false_iff_not, Bool.not_eq_false'] at h0 h1 h2
  unfold mayS
  rw [if_neg h0, if_neg (by omega), if_pos h2]
theorem reason_ret (w : World) (b : Nat) (k : List UInt8) (hB : Blk w b 9 [strv k]) (hs : k.length ≤ 1152921504606846976) (hT : Tabs w) (i : Nat) (hi : i < 3) :
    GoFn Tryd.prog (rsL.getD i (0, 0)).2 ∧ Ret Tryd.prog (rsL.getD i (0, 0)).2 [.pointer (some ⟨b, 0, none⟩)].toArray w fun v w' => v = .bool (holdR k i) ∧ Below w.heap.size w w' := by
  have hi : i = 0 ∨ i = 1 ∨ i = 2 := by omega
  rcases hi with rfl | rfl | rfl
  · exact ⟨go25, (reason1_ret w b k hB).mono (by rintro v w' ⟨rfl, rfl⟩; exact ⟨rfl, Below.refl _ _⟩)⟩
  · exact ⟨go26, (reason2_ret w b k hB).mono (by rintro v w' ⟨rfl, rfl⟩; exact ⟨rfl, Below.refl _ _⟩)⟩
  · exact ⟨go27, reason3_ret w b k hB hs hT⟩
theorem may_ret (w : World) (k : List UInt8) (hs : k.length ≤ 1152921504606846976) (hT : Tabs w) :
    Ret Tryd.prog 10 [strv k].toArray w fun v w' => v = .int .i64 (mayS k) ∧ Below w.heap.size w w' := by
  have hone : ∀ (b : Nat) (p : Int × Nat), ∀ u ∈ encR b p, One u = true := by
    intro b p u hu
    simp only [encR, List.mem_cons, List.mem_nil_iff, or_false] at hu
    rcases hu with rfl | rfl <;> rfl
  refine Ret.of (n := 18) (rs := #[.tmp 2]) Tryd.func10 rfl rfl rfl (by simp) ?_
  refine WC.seqR rfl ?_
  refine WL.y rfl (Y.assign) ?_
  refine WL.nil ?_
  refine WC.seq ?_
  refine WC.seqR rfl ?_
  refine WL.y rfl (Y.move) ?_
  refine WL.call rfl (C.func go20) (reasons_ret _ k) ?_
  rintro v6 w6 ⟨⟨b, hs6, hB6⟩, hb6⟩
  have k6 := hb6
  refine WL.y rfl (Y.lenSl Tryd.underlying37 (hs6) _) ?_
  refine WL.y rfl (Y.move) ?_
  refine WL.nil ?_
  refine WC.block ?_
  refine WC.loop (fun i => 3 - i) (fun i f ds w' => i ≤ 3 ∧ ds = [] ∧ Below w.heap.size w w' ∧ SlK w' 2 v6 rsL.length (rsL.flatMap (encR b)) ∧ Blk w' b 9 [strv k] ∧ (∀ j, j < i → holdR k j = false) ∧ ∃ J, f = ov J [(6, v6), (7, .int .i64 3), (8, .int .i64 (i : Int))]) 0 ?_ ?_
  · exact ⟨by omega, rfl, hb6, hs6, hB6, fun j h => by omega, _, ov_mk ⟨rfl, rfl, rfl, trivial⟩⟩
  · rintro i _ _ w1 ⟨hi, rfl, hb1, hs1, hB1, hn, J, rfl⟩
    refine WC.seqR rfl ?_
    refine WL.y rfl (Y.lss rfl rfl) ?_
    refine WL.nil ?_
    refine WC.seq ?_
    refine WC.condD rfl (fun h0 => ?_) (fun h0 => ?_)
    · have hi3 : i < 3 := by omega
      generalize hp : rsL.getD i (0, 0) = p
      refine WC.skip (thenQ.normal ?_)
      refine WC.seq ?_
      refine WC.block ?_
      refine WC.seqR rfl ?_
      refine WL.yex rfl (Y.idxF (enc := encR b) (0, 0) (fun _ => rfl) (by decide) Tryd.underlying37 ti40 hs1 rfl (by omega) (by show (i : Int) < 3; omega)) ?_
      rintro _ ⟨b10, o10, rfl, hc10⟩
      rw [Int.toNat_natCast, hp] at hc10
      refine WL.y rfl (Y.loadN Tryd.underlying40 rfl ti40 rfl ((show Cells _ _ _ (encR b p) from hc10))) ?_
      refine WL.eex rfl (E.allocX ti40) ?_
      rintro _ w4 ⟨rfl, hB4, hb4⟩
      have k4 := Below.step hb1 hb4
      refine WL.eex rfl (E.storeAll (us := encR b p) ti40 rfl rfl (hone b p) hB4 rfl) ?_
      rintro _ w5 ⟨hB5, hg5⟩
      have b5 : Below w1.heap.size w1 w5 := hb4.trans (below_of_grown hg5 hb4.size (fun k e => by cases e; omega))
      have k5 : Below w.heap.size w w5 := Below.step hb1 b5
      have hqq := reason_ret w5 b k (hB1.bel b5) hs (hT.bel k5) i hi3
      obtain ⟨hgo, hR⟩ := hqq
      rw [hp] at hgo hR
      refine WL.nil ?_
      refine WC.seqR rfl ?_
      refine WL.y rfl (Y.fieldAddr fi40f1 ti25 (by decide) rfl (rfl) _) ?_
      refine WL.y rfl (Y.load1 Tryd.underlying25 rfl rfl ((show _ = some (Value.func (.func p.2) ([] : List Value).toArray [.pointer (some ⟨b, 0, none⟩)].toArray) from (hB5.cell 1).trans rfl))) ?_
      refine WL.call rfl (C.valueX hgo rfl) hR ?_
      rintro _ w14 ⟨rfl, hb14⟩
      have k14 := Below.step k5 hb14
      refine WL.nil ?_
      refine WC.cond rfl (fun h2 => ?_) (fun h2 => ?_)
      · have e := mayS_hold k i hi3 hn h2
        rw [hp] at e
        refine WC.seqR rfl ?_
        refine WL.y rfl (Y.fieldAddr fi40f0 ti22 (by decide) rfl (rfl) _) ?_
        refine WL.y rfl (Y.load1 Tryd.underlying22 rfl rfl ((show _ = some (Value.int .i64 p.1) from ((hB5.bel hb14).cell 0).trans rfl))) ?_
        refine WL.y rfl (Y.assign) ?_
        refine WL.nil ?_
        refine WC.ret (inBlockQ.ret (thenQ.ret (thenQ.ret (inBlockQ.ret (thenQ.ret (endQ.one (.inr rfl) ?_))))))
        exact ⟨congrArg (Value.int .i64) e.symm, k14⟩
      · refine WC.skip (inBlockQ.normal (thenQ.normal ?_))
        refine WC.region rfl ?_
        refine WL.y rfl (Y.add64 rfl rfl (by omega)) ?_
        refine WL.y rfl (Y.move) ?_
        refine WL.nil (thenQ.normal ?_)
        refine ⟨i + 1, by omega, by omega, rfl, k14, (hs1.bel b5).bel hb14, (hB1.bel b5).bel hb14, fun j hj => ?_, _, ov_mk ⟨rfl, rfl, rfl, trivial⟩⟩
        by_cases h7 : j = i
        · subst h7; exact h2
        · exact hn j (by omega)
    · have e := mayS_ok k (fun j hj => hn j (by omega))
      refine WC.exit (thenQ.exit (thenQ.exit (inBlockQ.hit (thenQ.normal ?_))))
      refine WC.seqR rfl ?_
      refine WL.y rfl (Y.assign) ?_
      refine WL.nil ?_
      refine WC.ret (endQ.one (.inr rfl) ?_)
      exact ⟨congrArg (Value.int .i64) e.symm, hb1⟩
end Go.Proofs.YtmodbnfekpeclaaDoor
