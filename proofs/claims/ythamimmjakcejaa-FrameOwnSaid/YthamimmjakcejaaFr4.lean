/-
  frame: Body, Spoil.
-/
import Derived.Test.YthamimmjakcejaaFr3
namespace Go.Proofs.Ythamimmjakcejaa
open Go Go.RowKit Go.Cx
set_option linter.unusedVariables false
open Crc
theorem bodyFn_ret (w : World) (b1 b2 : Nat) (m k : UInt8) (x : Value) (h1 : Blk w b1 45 [u8v m, x]) (h2 : Blk w b2 5 [u8v k]) :
    Ret Try.prog 30 [.pointer (some ⟨b1, 0, none⟩), .pointer (some ⟨b2, 0, none⟩)].toArray w fun v w' => v = .int .i64 (if m = k then 0 else 13) ∧ w = w' := by
  refine Ret.of (n := 7) (rs := #[.tmp 2]) Try.func30 rfl rfl rfl (by simp) ?_
  refine WC.seqR rfl ?_
  refine WL.y rfl (Y.assign) ?_
  refine WL.nil ?_
  refine WC.seqR rfl ?_
  refine WL.y rfl (Y.fieldAddr fi45f0 ti42 (by decide) rfl (rfl) _) ?_
  refine WL.y rfl (Y.load1 Try.underlying42 rfl rfl ((h1.cell 0).trans rfl)) ?_
  refine WL.y rfl (Y.load1 Try.underlying5 rfl rfl (h2.one)) ?_
  refine WL.call rfl (C.func go31) (like_ret m k _) ?_
  rintro _ _ ⟨rfl, rfl⟩
  refine WL.y rfl (Y.assign) ?_
  refine WL.nil ?_
  refine WC.ret (endQ.one (.inr rfl) ?_)
  exact ⟨rfl, rfl⟩
def bodyOf (k : UInt8) (l : List UInt8) : List UInt8 × Int := if (openOf l).2.2 = 0 then (if (openOf l).1 = k then ((openOf l).2.1, 0) else ([], 13)) else ([], (openOf l).2.2)
theorem frameBody_ret (w : World) (k : UInt8) (bv : Value) (l : List UInt8) (hs : Bs w bv l) (hl : l.length ≤ 140737488355328) :
    Ret Try.prog 18 [u8v k, bv].toArray w fun v w' => (∃ xv, v = .tuple #[xv, .int .i64 (bodyOf k l).2] ∧ OB w' w.heap.size xv (bodyOf k l).1) ∧ Below w.heap.size w w' := by
  rcases readOf_cases l with hro | ⟨m, xs, hro⟩
  · have hop : openOf l = (0, [], 11) := by unfold openOf; rw [hro]; rfl
    have hbo : bodyOf k l = ([], 11) := by unfold bodyOf; rw [hop]; rfl
    rw [hbo]
    refine Ret.of (n := 26) (rs := #[.tmp 4, .tmp 5]) Try.func18 rfl rfl rfl (by simp) ?_
    refine WC.seqR rfl ?_
    refine WL.eex rfl (E.boxX) ?_
    rintro _ w2 ⟨rfl, hB2, hb2⟩
    have k2 := hb2
    refine WL.y rfl (Y.assign) ?_
    refine WL.y rfl (Y.assign) ?_
    refine WL.nil ?_
    refine WC.seqR rfl ?_
    refine WL.y rfl (Y.move) ?_
    refine WL.call rfl (C.func go28) (read_is _ bv l (hs.bel k2) hl hro) ?_
    rintro _ w9 ⟨⟨x9, rfl, h19, ho9⟩, hb10⟩
    have k10 := Below.step k2 hb10
    refine WL.y rfl (Y.move) ?_
    refine WL.y rfl (Y.extract rfl rfl) ?_
    refine WL.y rfl (Y.extract rfl rfl) ?_
    refine WL.eex rfl (E.allocX ti45) ?_
    rintro _ w6 ⟨rfl, hB6, hb6⟩
    have k6 := Below.step k10 hb6
    refine WL.eex rfl (E.storeAll (us := [u8v 0, x9]) ti45 rfl rfl (one_plain' _ _ h19) hB6 rfl) ?_
    rintro _ w11 ⟨hB11, hg11⟩
    have k11 : Below w.heap.size w w11 := k6.trans (below_of_grown hg11 k6.size (fun k e => by cases e; exact k10.size))
    refine WL.y rfl (Y.assign) ?_
    refine WL.nil ?_
    refine WC.seq ?_
    refine WC.seqR rfl ?_
    refine WL.y rfl (Y.move) ?_
    refine WL.y rfl (Y.dF (Y.eqi rfl rfl) (by omega)) ?_
    refine WL.nil ?_
    refine WC.condF (rfl) ?_
    refine WC.skip (thenQ.normal ?_)
    refine WC.seq ?_
    refine WC.seqR rfl ?_
    refine WL.y rfl (Y.move) ?_
    refine WL.y rfl (Y.dT (Y.nei rfl rfl) (by omega)) ?_
    refine WL.nil ?_
    refine WC.condT (rfl) ?_
    refine WC.seqR rfl ?_
    refine WL.y rfl (Y.move) ?_
    refine WL.y rfl (Y.assign) ?_
    refine WL.y rfl (Y.assign) ?_
    refine WL.nil ?_
    refine WC.ret (thenQ.ret (endQ.two (.inr rfl) ?_))
    exact ⟨⟨.slice none 0 0, rfl, ownS_nil⟩, k11⟩
  · have two : ∀ (w : World) (b1 b2 : Nat) (x : Value), Blk w b1 45 [u8v m, x] → Blk w b2 5 [u8v k] → _ := fun w b1 b2 x h1 h2 => two_calls (w := w) (fst := [u8v m]) (cap := []) go20 (named_ret m w) (fst' := []) (cap' := [.pointer (some ⟨b1, 0, none⟩), .pointer (some ⟨b2, 0, none⟩)]) go30 (bodyFn_ret w b1 b2 m k x h1 h2)
    generalize hcode : firstOf [if m = 0 then 2 else 0, if m = k then 0 else 13] = code at *
    have hcd : (code = 0 ∧ m ≠ 0 ∧ m = k) ∨ (code = 2 ∧ m = 0) ∨ (code = 13 ∧ m ≠ 0 ∧ m ≠ k) := by
      by_cases h0 : m = 0
      · exact .inr (.inl ⟨by rw [← hcode, if_pos h0]; rfl, h0⟩)
      · by_cases h1 : m = k
        · exact .inl ⟨by rw [← hcode, if_neg h0, if_pos h1]; rfl, h0, h1⟩
        · exact .inr (.inr ⟨by rw [← hcode, if_neg h0, if_neg h1]; rfl, h0, h1⟩)
    have hbo : bodyOf k l = (if code = 0 then xs else [], code) := by
      unfold bodyOf openOf
      rw [hro]
      rcases hcd with ⟨h, h1, h2⟩ | ⟨h, h1⟩ | ⟨h, h1, h2⟩
      · subst h2; simp [h, h1]
      · simp [h, h1]
      · simp [h, h1, h2]
    rw [hbo]
    refine Ret.of (n := 26) (rs := #[.tmp 4, .tmp 5]) Try.func18 rfl rfl rfl (by simp) ?_
    refine WC.seqR rfl ?_
    refine WL.eex rfl (E.boxX) ?_
    rintro _ w2 ⟨rfl, hB2, hb2⟩
    have k2 := hb2
    refine WL.y rfl (Y.assign) ?_
    refine WL.y rfl (Y.assign) ?_
    refine WL.nil ?_
    refine WC.seqR rfl ?_
    refine WL.y rfl (Y.move) ?_
    refine WL.call rfl (C.func go28) (read_is _ bv l (hs.bel k2) hl hro) ?_
    rintro _ w9 ⟨⟨x9, rfl, h19, ho9⟩, hb10⟩
    have k10 := Below.step k2 hb10
    refine WL.y rfl (Y.move) ?_
    refine WL.y rfl (Y.extract rfl rfl) ?_
    refine WL.y rfl (Y.extract rfl rfl) ?_
    refine WL.eex rfl (E.allocX ti45) ?_
    rintro _ w6 ⟨rfl, hB6, hb6⟩
    have k6 := Below.step k10 hb6
    refine WL.eex rfl (E.storeAll (us := [u8v m, x9]) ti45 rfl rfl (one_plain' _ _ h19) hB6 rfl) ?_
    rintro _ w11 ⟨hB11, hg11⟩
    have k11 : Below w.heap.size w w11 := k6.trans (below_of_grown hg11 k6.size (fun k e => by cases e; exact k10.size))
    have ho11 : OB w11 w.heap.size x9 xs := OB.mono (OB.grownNew ho9 (Nat.le_refl _) hb6 hg11) hb2.size
    have hB2' : Blk w11 w.heap.size 5 [u8v k] := by have h : Blk w2 w.heap.size 5 [u8v k] := hB2; exact ((h.bel hb10).bel hb6).grown hg11 (by have := hB2.lt; have := hb10.size; omega)
    refine WL.y rfl (Y.assign) ?_
    refine WL.nil ?_
    refine WC.seq ?_
    refine WC.seqR rfl ?_
    refine WL.y rfl (Y.move) ?_
    refine WL.y rfl (Y.dT (Y.eqi rfl rfl) (by omega)) ?_
    refine WL.nil ?_
    by_cases hc0 : code = 0
    · refine WC.condT (rfl) ?_
      refine WC.region rfl ?_
      refine WL.y rfl (Y.fieldAddr fi45f0 ti42 (by decide) rfl (rfl) _) ?_
      refine WL.y rfl (Y.load1 Try.underlying42 rfl rfl ((hB11.cell 0).trans rfl)) ?_
      refine WL.y rfl (Y.makeFunc) ?_
      refine WL.y rfl (Y.makeFunc) ?_
      refine WL.eex rfl (E.buildSliceX (len := 2) (cs := [.func (.func 20) [u8v m].toArray #[], .func (.func 30) #[] #[.pointer (some ⟨w9.heap.size, 0, none⟩), .pointer (some ⟨w.heap.size, 0, none⟩)]]) Try.underlying48 ti46 (by omega) (by omega) (by kernel_rfl) rfl) ?_
      rintro _ w19 ⟨rfl, ho19, hb19, -⟩
      have k19 := Below.step k11 hb19
      refine WL.call rfl (C.func go21) (first_ret _ _ [if m = 0 then 2 else 0, if m = k then 0 else 13] _ (ownsRow_sl ho19) rfl (two _ _ _ x9 (hB11.bel hb19) (hB2'.bel hb19))) ?_
      rintro _ _ ⟨rfl, rfl⟩
      refine WL.y rfl (Y.assign) ?_
      refine WL.nil (thenQ.normal ?_)
      refine WC.seq ?_
      refine WC.seqR rfl ?_
      refine WL.y rfl (Y.move) ?_
      refine WL.y rfl (Y.dF (Y.nei rfl rfl) (by rw [hcode]; omega)) ?_
      refine WL.nil ?_
      have hB12 := hB11.bel hb19
      refine WC.condF (rfl) ?_
      refine WC.skip (thenQ.normal ?_)
      refine WC.seqR rfl ?_
      refine WL.y rfl (Y.fieldAddr fi45f1 ti43 (by decide) rfl (rfl) _) ?_
      refine WL.y rfl (Y.load1 Try.underlying43 rfl rfl ((hB12.cell 1).trans rfl)) ?_
      refine WL.y rfl (Y.assign) ?_
      refine WL.y rfl (Y.assign) ?_
      refine WL.nil ?_
      refine WC.ret (endQ.two (.inr rfl) ?_)
      exact ⟨⟨x9, congrArg (fun c => Value.tuple #[x9, .int .i64 c]) hc0.symm, by rw [if_pos hc0]; exact ho11.bel hb19⟩, k19⟩
    · skip
      refine WC.condT (rfl) ?_
      refine WC.region rfl ?_
      refine WL.y rfl (Y.fieldAddr fi45f0 ti42 (by decide) rfl (rfl) _) ?_
      refine WL.y rfl (Y.load1 Try.underlying42 rfl rfl ((hB11.cell 0).trans rfl)) ?_
      refine WL.y rfl (Y.makeFunc) ?_
      refine WL.y rfl (Y.makeFunc) ?_
      refine WL.eex rfl (E.buildSliceX (len := 2) (cs := [.func (.func 20) [u8v m].toArray #[], .func (.func 30) #[] #[.pointer (some ⟨w9.heap.size, 0, none⟩), .pointer (some ⟨w.heap.size, 0, none⟩)]]) Try.underlying48 ti46 (by omega) (by omega) (by kernel_rfl) rfl) ?_
      rintro _ w19 ⟨rfl, ho19, hb19, -⟩
      have k19 := Below.step k11 hb19
      refine WL.call rfl (C.func go21) (first_ret _ _ [if m = 0 then 2 else 0, if m = k then 0 else 13] _ (ownsRow_sl ho19) rfl (two _ _ _ x9 (hB11.bel hb19) (hB2'.bel hb19))) ?_
      rintro _ _ ⟨rfl, rfl⟩
      refine WL.y rfl (Y.assign) ?_
      refine WL.nil (thenQ.normal ?_)
      refine WC.seq ?_
      refine WC.seqR rfl ?_
      refine WL.y rfl (Y.move) ?_
      refine WL.y rfl (Y.dT (Y.nei rfl rfl) (by rw [hcode]; omega)) ?_
      refine WL.nil ?_
      refine WC.condT (rfl) ?_
      refine WC.seqR rfl ?_
      refine WL.y rfl (Y.move) ?_
      refine WL.y rfl (Y.assign) ?_
      refine WL.y rfl (Y.assign) ?_
      refine WL.nil ?_
      refine WC.ret (thenQ.ret (endQ.two (.inr rfl) ?_))
      exact ⟨⟨.slice none 0 0, congrArg (fun c => Value.tuple #[.slice none 0 0, .int .i64 c]) hcode, by rw [if_neg hc0]; exact ownS_nil⟩, k19⟩
theorem placed_ret (w : World) (b1 b2 : Nat) (at' : Int) (bv : Value) (l : List UInt8) (h1 : Blk w b1 3 [.int .i64 at']) (h2 : Blk w b2 22 [bv]) (hs : Bs w bv l) :
    Ret Try.prog 25 [.pointer (some ⟨b1, 0, none⟩), .pointer (some ⟨b2, 0, none⟩)].toArray w fun v w' => v = .int .i64 (if 0 ≤ at' ∧ at' < l.length then 0 else 17) ∧ w = w' := by
  by_cases h0 : 0 ≤ at'
  · by_cases hlt : at' < l.length
    · refine Ret.of (n := 12) (rs := #[.tmp 2]) Try.func25 rfl rfl rfl (by simp) ?_
      refine WC.seqR rfl ?_
      refine WL.y rfl (Y.assign) ?_
      refine WL.nil ?_
      refine WC.seqR rfl ?_
      refine WL.y rfl (Y.load1 Try.underlying3 rfl rfl (h1.one)) ?_
      refine WL.y rfl (Y.dT (Y.geq rfl rfl) (by omega)) ?_
      refine WL.y rfl (Y.move) ?_
      refine WL.y rfl (Y.load1 Try.underlying3 rfl rfl (h1.one)) ?_
      refine WL.y rfl (Y.load1 Try.underlying22 rfl rfl (h2.one)) ?_
      refine WL.y rfl (Y.lenSl Try.underlying22 (hs) _) ?_
      refine WL.y rfl (Y.dT (Y.lss rfl rfl) (by omega)) ?_
      refine WL.y rfl (Y.pickT rfl) ?_
      refine WL.call rfl (C.func go26) (unless_ret true 17 _) ?_
      rintro _ _ ⟨rfl, rfl⟩
      refine WL.y rfl (Y.assign) ?_
      refine WL.nil ?_
      refine WC.ret (endQ.one (.inr rfl) ?_)
      exact ⟨congrArg (Value.int .i64) (show (0 : Int) = if 0 ≤ at' ∧ at' < l.length then 0 else 17 by rw [if_pos ⟨h0, hlt⟩]), rfl⟩
    · refine Ret.of (n := 12) (rs := #[.tmp 2]) Try.func25 rfl rfl rfl (by simp) ?_
      refine WC.seqR rfl ?_
      refine WL.y rfl (Y.assign) ?_
      refine WL.nil ?_
      refine WC.seqR rfl ?_
      refine WL.y rfl (Y.load1 Try.underlying3 rfl rfl (h1.one)) ?_
      refine WL.y rfl (Y.dT (Y.geq rfl rfl) (by omega)) ?_
      refine WL.y rfl (Y.move) ?_
      refine WL.y rfl (Y.load1 Try.underlying3 rfl rfl (h1.one)) ?_
      refine WL.y rfl (Y.load1 Try.underlying22 rfl rfl (h2.one)) ?_
      refine WL.y rfl (Y.lenSl Try.underlying22 (hs) _) ?_
      refine WL.y rfl (Y.dF (Y.lss rfl rfl) (by omega)) ?_
      refine WL.y rfl (Y.pickT rfl) ?_
      refine WL.call rfl (C.func go26) (unless_ret false 17 _) ?_
      rintro _ _ ⟨rfl, rfl⟩
      refine WL.y rfl (Y.assign) ?_
      refine WL.nil ?_
      refine WC.ret (endQ.one (.inr rfl) ?_)
      exact ⟨congrArg (Value.int .i64) (show (17 : Int) = if 0 ≤ at' ∧ at' < l.length then 0 else 17 by rw [if_neg (fun h => hlt h.2)]), rfl⟩
  · refine Ret.of (n := 12) (rs := #[.tmp 2]) Try.func25 rfl rfl rfl (by simp) ?_
    refine WC.seqR rfl ?_
    refine WL.y rfl (Y.assign) ?_
    refine WL.nil ?_
    refine WC.seqR rfl ?_
    refine WL.y rfl (Y.load1 Try.underlying3 rfl rfl (h1.one)) ?_
    refine WL.y rfl (Y.dF (Y.geq rfl rfl) (by omega)) ?_
    refine WL.y rfl (Y.move) ?_
    refine WL.off rfl ?_
    refine WL.off rfl ?_
    refine WL.off rfl ?_
    refine WL.off rfl ?_
    refine WL.y rfl (Y.pickF rfl) ?_
    refine WL.call rfl (C.func go26) (unless_ret false 17 _) ?_
    rintro _ _ ⟨rfl, rfl⟩
    refine WL.y rfl (Y.assign) ?_
    refine WL.nil ?_
    refine WC.ret (endQ.one (.inr rfl) ?_)
    exact ⟨congrArg (Value.int .i64) (show (17 : Int) = if 0 ≤ at' ∧ at' < l.length then 0 else 17 by rw [if_neg (fun h => h0 h.1)]), rfl⟩
theorem masked_ret (w : World) (b1 : Nat) (m : UInt8) (h1 : Blk w b1 5 [u8v m]) :
    Ret Try.prog 27 [.pointer (some ⟨b1, 0, none⟩)].toArray w fun v w' => v = .int .i64 (if m = 0 then 2 else 0) ∧ w = w' := by
  by_cases hm : m = 0
  · subst hm
    refine Ret.of (n := 5) (rs := #[.tmp 1]) Try.func27 rfl rfl rfl (by simp) ?_
    refine WC.seqR rfl ?_
    refine WL.y rfl (Y.assign) ?_
    refine WL.nil ?_
    refine WC.seqR rfl ?_
    refine WL.y rfl (Y.load1 Try.underlying5 rfl rfl (h1.one)) ?_
    refine WL.y rfl (Y.dF (Y.nei rfl rfl) (by simp)) ?_
    refine WL.call rfl (C.func go26) (unless_ret false 2 _) ?_
    rintro _ _ ⟨rfl, rfl⟩
    refine WL.y rfl (Y.assign) ?_
    refine WL.nil ?_
    refine WC.ret (endQ.one (.inr rfl) ?_)
    exact ⟨rfl, rfl⟩
  · have hm' : m.toNat ≠ 0 := fun h => hm (UInt8.toNat_inj.mp h)
    refine Ret.of (n := 5) (rs := #[.tmp 1]) Try.func27 rfl rfl rfl (by simp) ?_
    refine WC.seqR rfl ?_
    refine WL.y rfl (Y.assign) ?_
    refine WL.nil ?_
    refine WC.seqR rfl ?_
    refine WL.y rfl (Y.load1 Try.underlying5 rfl rfl (h1.one)) ?_
    refine WL.y rfl (Y.dT (Y.nei rfl rfl) (by omega)) ?_
    refine WL.call rfl (C.func go26) (unless_ret true 2 _) ?_
    rintro _ _ ⟨rfl, rfl⟩
    refine WL.y rfl (Y.assign) ?_
    refine WL.nil ?_
    refine WC.ret (endQ.one (.inr rfl) ?_)
    exact ⟨(show Value.int .i64 0 = Value.int .i64 (if m = 0 then 2 else 0) by rw [if_neg hm]), rfl⟩
end Go.Proofs.Ythamimmjakcejaa
