/-
  frame: Frame, Open, Body, Spoil.
-/
import Derived.Test.YtjlclaimpepgiaaFr2
namespace Go.Proofs.Ytjlclaimpepgiaa
open Go Go.RowKit Go.Cx
set_option linter.unusedVariables false
open Crc
theorem one_call {w : World} {gf : FuncId} {fst cap : List Value} {c : Int} (hgo : GoFn Try.prog gf) (hR : Ret Try.prog gf (fst ++ cap).toArray w fun v w' => v = .int .i64 c ∧ w = w') :
    ∀ (i : Nat) (u : Value), [Value.func (.func gf) fst.toArray cap.toArray][i]? = some u → ∃ gf fst cap, u = .func (.func gf) (fst : List Value).toArray (cap : List Value).toArray ∧ GoFn Try.prog gf ∧ Ret Try.prog gf (fst ++ cap).toArray w fun v w' => v = .int .i64 ([c].getD i 0) ∧ w = w'
  | 0, u, hu => ⟨gf, fst, cap, (Option.some.inj hu).symm, hgo, hR⟩
  | i + 1, u, hu => by simp at hu
theorem two_calls {w : World} {gf gg : FuncId} {fst cap fst' cap' : List Value} {c c' : Int} (hgo : GoFn Try.prog gf) (hR : Ret Try.prog gf (fst ++ cap).toArray w fun v w' => v = .int .i64 c ∧ w = w')
    (hgo' : GoFn Try.prog gg) (hR' : Ret Try.prog gg (fst' ++ cap').toArray w fun v w' => v = .int .i64 c' ∧ w = w') :
    ∀ (i : Nat) (u : Value), [Value.func (.func gf) fst.toArray cap.toArray, Value.func (.func gg) fst'.toArray cap'.toArray][i]? = some u → ∃ gf fst cap, u = .func (.func gf) (fst : List Value).toArray (cap : List Value).toArray ∧ GoFn Try.prog gf ∧ Ret Try.prog gf (fst ++ cap).toArray w fun v w' => v = .int .i64 ([c, c'].getD i 0) ∧ w = w'
  | 0, u, hu => ⟨gf, fst, cap, (Option.some.inj hu).symm, hgo, hR⟩
  | 1, u, hu => ⟨gg, fst', cap', (Option.some.inj hu).symm, hgo', hR'⟩
  | i + 2, u, hu => by simp at hu
theorem bs_form {w : World} {bv : Value} {l : List UInt8} (h : Bs w bv l) : ∃ a cap, bv = .slice a l.length cap := by
  obtain ⟨_, _, a, cap, hv, _⟩ := h
  exact ⟨a, cap, hv⟩
def frameCode (k : UInt8) : Int := firstOf [if k = 0 then 2 else 0]
def frameOf (k : UInt8) (l : List UInt8) : List UInt8 := if k = 0 then [] else sealed (k :: l)
theorem frameCode_zero : frameCode 0 = 2 := rfl
theorem frameCode_pos {k : UInt8} (h : k ≠ 0) : frameCode k = 0 := by unfold frameCode; rw [if_neg h]; rfl
theorem one_plain (m : UInt8) (a : Option Addr) (n c : Nat) : ∀ u ∈ [u8v m, Value.slice a n c], One u = true := by
  intro u hu
  simp only [List.mem_cons, List.mem_nil_iff, or_false] at hu
  rcases hu with rfl | rfl <;> rfl
theorem frame_ret (w : World) (k : UInt8) (bv : Value) (l : List UInt8) (hs : Bs w bv l) (hl : l.length + 5 ≤ 140737488355328) :
    Ret Try.prog 27 [u8v k, bv].toArray w fun v w' => (∃ fv, v = .tuple #[fv, .int .i64 (frameCode k)] ∧ Own w' w.heap.size fv (frameOf k l)) ∧ Below w.heap.size w w' := by
  obtain ⟨a, cap, rfl⟩ := bs_form hs
  by_cases hk : k = 0
  · subst hk
    refine Ret.of (n := 25) (rs := #[.tmp 4, .tmp 5]) Try.func27 rfl rfl rfl (by simp) ?_
    refine WC.seqR rfl ?_
    refine WL.y rfl (Y.assign) ?_
    refine WL.y rfl (Y.assign) ?_
    refine WL.nil ?_
    refine WC.seqR rfl ?_
    refine WL.y rfl (Y.move) ?_
    refine WL.y rfl (Y.move) ?_
    refine WL.y rfl (Y.build (cells := #[u8v 0, .slice a l.length cap]) (by kernel_rfl) _) ?_
    refine WL.eex rfl (E.allocX ti79) ?_
    rintro _ w6 ⟨rfl, hB6, hb6⟩
    have k6 := hb6
    refine WL.eex rfl (E.storeAll (us := [u8v 0, .slice a l.length cap]) ti79 rfl rfl (one_plain _ _ _ _) hB6 rfl) ?_
    rintro _ w9 ⟨hB9, hg9⟩
    have k9 : Below w.heap.size w w9 := k6.trans (below_of_grown hg9 k6.size (fun k e => by cases e; omega))
    refine WL.nil ?_
    refine WC.seq ?_
    refine WC.seqR rfl ?_
    refine WL.y rfl (Y.fieldAddr fi79f0 ti76 (by decide) rfl (rfl) _) ?_
    refine WL.y rfl (Y.load1 Try.underlying76 rfl rfl ((hB9.cell 0).trans rfl)) ?_
    refine WL.y rfl (Y.makeFunc) ?_
    refine WL.eex rfl (E.build1 Try.underlying82 ti80 rfl rfl rfl) ?_
    rintro v14 w14 ⟨hs14, hb14, _⟩
    have k14 := Below.step k9 hb14
    refine WL.call rfl (C.func go44) (first_ret v14 [.func (.func 43) [u8v 0].toArray #[]] [if (0 : UInt8) = 0 then 2 else 0] _ hs14 rfl (one_call (fst := [u8v 0]) (cap := []) go43 (named_ret 0 _))) ?_
    rintro _ _ ⟨rfl, rfl⟩
    refine WL.y rfl (Y.assign) ?_
    refine WL.nil ?_
    refine WC.seqR rfl ?_
    refine WL.y rfl (Y.move) ?_
    refine WL.y rfl (Y.dT (Y.nei rfl rfl) (by decide)) ?_
    refine WL.nil ?_
    refine WC.condT (rfl) ?_
    refine WC.seqR rfl ?_
    refine WL.y rfl (Y.move) ?_
    refine WL.y rfl (Y.assign) ?_
    refine WL.y rfl (Y.assign) ?_
    refine WL.nil ?_
    refine WC.ret (thenQ.ret (endQ.two (.inr rfl) ?_))
    exact ⟨⟨.slice none 0 0, rfl, World.ownsRow_nil _ _ _ _⟩, k14⟩
  · refine Ret.of (n := 25) (rs := #[.tmp 4, .tmp 5]) Try.func27 rfl rfl rfl (by simp) ?_
    refine WC.seqR rfl ?_
    refine WL.y rfl (Y.assign) ?_
    refine WL.y rfl (Y.assign) ?_
    refine WL.nil ?_
    refine WC.seqR rfl ?_
    refine WL.y rfl (Y.move) ?_
    refine WL.y rfl (Y.move) ?_
    refine WL.y rfl (Y.build (cells := #[u8v k, .slice a l.length cap]) (by kernel_rfl) _) ?_
    refine WL.eex rfl (E.allocX ti79) ?_
    rintro _ w6 ⟨rfl, hB6, hb6⟩
    have k6 := hb6
    refine WL.eex rfl (E.storeAll (us := [u8v k, .slice a l.length cap]) ti79 rfl rfl (one_plain _ _ _ _) hB6 rfl) ?_
    rintro _ w9 ⟨hB9, hg9⟩
    have k9 : Below w.heap.size w w9 := k6.trans (below_of_grown hg9 k6.size (fun k e => by cases e; omega))
    refine WL.nil ?_
    refine WC.seq ?_
    refine WC.seqR rfl ?_
    refine WL.y rfl (Y.fieldAddr fi79f0 ti76 (by decide) rfl (rfl) _) ?_
    refine WL.y rfl (Y.load1 Try.underlying76 rfl rfl ((hB9.cell 0).trans rfl)) ?_
    refine WL.y rfl (Y.makeFunc) ?_
    refine WL.eex rfl (E.build1 Try.underlying82 ti80 rfl rfl rfl) ?_
    rintro v14 w14 ⟨hs14, hb14, _⟩
    have k14 := Below.step k9 hb14
    refine WL.call rfl (C.func go44) (first_ret v14 [.func (.func 43) [u8v k].toArray #[]] [if k = 0 then 2 else 0] _ hs14 rfl (one_call (fst := [u8v k]) (cap := []) go43 (named_ret k _))) ?_
    rintro _ _ ⟨rfl, rfl⟩
    refine WL.y rfl (Y.assign) ?_
    refine WL.nil ?_
    refine WC.seqR rfl ?_
    refine WL.y rfl (Y.move) ?_
    refine WL.y rfl (Y.dF (Y.nei rfl rfl) (by have := frameCode_pos hk; unfold frameCode at this; omega)) ?_
    refine WL.nil ?_
    have hB10 := hB9.bel hb14
    refine WC.condF (rfl) ?_
    refine WC.skip (thenQ.normal ?_)
    refine WC.seqR rfl ?_
    refine WL.y rfl (Y.fieldAddr fi79f1 ti77 (by decide) rfl (rfl) _) ?_
    refine WL.y rfl (Y.load1 Try.underlying77 rfl rfl ((hB10.cell 1).trans rfl)) ?_
    refine WL.y rfl (Y.fieldAddr fi79f0 ti76 (by decide) rfl (rfl) _) ?_
    refine WL.y rfl (Y.load1 Try.underlying76 rfl rfl ((hB10.cell 0).trans rfl)) ?_
    refine WL.call rfl (C.func go46) (joined_ret _ l k _ (hs.bel k14) (by omega)) ?_
    rintro v23 w23 ⟨ho23, hb23⟩
    have k23 := Below.step k14 hb23
    refine WL.call rfl (C.func go45) (seal_ret v23 (k :: l) _ ho23.bs (by rw [List.length_cons]; omega)) ?_
    rintro v24 w24 ⟨ho24, hb24⟩
    have k24 := Below.step k23 hb24
    refine WL.y rfl (Y.assign) ?_
    refine WL.y rfl (Y.assign) ?_
    refine WL.nil ?_
    refine WC.ret (endQ.two (.inr rfl) ?_)
    refine ⟨⟨v24, congrArg (fun c => Value.tuple #[v24, .int .i64 c]) (frameCode_pos hk).symm, ?_⟩, k24⟩
    unfold frameOf
    rw [if_neg hk]
    exact ownsRow_mono ho24 k23.size
theorem readOf_cases (l : List UInt8) : readOf l = (0, [], 11) ∨ ∃ m xs, readOf l = (m, xs, 0) := by
  unfold readOf
  cases opened l with
  | nil => exact .inl rfl
  | cons m xs => exact .inr ⟨m, xs, rfl⟩
/-- a frame's kind, its body, and an error -/
def openOf (l : List UInt8) : UInt8 × List UInt8 × Int := if (readOf l).2.2 = 0 then (if (readOf l).1 = 0 then (0, [], 2) else readOf l) else (0, [], 11)
theorem one_plain' (m : UInt8) (v : Value) (h : One v = true) : ∀ u ∈ [u8v m, v], One u = true := by
  intro u hu
  simp only [List.mem_cons, List.mem_nil_iff, or_false] at hu
  rcases hu with rfl | rfl
  · rfl
  · exact h
theorem OB.mono {w : World} {B B' : Nat} {v : Value} {l : List UInt8} (h : OB w B v l) (hB : B' ≤ B) : OB w B' v l := OwnS.mono h hB
theorem OB.grownLt {w w' : World} {B b : Nat} {v : Value} {l : List UInt8} (h : OB w B v l) (hg : w.grownBy w' (some b)) (hb : b < B) : OB w' B v l := OwnS.grownLt h hg hb
theorem OB.grownNew {w w' : World} {B b : Nat} {v : Value} {l : List UInt8} (h : OB w B v l) (hb : w.heap.size ≤ b) {w2 : World} (hbel : Below w.heap.size w w2) (hg : w2.grownBy w' (some b)) : OB w' B v l :=
  OwnS.bel h (hbel.trans (below_of_grown hg hbel.size (fun k e => by cases e; exact hb)))
theorem read_is {m : UInt8} {xs : List UInt8} {c : Int} (w : World) (bv : Value) (l : List UInt8) (hs : Bs w bv l) (hl : l.length ≤ 140737488355328) (hro : readOf l = (m, xs, c)) :
    Ret Try.prog 47 [bv].toArray w fun v w' => (∃ xv, v = .tuple #[.agg #[u8v m, xv], .int .i64 c] ∧ One xv = true ∧ OB w' w.heap.size xv xs) ∧ Below w.heap.size w w' := by
  have := read_ret w bv l hs hl
  rw [hro] at this
  exact this
theorem frameOpen_ret (w : World) (bv : Value) (l : List UInt8) (hs : Bs w bv l) (hl : l.length ≤ 140737488355328) :
    Ret Try.prog 28 [bv].toArray w fun v w' => (∃ xv, v = .tuple #[u8v (openOf l).1, xv, .int .i64 (openOf l).2.2] ∧ One xv = true ∧ OB w' w.heap.size xv (openOf l).2.1) ∧ Below w.heap.size w w' := by
  rcases readOf_cases l with hro | ⟨m, xs, hro⟩
  · have hop : openOf l = (0, [], 11) := by unfold openOf; rw [hro]; rfl
    rw [hop]
    refine Ret.of (n := 26) (rs := #[.tmp 2, .tmp 3, .tmp 4]) Try.func28 rfl rfl rfl (by simp) ?_
    refine WC.seqR rfl ?_
    refine WL.y rfl (Y.assign) ?_
    refine WL.y rfl (Y.assign) ?_
    refine WL.y rfl (Y.assign) ?_
    refine WL.nil ?_
    refine WC.seqR rfl ?_
    refine WL.y rfl (Y.move) ?_
    refine WL.call rfl (C.func go47) (read_is _ bv l (hs.bel (Below.refl _ _)) hl hro) ?_
    rintro _ w9 ⟨⟨x9, rfl, h19, ho9⟩, hb9⟩
    have k9 := hb9
    refine WL.y rfl (Y.move) ?_
    refine WL.y rfl (Y.extract rfl rfl) ?_
    refine WL.y rfl (Y.extract rfl rfl) ?_
    refine WL.eex rfl (E.allocX ti79) ?_
    rintro _ w5 ⟨rfl, hB5, hb5⟩
    have k5 := Below.step k9 hb5
    refine WL.eex rfl (E.storeAll (us := [u8v 0, x9]) ti79 rfl rfl (one_plain' _ _ h19) hB5 rfl) ?_
    rintro _ w10 ⟨hB10, hg10⟩
    have k10 : Below w.heap.size w w10 := k5.trans (below_of_grown hg10 k5.size (fun k e => by cases e; exact k9.size))
    refine WL.y rfl (Y.assign) ?_
    refine WL.nil ?_
    refine WC.seq ?_
    refine WC.seqR rfl ?_
    refine WL.y rfl (Y.move) ?_
    refine WL.y rfl (Y.dF (Y.eqi rfl rfl) (by omega)) ?_
    refine WL.nil ?_
    refine WC.condF (rfl) ?_
    refine WC.skip (thenQ.normal ?_)
    refine WC.seq ?_
    refine WC.seqR rfl ?_
    refine WL.y rfl (Y.move) ?_
    refine WL.y rfl (Y.dT (Y.nei rfl rfl) (by omega)) ?_
    refine WL.nil ?_
    refine WC.condT (rfl) ?_
    refine WC.seqR rfl ?_
    refine WL.y rfl (Y.move) ?_
    refine WL.y rfl (Y.assign) ?_
    refine WL.y rfl (Y.assign) ?_
    refine WL.y rfl (Y.assign) ?_
    refine WL.nil ?_
    refine WC.ret (thenQ.ret (endQ.three (.inr rfl) ?_))
    exact ⟨⟨.slice none 0 0, rfl, rfl, ownS_nil⟩, k10⟩
  · by_cases hm : m = 0
    · subst hm
      have hop : openOf l = (0, [], 2) := by unfold openOf; rw [hro]; rfl
      rw [hop]
      refine Ret.of (n := 26) (rs := #[.tmp 2, .tmp 3, .tmp 4]) Try.func28 rfl rfl rfl (by simp) ?_
      refine WC.seqR rfl ?_
      refine WL.y rfl (Y.assign) ?_
      refine WL.y rfl (Y.assign) ?_
      refine WL.y rfl (Y.assign) ?_
      refine WL.nil ?_
      refine WC.seqR rfl ?_
      refine WL.y rfl (Y.move) ?_
      refine WL.call rfl (C.func go47) (read_is _ bv l (hs.bel (Below.refl _ _)) hl hro) ?_
      rintro _ w9 ⟨⟨x9, rfl, h19, ho9⟩, hb9⟩
      have k9 := hb9
      refine WL.y rfl (Y.move) ?_
      refine WL.y rfl (Y.extract rfl rfl) ?_
      refine WL.y rfl (Y.extract rfl rfl) ?_
      refine WL.eex rfl (E.allocX ti79) ?_
      rintro _ w5 ⟨rfl, hB5, hb5⟩
      have k5 := Below.step k9 hb5
      refine WL.eex rfl (E.storeAll (us := [u8v 0, x9]) ti79 rfl rfl (one_plain' _ _ h19) hB5 rfl) ?_
      rintro _ w10 ⟨hB10, hg10⟩
      have k10 : Below w.heap.size w w10 := k5.trans (below_of_grown hg10 k5.size (fun k e => by cases e; exact k9.size))
      refine WL.y rfl (Y.assign) ?_
      refine WL.nil ?_
      refine WC.seq ?_
      refine WC.seqR rfl ?_
      refine WL.y rfl (Y.move) ?_
      refine WL.y rfl (Y.dT (Y.eqi rfl rfl) (by omega)) ?_
      refine WL.nil ?_
      refine WC.condT (rfl) ?_
      refine WC.region rfl ?_
      refine WL.y rfl (Y.fieldAddr fi79f0 ti76 (by decide) rfl (rfl) _) ?_
      refine WL.y rfl (Y.load1 Try.underlying76 rfl rfl ((hB10.cell 0).trans rfl)) ?_
      refine WL.y rfl (Y.makeFunc) ?_
      refine WL.eex rfl (E.build1 Try.underlying82 ti80 rfl rfl rfl) ?_
      rintro v17 w17 ⟨hs17, hb17, _⟩
      have k17 := Below.step k10 hb17
      refine WL.call rfl (C.func go44) (first_ret v17 [.func (.func 43) [u8v 0].toArray #[]] [if (0 : UInt8) = 0 then 2 else 0] _ hs17 rfl (one_call (fst := [u8v 0]) (cap := []) go43 (named_ret 0 _))) ?_
      rintro _ _ ⟨rfl, rfl⟩
      refine WL.y rfl (Y.assign) ?_
      refine WL.nil (thenQ.normal ?_)
      refine WC.seq ?_
      refine WC.seqR rfl ?_
      refine WL.y rfl (Y.move) ?_
      refine WL.y rfl (Y.dT (Y.nei rfl rfl) (by decide)) ?_
      refine WL.nil ?_
      refine WC.condT (rfl) ?_
      refine WC.seqR rfl ?_
      refine WL.y rfl (Y.move) ?_
      refine WL.y rfl (Y.assign) ?_
      refine WL.y rfl (Y.assign) ?_
      refine WL.y rfl (Y.assign) ?_
      refine WL.nil ?_
      refine WC.ret (thenQ.ret (endQ.three (.inr rfl) ?_))
      exact ⟨⟨.slice none 0 0, rfl, rfl, ownS_nil⟩, k17⟩
    · have hop : openOf l = (m, xs, 0) := by unfold openOf; rw [hro]; simp [hm]
      rw [hop]
      refine Ret.of (n := 26) (rs := #[.tmp 2, .tmp 3, .tmp 4]) Try.func28 rfl rfl rfl (by simp) ?_
      refine WC.seqR rfl ?_
      refine WL.y rfl (Y.assign) ?_
      refine WL.y rfl (Y.assign) ?_
      refine WL.y rfl (Y.assign) ?_
      refine WL.nil ?_
      refine WC.seqR rfl ?_
      refine WL.y rfl (Y.move) ?_
      refine WL.call rfl (C.func go47) (read_is _ bv l (hs.bel (Below.refl _ _)) hl hro) ?_
      rintro _ w9 ⟨⟨x9, rfl, h19, ho9⟩, hb9⟩
      have k9 := hb9
      refine WL.y rfl (Y.move) ?_
      refine WL.y rfl (Y.extract rfl rfl) ?_
      refine WL.y rfl (Y.extract rfl rfl) ?_
      refine WL.eex rfl (E.allocX ti79) ?_
      rintro _ w5 ⟨rfl, hB5, hb5⟩
      have k5 := Below.step k9 hb5
      refine WL.eex rfl (E.storeAll (us := [u8v m, x9]) ti79 rfl rfl (one_plain' _ _ h19) hB5 rfl) ?_
      rintro _ w10 ⟨hB10, hg10⟩
      have ho10 : OB w10 w.heap.size x9 xs := OB.grownNew ho9 (Nat.le_refl _) hb5 hg10
      have k10 : Below w.heap.size w w10 := k5.trans (below_of_grown hg10 k5.size (fun k e => by cases e; exact k9.size))
      refine WL.y rfl (Y.assign) ?_
      refine WL.nil ?_
      refine WC.seq ?_
      refine WC.seqR rfl ?_
      refine WL.y rfl (Y.move) ?_
      refine WL.y rfl (Y.dT (Y.eqi rfl rfl) (by omega)) ?_
      refine WL.nil ?_
      refine WC.condT (rfl) ?_
      refine WC.region rfl ?_
      refine WL.y rfl (Y.fieldAddr fi79f0 ti76 (by decide) rfl (rfl) _) ?_
      refine WL.y rfl (Y.load1 Try.underlying76 rfl rfl ((hB10.cell 0).trans rfl)) ?_
      refine WL.y rfl (Y.makeFunc) ?_
      refine WL.eex rfl (E.build1 Try.underlying82 ti80 rfl rfl rfl) ?_
      rintro v17 w17 ⟨hs17, hb17, _⟩
      have k17 := Below.step k10 hb17
      refine WL.call rfl (C.func go44) (first_ret v17 [.func (.func 43) [u8v m].toArray #[]] [if m = 0 then 2 else 0] _ hs17 rfl (one_call (fst := [u8v m]) (cap := []) go43 (named_ret m _))) ?_
      rintro _ _ ⟨rfl, rfl⟩
      refine WL.y rfl (Y.assign) ?_
      refine WL.nil (thenQ.normal ?_)
      refine WC.seq ?_
      refine WC.seqR rfl ?_
      refine WL.y rfl (Y.move) ?_
      refine WL.y rfl (Y.dF (Y.nei rfl rfl) (by have := frameCode_pos hm; unfold frameCode at this; omega)) ?_
      refine WL.nil ?_
      have hB11 := hB10.bel hb17
      refine WC.condF (rfl) ?_
      refine WC.skip (thenQ.normal ?_)
      refine WC.seq ?_
      refine WC.regionB (fun _ => false) [(0, .any), (1, .held), (2, .any), (3, .held), (4, .any), (5, .any), (6, .any)] mixed (by kernel_rfl) (fun wr6 hS6 hheap => ?_)
      have kr6 := Below.step k17 hS6
      refine RL.any rfl rfl (fun _ => Y.fieldAddr fi79f0 ti76 (by decide) rfl (rfl) _) ?_
      refine RL.held rfl rfl hS6 (fun _ hb9 => Y.load1 Try.underlying76 rfl rfl (cell_bel ((hB11.cell 0).trans rfl) hb9)) ?_
      refine RL.any rfl rfl (fun _ => Y.fieldAddr fi79f1 ti77 (by decide) rfl (rfl) _) ?_
      refine RL.held rfl rfl hS6 (fun _ hb9 => Y.load1 Try.underlying77 rfl rfl (cell_bel ((hB11.cell 1).trans rfl) hb9)) ?_
      refine RL.any rfl rfl (fun _ => Y.assign) ?_
      refine RL.any rfl rfl (fun _ => Y.assign) ?_
      refine RL.any rfl rfl (fun _ => Y.assign) ?_
      refine RL.nil (thenQ.normal ?_)
      refine WC.ret (endQ.three (.inr rfl) ?_)
      exact ⟨⟨x9, rfl, h19, (ho10.bel hb17).bel hS6⟩, kr6⟩
end Go.Proofs.Ytjlclaimpepgiaa
