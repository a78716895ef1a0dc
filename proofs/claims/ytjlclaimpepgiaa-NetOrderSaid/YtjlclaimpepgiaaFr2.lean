/-
  frame: read, Frame, Open, Body, Spoil.
-/
import Derived.Test.YtjlclaimpepgiaaFr1
namespace Go.Proofs.Ytjlclaimpepgiaa
open Go Go.RowKit Go.Cx
set_option linter.unusedVariables false
open Crc
def readOf (l : List UInt8) : UInt8 × List UInt8 × Int := match opened l with | [] => (0, [], 11) | m :: xs => (m, xs, 0)
theorem Own.ownS {w : World} {B : Nat} {v : Value} {l : List UInt8} (h : Own w B v l) : OwnS w B v (l.map u8v) := OwnS.of h
theorem ownS_nil {w : World} {B : Nat} : OwnS w B (.slice none 0 0) [] := ⟨Nat.zero_le _, none, 0, rfl, Nat.le_refl _, Nat.zero_le _, .inl rfl⟩
/-- a slice of bytes of one's own -/
def OB (w : World) (B : Nat) (v : Value) (l : List UInt8) : Prop := OwnS w B v (l.map u8v)
theorem OB.bs {w : World} {B : Nat} {v : Value} {l : List UInt8} (h : OB w B v l) : Bs w v l := by have := OwnS.sl h; rwa [List.length_map] at this
theorem OB.bel {w w' : World} {B : Nat} {v : Value} {l : List UInt8} (h : OB w B v l) (hb : Below w.heap.size w w') : OB w' B v l := OwnS.bel h hb
theorem read_ret (w : World) (bv : Value) (l : List UInt8) (hs : Bs w bv l) (hl : l.length ≤ 140737488355328) :
    Ret Try.prog 47 [bv].toArray w fun v w' => (∃ xv, v = .tuple #[.agg #[u8v (readOf l).1, xv], .int .i64 (readOf l).2.2] ∧ One xv = true ∧ OB w' w.heap.size xv (readOf l).2.1) ∧ Below w.heap.size w w' := by
  have hz2 : ∀ w2 : World, ∀ b, Blk w2 b 79 (Value.agg #[Value.int .u8 0, .slice none 0 0]).cells.toList → Blk w2 b 79 [.int .u8 0, .slice none 0 0] := fun _ _ h => h
  have hone : ∀ (m : UInt8) (a : Option Addr) (n c : Nat), ∀ u ∈ [u8v m, Value.slice a n c], One u = true := by
    intro m a n c u hu
    simp only [List.mem_cons, List.mem_nil_iff, or_false] at hu
    rcases hu with rfl | rfl <;> rfl
  by_cases hse : IsSealed l
  · cases hop : opened l with
    | nil =>
      have hro : readOf l = (0, [], 11) := by unfold readOf; rw [hop]
      refine Ret.of (n := 25) (rs := #[.cell 2 79, .tmp 3]) Try.func47 rfl rfl rfl (by simp) ?_
      refine WC.seqR rfl ?_
      refine WL.eex rfl (E.allocX ti79) ?_
      rintro _ w2 ⟨rfl, hB2, hb2⟩
      have k2 := hb2
      refine WL.y rfl (Y.assign) ?_
      refine WL.nil ?_
      refine WC.seqR rfl ?_
      refine WL.y rfl (Y.move) ?_
      refine WL.call rfl (C.func go53) (open_ret bv l _ (hs.bel k2) (by omega)) ?_
      rintro _ w8 ⟨⟨o8, rfl, ho8⟩, hb8⟩
      have k8 := Below.step k2 hb8
      refine WL.y rfl (Y.move) ?_
      refine WL.y rfl (Y.extract rfl rfl) ?_
      refine WL.y rfl (Y.extract rfl (congrArg some (congrArg Value.bool (decide_eq_true hse)))) ?_
      refine WL.y rfl (Y.assign) ?_
      refine WL.y rfl (Y.assign) ?_
      refine WL.nil ?_
      refine WC.seq ?_
      refine WC.seqR rfl ?_
      refine WL.y rfl (Y.move) ?_
      refine WL.y rfl (Y.not rfl) ?_
      refine WL.y rfl (Y.move) ?_
      refine WL.y rfl (Y.move) ?_
      refine WL.y rfl (Y.lenSl Try.underlying32 (ho8.bs) _) ?_
      refine WL.y rfl (Y.dT (Y.eqi rfl rfl) (by rw [hop]; rfl)) ?_
      refine WL.y rfl (Y.pickF rfl) ?_
      refine WL.nil ?_
      have hB8 := (hz2 _ _ hB2).bel hb8
      refine WC.condT (rfl) ?_
      refine WC.seqR rfl ?_
      refine WL.y rfl (Y.build (cells := #[u8v 0, .slice none 0 0]) (by kernel_rfl) _) ?_
      refine WL.eex rfl (E.storeAll (us := [u8v 0, .slice none 0 0]) ti79 rfl rfl (hone 0 none 0 0) hB8 rfl) ?_
      rintro _ w9 ⟨hB9, hg9⟩
      refine WL.y rfl (Y.assign) ?_
      refine WL.nil ?_
      refine WC.ret (thenQ.ret ?_)
      have k9 : Below w.heap.size w w9 := k8.trans (below_of_grown hg9 k8.size (fun k e => by cases e; omega))
      refine endQ.cell2 Try.underlying79 rfl ti79 (.inr rfl) rfl hB9.cells ⟨⟨.slice none 0 0, ?_, rfl, ?_⟩, k9⟩
      · rw [hro]; rfl
      · rw [hro]; exact ownS_nil
    | cons m xs =>
      have hro : readOf l = (m, xs, 0) := by unfold readOf; rw [hop]
      refine Ret.of (n := 25) (rs := #[.cell 2 79, .tmp 3]) Try.func47 rfl rfl rfl (by simp) ?_
      refine WC.seqR rfl ?_
      refine WL.eex rfl (E.allocX ti79) ?_
      rintro _ w2 ⟨rfl, hB2, hb2⟩
      have k2 := hb2
      refine WL.y rfl (Y.assign) ?_
      refine WL.nil ?_
      refine WC.seqR rfl ?_
      refine WL.y rfl (Y.move) ?_
      refine WL.call rfl (C.func go53) (open_ret bv l _ (hs.bel k2) (by omega)) ?_
      rintro _ w8 ⟨⟨o8, rfl, ho8⟩, hb8⟩
      have k8 := Below.step k2 hb8
      refine WL.y rfl (Y.move) ?_
      refine WL.y rfl (Y.extract rfl rfl) ?_
      refine WL.y rfl (Y.extract rfl (congrArg some (congrArg Value.bool (decide_eq_true hse)))) ?_
      refine WL.y rfl (Y.assign) ?_
      refine WL.y rfl (Y.assign) ?_
      refine WL.nil ?_
      refine WC.seq ?_
      refine WC.seqR rfl ?_
      refine WL.y rfl (Y.move) ?_
      refine WL.y rfl (Y.not rfl) ?_
      refine WL.y rfl (Y.move) ?_
      refine WL.y rfl (Y.move) ?_
      refine WL.y rfl (Y.lenSl Try.underlying32 (ho8.bs) _) ?_
      refine WL.y rfl (Y.dF (Y.eqi rfl rfl) (by rw [hop]; simp only [List.length_cons]; omega)) ?_
      refine WL.y rfl (Y.pickF rfl) ?_
      refine WL.nil ?_
      rw [hop] at ho8
      have hB8 := (hz2 _ _ hB2).bel hb8
      have hlt8 : w.heap.size < w2.heap.size := hB2.lt
      have hlm : (m :: xs).length = xs.length + 1 := List.length_cons
      refine WC.condF (rfl) ?_
      refine WC.skip (thenQ.normal ?_)
      refine WC.seq ?_
      refine WC.regionB (fun i => Nat.beq i 6) [(0, .any), (1, .any), (2, .held), (3, .any), (4, .any), (5, .any), (6, .seq), (7, .any)] mixed (by kernel_rfl) (fun wr4 hS4 hheap => ?_)
      have kr4 := Below.step k8 hS4
      refine RL.any rfl rfl (fun _ => Y.move) ?_
      refine RL.yex rfl rfl (Y.idxE 0 Try.underlying32 ti5 (ho8.bs) rfl (by omega) (by omega)) ?_
      rintro _ ⟨b20, o20, rfl, hp20⟩
      refine RL.held rfl rfl hS4 (fun _ hb9 => Y.load1 Try.underlying5 rfl rfl (cell_bel hp20 hb9)) ?_
      refine RL.any rfl rfl (fun _ => Y.move) ?_
      refine RL.yex rfl rfl (Y.sliceFromS 1 Try.underlying32 ti5 ho8.ownS rfl rfl (by simp)) ?_
      rintro v23 ⟨hl23, a23, c23, rfl, hn23, hm23, hr23⟩
      refine RL.any rfl rfl (fun _ => Y.build (cells := #[u8v m, .slice a23 (List.map u8v xs).length c23]) (by kernel_rfl) _) ?_
      refine RL.eex rfl rfl (E.storeAll (us := [u8v m, .slice a23 (List.map u8v xs).length c23]) ti79 rfl rfl (hone _ _ _ _) (hB8.bel hS4) rfl) ?_ ?_
      · exact fun _ _ _ => .inl rfl
      rintro _ w9 ⟨hB9, hg9⟩
      refine RL.any rfl rfl (fun _ => Y.assign) ?_
      refine RL.nil (thenQ.normal ?_)
      refine WC.ret ?_
      have k9 : Below w.heap.size w w9 := kr4.trans (below_of_grown hg9 kr4.size (fun k e => by cases e; omega))
      have hO : OwnS w8 w2.heap.size (.slice a23 (List.map u8v xs).length c23) (xs.map u8v) := ⟨hl23, a23, c23, rfl, hn23, hm23, hr23⟩
      have hO9 : OwnS w9 w2.heap.size (.slice a23 (List.map u8v xs).length c23) (xs.map u8v) := (hO.bel hS4).grownLt hg9 hlt8
      refine endQ.cell2 Try.underlying79 rfl ti79 (.inr rfl) rfl hB9.cells ⟨⟨.slice a23 (List.map u8v xs).length c23, ?_, rfl, ?_⟩, k9⟩
      · rw [hro]; rfl
      · rw [hro]; exact hO9.mono (by omega)
  · have hop : opened l = [] := by unfold opened; rw [if_neg hse]
    have hro : readOf l = (0, [], 11) := by unfold readOf; rw [hop]
    refine Ret.of (n := 25) (rs := #[.cell 2 79, .tmp 3]) Try.func47 rfl rfl rfl (by simp) ?_
    refine WC.seqR rfl ?_
    refine WL.eex rfl (E.allocX ti79) ?_
    rintro _ w2 ⟨rfl, hB2, hb2⟩
    have k2 := hb2
    refine WL.y rfl (Y.assign) ?_
    refine WL.nil ?_
    refine WC.seqR rfl ?_
    refine WL.y rfl (Y.move) ?_
    refine WL.call rfl (C.func go53) (open_ret bv l _ (hs.bel k2) (by omega)) ?_
    rintro _ w8 ⟨⟨o8, rfl, ho8⟩, hb8⟩
    have k8 := Below.step k2 hb8
    refine WL.y rfl (Y.move) ?_
    refine WL.y rfl (Y.extract rfl rfl) ?_
    refine WL.y rfl (Y.extract rfl (congrArg some (congrArg Value.bool (decide_eq_false hse)))) ?_
    refine WL.y rfl (Y.assign) ?_
    refine WL.y rfl (Y.assign) ?_
    refine WL.nil ?_
    refine WC.seq ?_
    refine WC.seqR rfl ?_
    refine WL.y rfl (Y.move) ?_
    refine WL.y rfl (Y.not rfl) ?_
    refine WL.y rfl (Y.move) ?_
    refine WL.off rfl ?_
    refine WL.off rfl ?_
    refine WL.off rfl ?_
    refine WL.y rfl (Y.pickT rfl) ?_
    refine WL.nil ?_
    have hB8 := (hz2 _ _ hB2).bel hb8
    refine WC.condT (rfl) ?_
    refine WC.seqR rfl ?_
    refine WL.y rfl (Y.build (cells := #[u8v 0, .slice none 0 0]) (by kernel_rfl) _) ?_
    refine WL.eex rfl (E.storeAll (us := [u8v 0, .slice none 0 0]) ti79 rfl rfl (hone 0 none 0 0) hB8 rfl) ?_
    rintro _ w9 ⟨hB9, hg9⟩
    refine WL.y rfl (Y.assign) ?_
    refine WL.nil ?_
    refine WC.ret (thenQ.ret ?_)
    have k9 : Below w.heap.size w w9 := k8.trans (below_of_grown hg9 k8.size (fun k e => by cases e; omega))
    refine endQ.cell2 Try.underlying79 rfl ti79 (.inr rfl) rfl hB9.cells ⟨⟨.slice none 0 0, ?_, rfl, ?_⟩, k9⟩
    · rw [hro]; rfl
    · rw [hro]; exact ownS_nil
end Go.Proofs.Ytjlclaimpepgiaa
