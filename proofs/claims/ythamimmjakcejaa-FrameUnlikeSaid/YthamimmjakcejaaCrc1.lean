/-
  What the reference's functions of chapter 15 compute: walks.
-/
import Derived.Test.YthamimmjakcejaaBase4
import Derived.Test.YthamimmjakcejaaFacts
import Derived.Test.YthamimmjakcejaaCrc0
namespace Go.Proofs.Ythamimmjakcejaa
open Go Go.RowKit Go.Cx
set_option linter.unusedVariables false
open Crc
abbrev Bs (w : World) (v : Value) (l : List UInt8) : Prop := SlK w 1 v l.length (l.map u8v)

/- commonplaceref15.go1 -/
theorem odd_eq (r : BitVec 32) (b : Nat) (hb : b < 2) : (r ^^^ BitVec.ofNat 32 b).getLsbD 0 = decide ((r.toNat : Int) % 2 ≠ (b : Int)) := by
  rw [BitVec.getLsbD_xor]
  have h1 : r.getLsbD 0 = decide (r.toNat % 2 = 1) := by simp [BitVec.getLsbD, Nat.testBit_zero]
  have h2 : (BitVec.ofNat 32 b).getLsbD 0 = decide (b = 1) := by
    have : b = 0 ∨ b = 1 := by omega
    rcases this with rfl | rfl <;> decide
  rw [h1, h2]
  have : r.toNat % 2 = 0 ∨ r.toNat % 2 = 1 := by omega
  have : b = 0 ∨ b = 1 := by omega
  by_cases h3 : r.toNat % 2 = 1 <;> by_cases h4 : b = 1 <;> simp [h3, h4] <;> omega
theorem shr_xor_bit (r : BitVec 32) (b : Nat) (hb : b < 2) : (r ^^^ BitVec.ofNat 32 b) >>> 1 = r >>> 1 := by
  rw [BitVec.ushiftRight_xor_distrib]
  have : (BitVec.ofNat 32 b) >>> 1 = 0 := by
    have : b = 0 ∨ b = 1 := by omega
    rcases this with rfl | rfl <;> decide
  rw [this]; simp
theorem half_val (r : BitVec 32) : Value.int .u32 ((r.toNat : Int) / 2) = u32v (r >>> 1) := by
  unfold u32v
  rw [BitVec.toNat_ushiftRight, Nat.shiftRight_eq_div_pow]; rfl
theorem go1_ret (r : BitVec 32) (b : Nat) (w : World) (hb : b < 2) :
    Ret Try.prog 39 [u32v r, .int .u32 (b : Int)].toArray w fun v w' => v = u32v (Crc.step (r ^^^ BitVec.ofNat 32 b)) ∧ Below w.heap.size w w' := by
  have hr := r.isLt
  have ho := odd_eq r b hb
  have hs := shr_xor_bit r b hb
  refine Ret.of (n := 16) (rs := #[.tmp 4]) Try.func39 rfl rfl rfl (by simp) ?_
  refine WC.seqR rfl ?_
  refine WL.y rfl (Y.assign) ?_
  refine WL.nil ?_
  refine WC.seqR rfl ?_
  refine WL.y rfl (Y.move) ?_
  refine WL.y rfl (Y.rem rfl rfl (by omega) (by omega)) ?_
  refine WL.y rfl (Y.move) ?_
  refine WL.y rfl (Y.nei rfl rfl) ?_
  refine WL.y rfl (Y.assign) ?_
  refine WL.nil ?_
  refine WC.seqR rfl ?_
  refine WL.y rfl (Y.move) ?_
  refine WL.y rfl (Y.quoU32 rfl rfl (by omega) (by omega)) ?_
  refine WL.y rfl (Y.assign) ?_
  refine WL.nil ?_
  refine WC.seq ?_
  refine WC.seqR rfl ?_
  refine WL.y rfl (Y.move) ?_
  refine WL.nil ?_
  refine WC.cond rfl (fun hc => ?_) (fun hc => ?_)
  · refine WC.region rfl ?_
    refine WL.y rfl (Y.move) ?_
    refine WL.y rfl (Y.xorU32 (a := r >>> 1) (b := poly) (half_val r) rfl) ?_
    refine WL.y rfl (Y.assign) ?_
    refine WL.nil (thenQ.normal ?_)
    refine WC.seqR rfl ?_
    refine WL.y rfl (Y.move) ?_
    refine WL.y rfl (Y.assign) ?_
    refine WL.nil ?_
    refine WC.ret (endQ.one (.inr rfl) ?_)
    refine ⟨?_, Below.refl _ _⟩
    show u32v (r >>> 1 ^^^ poly) = _
    unfold Crc.step
    rw [ho, hc, hs]; rfl
  · refine WC.skip (thenQ.normal ?_)
    refine WC.seqR rfl ?_
    refine WL.y rfl (Y.move) ?_
    refine WL.y rfl (Y.assign) ?_
    refine WL.nil ?_
    refine WC.ret (endQ.one (.inr rfl) ?_)
    refine ⟨?_, Below.refl _ _⟩
    show Value.int .u32 ((r.toNat : Int) / 2) = _
    rw [half_val]
    unfold Crc.step
    rw [ho, hc, hs]; rfl

theorem not_val (s : BitVec 32) : Value.int .u32 (4294967295 - (s.toNat : Int)) = u32v (~~~ s) := by
  unfold u32v
  have := s.isLt
  rw [BitVec.toNat_not]
  apply int_eq; omega
/- commonplaceref15.More -/
theorem refMore_ret (s : BitVec 32) (bv : Value) (l : List UInt8) (w : World) (hs : Bs w bv l) :
    Ret Try.prog 36 [u32v s, bv].toArray w fun v w' => v = u32v (more s l) ∧ Below w.heap.size w w' := by
  have hr := s.isLt
  have hlen := hs.len
  refine Ret.of (n := 34) (rs := #[.tmp 4]) Try.func36 rfl rfl rfl (by simp) ?_
  refine WC.seqR rfl ?_
  refine WL.y rfl (Y.assign) ?_
  refine WL.nil ?_
  refine WC.seqR rfl ?_
  refine WL.y rfl (Y.move) ?_
  refine WL.y rfl (Y.subU32 rfl rfl (by omega)) ?_
  refine WL.y rfl (Y.assign) ?_
  refine WL.nil ?_
  refine WC.seq ?_
  refine WC.seqR rfl ?_
  refine WL.y rfl (Y.assign) ?_
  refine WL.nil ?_
  refine WC.block ?_
  refine WC.loop (fun i => l.length - i) (fun i f ds w' => i ≤ l.length ∧ ds = [] ∧ Below w.heap.size w w' ∧ ∃ J, f = ov J [(1, bv), (5, u32v (reg (~~~ s) (l.take i))), (6, .int .i64 (i : Int))]) 0 ?_ ?_
  · exact ⟨by omega, rfl, Below.refl _ _, _, ov_mk ⟨rfl, not_val s, rfl, trivial⟩⟩
  · rintro i _ _ w1 ⟨hi, rfl, hb, J, rfl⟩
    refine WC.seq ?_
    refine WC.seqR rfl ?_
    refine WL.y rfl (Y.move) ?_
    refine WL.y rfl (Y.move) ?_
    refine WL.y rfl (Y.lenSl Try.underlying22 (hs.bel hb) _) ?_
    refine WL.y rfl (Y.lss rfl rfl) ?_
    refine WL.nil ?_
    refine WC.condD rfl (fun hc => ?_) (fun hc => ?_)
    · have hb1 : Bs w1 bv l := hs.bel hb
      have hc0 := (l.getD i 0).toNat_lt
      refine WC.skip (thenQ.normal ?_)
      refine WC.seq ?_
      refine WC.block ?_
      refine WC.seqR rfl ?_
      refine WL.y rfl (Y.move) ?_
      refine WL.y rfl (Y.move) ?_
      refine WL.yex rfl (Y.idxE 0 Try.underlying22 ti5 (hb1) rfl (by omega) (by omega)) ?_
      rintro _ ⟨b19, o19, rfl, hp19⟩
      refine WL.y rfl (Y.load1 Try.underlying5 rfl rfl (hp19)) ?_
      refine WL.y rfl (Y.conviR Try.underlying5 Try.underlying56 rfl (by have e1 : IntKind.u32.min = 0 := rfl; have e2 : IntKind.u32.max = 4294967295 := rfl; simp only [Int.toNat_natCast]; omega)) ?_
      refine WL.y rfl (Y.assign) ?_
      refine WL.nil ?_
      refine WC.seqR rfl ?_
      refine WL.y rfl (Y.assign) ?_
      refine WL.nil ?_
      refine WC.block ?_
      refine WC.loop (fun k => 8 - k) (fun k f ds w' => k ≤ 8 ∧ ds = [] ∧ Below w.heap.size w w' ∧ ∃ J, f = ov J [(1, bv), (5, u32v (rk (reg (~~~ s) (l.take i)) (l.getD i 0) k)), (6, .int .i64 (i : Int)), (7, .int .u32 (cq (l.getD i 0) k : Int)), (8, .int .i64 (k : Int))]) 0 ?_ ?_
      · refine ⟨by omega, rfl, hb, _, ov_mk ⟨rfl, ?_, rfl, ?_, rfl, trivial⟩⟩
        · rw [rk_zero]; rfl
        · rw [cq_zero]; rfl
      · rintro k _ _ w2 ⟨hk, rfl, hb2, J, rfl⟩
        have hq := cq_lt (l.getD i 0) k
        refine WC.seq ?_
        refine WC.seqR rfl ?_
        refine WL.y rfl (Y.move) ?_
        refine WL.y rfl (Y.lss rfl rfl) ?_
        refine WL.nil ?_
        refine WC.condD rfl (fun hc2 => ?_) (fun hc2 => ?_)
        · refine WC.skip (thenQ.normal ?_)
          refine WC.seq ?_
          refine WC.block ?_
          refine WC.seqR rfl ?_
          refine WL.y rfl (Y.move) ?_
          refine WL.y rfl (Y.move) ?_
          refine WL.y rfl (Y.rem rfl rfl (by omega) (by omega)) ?_
          refine WL.call rfl (C.func go39) (go1_ret (rk (reg (~~~ s) (l.take i)) (l.getD i 0) k) (cq (l.getD i 0) k % 2) _ (by omega)) ?_
          rintro _ w3 ⟨rfl, hb3⟩
          refine WL.y rfl (Y.assign) ?_
          refine WL.nil ?_
          refine WC.region rfl ?_
          refine WL.y rfl (Y.move) ?_
          refine WL.y rfl (Y.quoU32 rfl rfl (by omega) (by omega)) ?_
          refine WL.y rfl (Y.assign) ?_
          refine WL.nil (inBlockQ.normal (thenQ.normal ?_))
          refine WC.region rfl ?_
          refine WL.y rfl (Y.move) ?_
          refine WL.y rfl (Y.add64 rfl rfl (by omega)) ?_
          refine WL.y rfl (Y.assign) ?_
          refine WL.nil (thenQ.normal ?_)
          refine ⟨k + 1, by omega, by omega, rfl, Below.step hb2 hb3, _, ov_mk ⟨rfl, ?_, rfl, ?_, rfl, trivial⟩⟩
          · rw [← rk_succ']; rfl
          · apply int_eq
            rw [cq_succ]; rfl
        · refine WC.exit (thenQ.exit (thenQ.exit (inBlockQ.hit (inBlockQ.normal (thenQ.normal ?_)))))
          refine WC.region rfl ?_
          refine WL.y rfl (Y.move) ?_
          refine WL.y rfl (Y.add64 rfl rfl (by omega)) ?_
          refine WL.y rfl (Y.assign) ?_
          refine WL.nil (thenQ.normal ?_)
          have hk8 : k = 8 := by omega
          subst hk8
          refine ⟨i + 1, by omega, by omega, rfl, hb2, _, ov_mk ⟨rfl, ?_, rfl, trivial⟩⟩
          rw [reg_take_succ _ _ _ (by omega), ← rk_eight]; rfl
    · refine WC.exit (thenQ.exit (thenQ.exit (inBlockQ.hit (thenQ.normal ?_))))
      refine WC.seqR rfl ?_
      refine WL.y rfl (Y.move) ?_
      refine WL.y rfl (Y.subU32 rfl rfl (by omega)) ?_
      refine WL.y rfl (Y.assign) ?_
      refine WL.nil ?_
      refine WC.ret (endQ.one (.inr rfl) ?_)
      have hi2 : i = l.length := by omega
      subst hi2
      refine ⟨?_, hb⟩
      show Value.int .u32 (4294967295 - ((reg (~~~ s) (l.take l.length)).toNat : Int)) = _
      rw [not_val, List.take_length]; rfl

/- commonplaceref15.Sum -/
theorem refSum_ret (bv : Value) (l : List UInt8) (w : World) (hs : Bs w bv l) :
    Ret Try.prog 33 [bv].toArray w fun v w' => v = u32v (sum l) ∧ Below w.heap.size w w' := by
  refine Ret.of (n := 5) (rs := #[.tmp 2]) Try.func33 rfl rfl rfl (by simp) ?_
  refine WC.seqR rfl ?_
  refine WL.y rfl (Y.assign) ?_
  refine WL.nil ?_
  refine WC.seqR rfl ?_
  refine WL.y rfl (Y.move) ?_
  refine WL.call rfl (C.func go36) (refMore_ret 0 bv l _ hs) ?_
  rintro _ w1 ⟨rfl, hb1⟩
  refine WL.y rfl (Y.assign) ?_
  refine WL.nil ?_
  refine WC.ret (endQ.one (.inr rfl) ?_)
  exact ⟨rfl, hb1⟩
/- commonplacelaw15.own -/
/-- new bytes of the call's own -/
def Own (w : World) (B : Nat) (v : Value) (l : List UInt8) : Prop := w.ownsRow B 5 1 v l.length (l.map u8v)
theorem Own.bs {w : World} {B : Nat} {v : Value} {l : List UInt8} (h : Own w B v l) : Bs w v l := ownsRow_sl h
theorem Own.bel {w w' : World} {B : Nat} {v : Value} {l : List UInt8} (h : Own w B v l) (hb : Below w.heap.size w w') : Own w' B v l := ownsRow_bel h hb
theorem one_u8 (l : List UInt8) : ∀ u ∈ l.map u8v, One u = true := by
  intro u hu
  obtain ⟨c, _, rfl⟩ := List.mem_map.1 hu
  rfl
theorem own_ret (bv : Value) (l : List UInt8) (w : World) (hs : Bs w bv l) (hl : l.length ≤ 140737488355328) :
    Ret Try.prog 11 [bv].toArray w fun v w' => Own w' w.heap.size v l ∧ Below w.heap.size w w' := by
  refine Ret.of (n := 5) (rs := #[.tmp 2]) Try.func11 rfl rfl rfl (by simp) ?_
  refine WC.seqR rfl ?_
  refine WL.y rfl (Y.assign) ?_
  refine WL.nil ?_
  refine WC.seqR rfl ?_
  refine WL.y rfl (Y.move) ?_
  refine WL.eex rfl (E.append Try.underlying22 ti5 rfl (by decide) (World.ownsRow_nil w w.heap.size _ 1) hs (one_u8 l) (by omega) (by have := hs.2.1; omega) (Nat.le_refl _)) ?_
  rintro v w1 ⟨ho, hb1, -⟩
  refine WL.y rfl (Y.assign) ?_
  refine WL.nil ?_
  refine WC.ret (endQ.one (.inr rfl) ?_)
  rw [Nat.zero_add, List.nil_append] at ho
  exact ⟨ho, hb1⟩
/- commonplaceref15.Same -/
theorem same_ret (av bv : Value) (a b : List UInt8) (w : World) (ha : Bs w av a) (hb : Bs w bv b) :
    Ret Try.prog 13 [av, bv].toArray w fun v w' => v = .bool (decide (a = b)) ∧ Below w.heap.size w w' := by
  have hla := ha.len
  have hlb := hb.len
  refine Ret.of (n := 26) (rs := #[.tmp 4]) Try.func13 rfl rfl rfl (by simp) ?_
  refine WC.seqR rfl ?_
  refine WL.y rfl (Y.assign) ?_
  refine WL.nil ?_
  refine WC.seq ?_
  refine WC.seqR rfl ?_
  refine WL.y rfl (Y.move) ?_
  refine WL.y rfl (Y.lenSl Try.underlying22 (ha) _) ?_
  refine WL.y rfl (Y.move) ?_
  refine WL.y rfl (Y.lenSl Try.underlying22 (hb) _) ?_
  refine WL.y rfl (Y.nei rfl rfl) ?_
  refine WL.nil ?_
  refine WC.condD rfl (fun hne => ?_) (fun hne => ?_)
  · refine WC.seqR rfl ?_
    refine WL.y rfl (Y.assign) ?_
    refine WL.nil ?_
    refine WC.ret (thenQ.ret (endQ.one (.inr rfl) ?_))
    exact ⟨(congrArg Value.bool (decide_eq_false fun e => hne (by rw [e]))).symm, Below.refl _ _⟩
  · refine WC.skip (thenQ.normal ?_)
    refine WC.seq ?_
    refine WC.seqR rfl ?_
    refine WL.y rfl (Y.assign) ?_
    refine WL.nil ?_
    refine WC.block ?_
    have hlen : a.length = b.length := by omega
    refine WC.loop (fun i => a.length - i) (fun i f ds w' => i ≤ a.length ∧ a.take i = b.take i ∧ ds = [] ∧ Below w.heap.size w w' ∧ ∃ J, f = ov J [(0, av), (1, bv), (5, .int .i64 (i : Int))]) 0 ?_ ?_
    · exact ⟨by omega, by simp, rfl, Below.refl _ _, _, ov_mk ⟨rfl, rfl, rfl, trivial⟩⟩
    · rintro i _ _ w1 ⟨hi, he, rfl, hb1, J, rfl⟩
      refine WC.seq ?_
      refine WC.seqR rfl ?_
      refine WL.y rfl (Y.move) ?_
      refine WL.y rfl (Y.move) ?_
      refine WL.y rfl (Y.lenSl Try.underlying22 (ha.bel hb1) _) ?_
      refine WL.y rfl (Y.lss rfl rfl) ?_
      refine WL.nil ?_
      refine WC.condD rfl (fun hc => ?_) (fun hc => ?_)
      · have ha1 : Bs w1 av a := ha.bel hb1
        have hbb1 : Bs w1 bv b := hb.bel hb1
        refine WC.skip (thenQ.normal ?_)
        refine WC.seq ?_
        refine WC.block ?_
        refine WC.seq ?_
        refine WC.regionB (fun _ => false) [(0, .any), (1, .any), (2, .any), (3, .held), (4, .any), (5, .any), (6, .any), (7, .held), (8, .any)] mixed (by kernel_rfl) (fun w6 hS hheap => ?_)
        refine RL.any rfl rfl (fun _ => Y.move) ?_
        refine RL.any rfl rfl (fun _ => Y.move) ?_
        refine RL.yex rfl rfl (Y.idxE 0 Try.underlying22 ti5 (ha1) rfl (by omega) (by omega)) ?_
        rintro _ ⟨b19, o19, rfl, hp19⟩
        refine RL.held rfl rfl hS (fun _ hb9 => Y.load1 Try.underlying5 rfl rfl (cell_bel hp19 hb9)) ?_
        refine RL.any rfl rfl (fun _ => Y.move) ?_
        refine RL.any rfl rfl (fun _ => Y.move) ?_
        refine RL.yex rfl rfl (Y.idxE 0 Try.underlying22 ti5 (hbb1) rfl (by omega) (by omega)) ?_
        rintro _ ⟨b23, o23, rfl, hp23⟩
        refine RL.held rfl rfl hS (fun _ hb9 => Y.load1 Try.underlying5 rfl rfl (cell_bel hp23 hb9)) ?_
        refine RL.any rfl rfl (fun _ => Y.nei rfl rfl) ?_
        refine RL.nil (thenQ.normal ?_)
        refine WC.condD rfl (fun hne => ?_) (fun hne => ?_)
        · refine WC.seqR rfl ?_
          refine WL.y rfl (Y.assign) ?_
          refine WL.nil ?_
          refine WC.ret (inBlockQ.ret (thenQ.ret (thenQ.ret (inBlockQ.ret (thenQ.ret (endQ.one (.inr rfl) ?_))))))
          exact ⟨(congrArg Value.bool (decide_eq_false fun e => hne (by subst e; rfl))).symm, Below.step hb1 hS⟩
        · refine WC.skip (inBlockQ.normal (thenQ.normal ?_))
          refine WC.region rfl ?_
          refine WL.y rfl (Y.move) ?_
          refine WL.y rfl (Y.add64 rfl rfl (by omega)) ?_
          refine WL.y rfl (Y.assign) ?_
          refine WL.nil (thenQ.normal ?_)
          refine ⟨i + 1, by omega, by omega, ?_, rfl, Below.step hb1 hS, _, ov_mk ⟨rfl, rfl, rfl, trivial⟩⟩
          rw [List.take_succ_eq_append_getElem (by omega), List.take_succ_eq_append_getElem (by omega), he]
          congr 1
          simp only [Int.toNat_natCast, Decidable.not_not] at hne
          have h3 : a.getD i 0 = b.getD i 0 := UInt8.toNat_inj.mp (by omega)
          simp only [List.getD_eq_getElem?_getD, List.getElem?_eq_getElem (show i < a.length by omega), List.getElem?_eq_getElem (show i < b.length by omega), Option.getD_some] at h3
          rw [h3]
      · refine WC.exit (thenQ.exit (thenQ.exit (inBlockQ.hit (thenQ.normal ?_))))
        refine WC.seqR rfl ?_
        refine WL.y rfl (Y.assign) ?_
        refine WL.nil ?_
        refine WC.ret (endQ.one (.inr rfl) ?_)
        have hi2 : i = a.length := by omega
        subst hi2
        rw [List.take_length, hlen, List.take_length] at he
        exact ⟨(congrArg Value.bool (decide_eq_true he)).symm, hb1⟩

/- commonplaceref15.Seal -/
theorem leb_val (s : BitVec 32) (k : Nat) : Value.int .u8 ((sq s k : Int) % 256) = u8v (leb s k) := by
  apply int_eq
  rw [leb_toNat]; rfl
theorem le4_take_succ (s : BitVec 32) (k : Nat) (h : k < 4) : (le4 s).take (k + 1) = (le4 s).take k ++ [leb s k] := by
  have : k = 0 ∨ k = 1 ∨ k = 2 ∨ k = 3 := by omega
  rcases this with rfl | rfl | rfl | rfl <;> rfl
theorem le4_len (s : BitVec 32) : (le4 s).length = 4 := rfl
theorem sealed_len (l : List UInt8) : (sealed l).length = l.length + 4 := by simp [sealed, le4]
theorem refSeal_ret (bv : Value) (l : List UInt8) (w : World) (hs : Bs w bv l) (hl : l.length + 4 ≤ 140737488355328) :
    Ret Try.prog 24 [bv].toArray w fun v w' => Own w' w.heap.size v (sealed l) ∧ Below w.heap.size w w' := by
  have hmx : maxLen = 9223372036854775807 := rfl
  refine Ret.of (n := 24) (rs := #[.tmp 2]) Try.func24 rfl rfl rfl (by simp) ?_
  refine WC.seqR rfl ?_
  refine WL.y rfl (Y.assign) ?_
  refine WL.nil ?_
  refine WC.seqR rfl ?_
  refine WL.y rfl (Y.assign) ?_
  refine WL.nil ?_
  refine WC.seqR rfl ?_
  refine WL.y rfl (Y.move) ?_
  refine WL.y rfl (Y.move) ?_
  refine WL.eex rfl (E.append Try.underlying22 ti5 rfl (by decide) (World.ownsRow_nil w w.heap.size _ 1) hs (one_u8 l) (by omega) (by omega) (Nat.le_refl _)) ?_
  rintro v8 w1 ⟨ho8, hb1, -⟩
  refine WL.y rfl (Y.assign) ?_
  refine WL.nil ?_
  refine WC.seqR rfl ?_
  refine WL.y rfl (Y.move) ?_
  refine WL.call rfl (C.func go33) (refSum_ret bv l _ (hs.bel hb1)) ?_
  rintro _ w2 ⟨rfl, hb2⟩
  refine WL.y rfl (Y.assign) ?_
  refine WL.nil ?_
  refine WC.seq ?_
  refine WC.seqR rfl ?_
  refine WL.y rfl (Y.assign) ?_
  refine WL.nil ?_
  refine WC.block ?_
  rw [Nat.zero_add, List.nil_append] at ho8
  have hown2 : Own w2 w.heap.size v8 (l ++ (le4 (sum l)).take 0) := by
    have : Own w1 w.heap.size v8 l := ho8
    rw [List.take_zero, List.append_nil]; exact this.bel hb2
  refine WC.loop (fun k => 4 - k) (fun k f ds w' => k ≤ 4 ∧ ds = [] ∧ Below w.heap.size w w' ∧ ∃ J v, f = ov J [(3, v), (4, .int .u32 (sq (sum l) k : Int)), (5, .int .i64 (k : Int))] ∧ Own w' w.heap.size v (l ++ (le4 (sum l)).take k)) 0 ?_ ?_
  · refine ⟨by omega, rfl, Below.step hb1 hb2, _, v8, ov_mk ⟨rfl, ?_, rfl, trivial⟩, hown2⟩
    rw [sq_zero]; rfl
  · rintro k _ _ w3 ⟨hk, rfl, hb3, J, v3, rfl, hown⟩
    have hq := sq_lt (sum l) k
    refine WC.seq ?_
    refine WC.seqR rfl ?_
    refine WL.y rfl (Y.move) ?_
    refine WL.y rfl (Y.lss rfl rfl) ?_
    refine WL.nil ?_
    refine WC.condD rfl (fun hc => ?_) (fun hc => ?_)
    · have hlen : (l ++ (le4 (sum l)).take k).length = l.length + k := by rw [List.length_append, List.length_take, le4_len]; omega
      have hown' : w3.ownsRow w.heap.size 5 1 v3 (l.length + k) ((l ++ (le4 (sum l)).take k).map u8v) := by rw [← hlen]; exact hown
      refine WC.skip (thenQ.normal ?_)
      refine WC.seq ?_
      refine WC.block ?_
      refine WC.seqR rfl ?_
      refine WL.y rfl (Y.move) ?_
      refine WL.y rfl (Y.move) ?_
      refine WL.y rfl (Y.rem rfl rfl (by omega) (by omega)) ?_
      refine WL.y rfl (Y.conviR Try.underlying56 Try.underlying5 rfl (by have e1 : IntKind.u8.min = 0 := rfl; have e2 : IntKind.u8.max = 255 := rfl; omega)) ?_
      refine WL.eex rfl (E.build1 Try.underlying22 ti5 rfl rfl rfl) ?_
      rintro v19 w19 ⟨hs19, hb19, _⟩
      refine WL.eex rfl (E.append Try.underlying22 ti5 rfl (by decide) (ownsRow_bel hown' hb19) hs19 (by intro u hu; simp only [List.mem_singleton] at hu; subst hu; rfl) (by omega) (by omega) (Nat.le_trans hb3.size hb19.size)) ?_
      rintro v20 w20 ⟨ho20, hb20, -⟩
      refine WL.y rfl (Y.assign) ?_
      refine WL.nil ?_
      refine WC.region rfl ?_
      refine WL.y rfl (Y.move) ?_
      refine WL.y rfl (Y.quoU32 rfl rfl (by omega) (by omega)) ?_
      refine WL.y rfl (Y.assign) ?_
      refine WL.nil (inBlockQ.normal (thenQ.normal ?_))
      refine WC.region rfl ?_
      refine WL.y rfl (Y.move) ?_
      refine WL.y rfl (Y.add64 rfl rfl (by omega)) ?_
      refine WL.y rfl (Y.assign) ?_
      refine WL.nil (thenQ.normal ?_)
      have hown20 : Own w20 w.heap.size v20 (l ++ (le4 (sum l)).take (k + 1)) := by
        unfold Own
        rw [le4_take_succ _ _ (by omega), ← List.append_assoc, List.length_append, hlen, List.map_append, List.map_cons, List.map_nil, ← leb_val]
        exact ho20
      refine ⟨k + 1, by omega, by omega, rfl, (Below.step hb3 hb19).trans hb20, _, v20, ov_mk ⟨rfl, ?_, rfl, trivial⟩, hown20⟩
      apply int_eq; rw [sq_succ]; rfl
    · refine WC.exit (thenQ.exit (thenQ.exit (inBlockQ.hit (thenQ.normal ?_))))
      refine WC.seqR rfl ?_
      refine WL.y rfl (Y.move) ?_
      refine WL.y rfl (Y.assign) ?_
      refine WL.nil ?_
      refine WC.ret (endQ.one (.inr rfl) ?_)
      have hk4 : k = 4 := by omega
      subst hk4
      exact ⟨hown, hb3⟩

/- commonplaceref15.Open -/
def OpenRes (Q : World → Value → List UInt8 → Prop) (l : List UInt8) (v : Value) (w' : World) : Prop :=
  ∃ o, v = .tuple #[o, .bool (decide (IsSealed l))] ∧ Q w' o (opened l)
theorem OpenRes.no {Q : World → Value → List UInt8 → Prop} {l : List UInt8} {w' : World} (h : ¬ IsSealed l) (hq : Q w' (.slice none 0 0) []) : OpenRes Q l (.tuple #[.slice none 0 0, .bool false]) w' :=
  ⟨_, by rw [decide_eq_false h], by unfold opened; rw [if_neg h]; exact hq⟩
theorem OpenRes.yes {Q : World → Value → List UInt8 → Prop} {l : List UInt8} {w' : World} {o : Value} (h : IsSealed l) (hq : Q w' o (body l)) : OpenRes Q l (.tuple #[o, .bool true]) w' :=
  ⟨_, by rw [decide_eq_true h], by unfold opened; rw [if_pos h]; exact hq⟩
theorem refOpen_ret (bv : Value) (l : List UInt8) (w : World) (hs : Bs w bv l) (hl : l.length ≤ 140737488355328) :
    Ret Try.prog 29 [bv].toArray w fun v w' => OpenRes Bs l v w' ∧ Below w.heap.size w w' := by
  have hln := hs.len
  have hnil : Bs w (.slice none 0 0) [] := SlK.nil
  by_cases h4 : l.length < 4
  · refine Ret.of (n := 23) (rs := #[.tmp 2, .tmp 3]) Try.func29 rfl rfl rfl (by simp) ?_
    refine WC.seqR rfl ?_
    refine WL.y rfl (Y.assign) ?_
    refine WL.y rfl (Y.assign) ?_
    refine WL.nil ?_
    refine WC.seq ?_
    refine WC.seqR rfl ?_
    refine WL.y rfl (Y.move) ?_
    refine WL.y rfl (Y.lenSl Try.underlying22 (hs) _) ?_
    refine WL.y rfl (Y.dT (Y.lss rfl rfl) (by omega)) ?_
    refine WL.y rfl (Y.move) ?_
    refine WL.off rfl ?_
    refine WL.off rfl ?_
    refine WL.off rfl ?_
    refine WL.off rfl ?_
    refine WL.off rfl ?_
    refine WL.off rfl ?_
    refine WL.off rfl ?_
    refine WL.off rfl ?_
    refine WL.off rfl ?_
    refine WL.y rfl (Y.pickT rfl) ?_
    refine WL.nil ?_
    refine WC.condT (rfl) ?_
    refine WC.seqR rfl ?_
    refine WL.y rfl (Y.assign) ?_
    refine WL.y rfl (Y.assign) ?_
    refine WL.nil ?_
    refine WC.ret (thenQ.ret (endQ.two (.inr rfl) ?_))
    exact ⟨OpenRes.no (fun h => by have := h.1; omega) hnil, Below.refl _ _⟩
  · by_cases hse : sealed (body l) = l
    · refine Ret.of (n := 23) (rs := #[.tmp 2, .tmp 3]) Try.func29 rfl rfl rfl (by simp) ?_
      refine WC.seqR rfl ?_
      refine WL.y rfl (Y.assign) ?_
      refine WL.y rfl (Y.assign) ?_
      refine WL.nil ?_
      refine WC.seq ?_
      refine WC.seqR rfl ?_
      refine WL.y rfl (Y.move) ?_
      refine WL.y rfl (Y.lenSl Try.underlying22 (hs) _) ?_
      refine WL.y rfl (Y.dF (Y.lss rfl rfl) (by omega)) ?_
      refine WL.y rfl (Y.move) ?_
      refine WL.y rfl (Y.move) ?_
      refine WL.y rfl (Y.move) ?_
      refine WL.y rfl (Y.lenSl Try.underlying22 (hs) _) ?_
      refine WL.y rfl (Y.sub64 rfl rfl (by omega)) ?_
      refine WL.yex rfl (Y.sliceTo (l.length - 4) Try.underlying22 ti5 (hs) rfl (by omega) (by omega)) ?_
      rintro v12 hs12
      refine WL.call rfl (C.func go24) (refSeal_ret v12 (body l) _ hs12 (by unfold body; simp; omega)) ?_
      rintro v13 w13 ⟨ho13, hb13⟩
      refine WL.y rfl (Y.move) ?_
      refine WL.call rfl (C.func go13) ((same_ret v13 bv (sealed (body l)) l _ ho13.bs (hs.bel hb13)).yes hse) ?_
      rintro _ w15 ⟨rfl, hb15⟩
      refine WL.y rfl (Y.not rfl) ?_
      refine WL.y rfl (Y.pickF rfl) ?_
      refine WL.nil ?_
      have hb := Below.step hb13 hb15
      have hs15 : Bs w15 bv l := hs.bel hb
      refine WC.condF (rfl) ?_
      refine WC.skip (thenQ.normal ?_)
      refine WC.seqR rfl ?_
      refine WL.y rfl (Y.move) ?_
      refine WL.y rfl (Y.move) ?_
      refine WL.y rfl (Y.lenSl Try.underlying22 (hs15) _) ?_
      refine WL.y rfl (Y.sub64 rfl rfl (by omega)) ?_
      refine WL.yex rfl (Y.sliceTo (l.length - 4) Try.underlying22 ti5 (hs15) rfl (by omega) (by omega)) ?_
      rintro v22 hs22
      refine WL.y rfl (Y.assign) ?_
      refine WL.y rfl (Y.assign) ?_
      refine WL.nil ?_
      refine WC.ret (endQ.two (.inr rfl) ?_)
      exact ⟨OpenRes.yes ⟨by omega, hse⟩ hs22, hb⟩
    · refine Ret.of (n := 23) (rs := #[.tmp 2, .tmp 3]) Try.func29 rfl rfl rfl (by simp) ?_
      refine WC.seqR rfl ?_
      refine WL.y rfl (Y.assign) ?_
      refine WL.y rfl (Y.assign) ?_
      refine WL.nil ?_
      refine WC.seq ?_
      refine WC.seqR rfl ?_
      refine WL.y rfl (Y.move) ?_
      refine WL.y rfl (Y.lenSl Try.underlying22 (hs) _) ?_
      refine WL.y rfl (Y.dF (Y.lss rfl rfl) (by omega)) ?_
      refine WL.y rfl (Y.move) ?_
      refine WL.y rfl (Y.move) ?_
      refine WL.y rfl (Y.move) ?_
      refine WL.y rfl (Y.lenSl Try.underlying22 (hs) _) ?_
      refine WL.y rfl (Y.sub64 rfl rfl (by omega)) ?_
      refine WL.yex rfl (Y.sliceTo (l.length - 4) Try.underlying22 ti5 (hs) rfl (by omega) (by omega)) ?_
      rintro v12 hs12
      refine WL.call rfl (C.func go24) (refSeal_ret v12 (body l) _ hs12 (by unfold body; simp; omega)) ?_
      rintro v13 w13 ⟨ho13, hb13⟩
      refine WL.y rfl (Y.move) ?_
      refine WL.call rfl (C.func go13) ((same_ret v13 bv (sealed (body l)) l _ ho13.bs (hs.bel hb13)).no hse) ?_
      rintro _ w15 ⟨rfl, hb15⟩
      refine WL.y rfl (Y.not rfl) ?_
      refine WL.y rfl (Y.pickF rfl) ?_
      refine WL.nil ?_
      have hb := Below.step hb13 hb15
      refine WC.condT (rfl) ?_
      refine WC.seqR rfl ?_
      refine WL.y rfl (Y.assign) ?_
      refine WL.y rfl (Y.assign) ?_
      refine WL.nil ?_
      refine WC.ret (thenQ.ret (endQ.two (.inr rfl) ?_))
      exact ⟨OpenRes.no (fun h => hse h.2) SlK.nil, hb⟩
end Go.Proofs.Ythamimmjakcejaa
