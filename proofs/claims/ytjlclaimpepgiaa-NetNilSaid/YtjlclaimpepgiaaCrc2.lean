/-
  What package crc's own functions compute: walks.
-/
import Derived.Test.YtjlclaimpepgiaaBase5
import Derived.Test.YtjlclaimpepgiaaCrc1
namespace Go.Proofs.Ytjlclaimpepgiaa
open Go Go.RowKit Go.Cx
set_option linter.unusedVariables false
open Crc

/- crc.steps$1 -/
theorem shr1 (r : BitVec 32) : Crc.step r = bif decide ((r &&& 1#32).toNat = 1) then (r >>> 1) ^^^ poly else r >>> 1 := by
  unfold Crc.step
  have : r.getLsbD 0 = decide ((r &&& 1#32).toNat = 1) := by
    rw [BitVec.toNat_and, show (1#32).toNat = 1 from rfl, Nat.and_one_is_mod]
    simp [BitVec.getLsbD, Nat.testBit_zero]
  rw [this]
theorem fill_ret (low b : Nat) (vs : List Value) (w : World) (hlow : low < 16) (hB : Blk w b 92 vs) (hlen : vs.length = 16) :
    Ret Try.prog 57 [.int .u32 (low : Int), .pointer (some ⟨b, 0, none⟩)].toArray w fun _ w' => Blk w' b 92 (vs.set low (u32v (stepN 4 (BitVec.ofNat 32 low)))) ∧ w.grownBy w' (some b) := by
  refine Ret.of (n := 20) (rs := #[]) Try.func57 rfl rfl rfl (by simp) ?_
  refine WC.seqR rfl ?_
  refine WL.y rfl (Y.move) ?_
  refine WL.y rfl (Y.assign) ?_
  refine WL.nil ?_
  refine WC.seq ?_
  refine WC.seqR rfl ?_
  refine WL.y rfl (Y.move) ?_
  refine WL.nil ?_
  refine WC.block ?_
  refine WC.loop (fun k => 4 - k) (fun k f ds w' => k ≤ 4 ∧ ds = [] ∧ w' = w ∧ ∃ J, f = ov J [(0, .int .u32 (low : Int)), (1, .pointer (some ⟨b, 0, none⟩)), (3, u32v (stepN k (BitVec.ofNat 32 low))), (6, .int .i64 (k : Int))]) 0 ?_ ?_
  · refine ⟨by omega, rfl, rfl, _, ov_mk ⟨rfl, rfl, ?_, rfl, trivial⟩⟩
    show Value.int .u32 (low : Int) = Value.int .u32 ((BitVec.ofNat 32 low).toNat : Int)
    rw [BitVec.toNat_ofNat, Nat.mod_eq_of_lt (by omega)]
  · rintro k _ _ w1 ⟨hk, rfl, rfl, J, rfl⟩
    refine WC.seqR rfl ?_
    refine WL.y rfl (Y.lss rfl rfl) ?_
    refine WL.nil ?_
    refine WC.seq ?_
    refine WC.condD rfl (fun hc => ?_) (fun hc => ?_)
    · refine WC.skip (thenQ.normal ?_)
      refine WC.seq ?_
      refine WC.block ?_
      refine WC.seqR rfl ?_
      refine WL.y rfl (Y.move) ?_
      refine WL.y rfl (Y.andU32 (b := 1#32) rfl rfl) ?_
      refine WL.y rfl (Y.eqi rfl rfl) ?_
      refine WL.y rfl (Y.assign) ?_
      refine WL.nil ?_
      refine WC.seqR rfl ?_
      refine WL.y rfl (Y.move) ?_
      refine WL.y rfl (Y.shrU32 (n := 1) rfl rfl) ?_
      refine WL.y rfl (Y.assign) ?_
      refine WL.nil ?_
      refine WC.seqR rfl ?_
      refine WL.y rfl (Y.move) ?_
      refine WL.nil ?_
      refine WC.condD rfl (fun hodd => ?_) (fun hodd => ?_)
      · refine WC.region rfl ?_
        refine WL.y rfl (Y.move) ?_
        refine WL.y rfl (Y.xorU32 (b := poly) rfl rfl) ?_
        refine WL.y rfl (Y.assign) ?_
        refine WL.nil (inBlockQ.normal (thenQ.normal ?_))
        refine WC.region rfl ?_
        refine WL.y rfl (Y.add64 rfl rfl (by omega)) ?_
        refine WL.y rfl (Y.move) ?_
        refine WL.nil (thenQ.normal ?_)
        refine ⟨k + 1, by omega, by omega, rfl, rfl, _, ov_mk ⟨rfl, rfl, ?_, rfl, trivial⟩⟩
        have h1 : (stepN k (BitVec.ofNat 32 low) &&& 1#32).toNat = 1 := Int.ofNat_inj.mp hodd
        exact congrArg u32v (by rw [stepN_succ, shr1, decide_eq_true h1]; rfl)
      · refine WC.skip (inBlockQ.normal (thenQ.normal ?_))
        refine WC.region rfl ?_
        refine WL.y rfl (Y.add64 rfl rfl (by omega)) ?_
        refine WL.y rfl (Y.move) ?_
        refine WL.nil (thenQ.normal ?_)
        refine ⟨k + 1, by omega, by omega, rfl, rfl, _, ov_mk ⟨rfl, rfl, ?_, rfl, trivial⟩⟩
        have h1 : ¬ (stepN k (BitVec.ofNat 32 low) &&& 1#32).toNat = 1 := fun h => hodd (by rw [h]; rfl)
        exact congrArg u32v (by rw [stepN_succ, shr1, decide_eq_false h1]; rfl)
    · refine WC.exit (thenQ.exit (thenQ.exit (inBlockQ.hit (thenQ.normal ?_))))
      refine WC.region rfl ?_
      refine WL.y rfl (Y.move) ?_
      refine WL.y rfl (Y.move) ?_
      refine WL.y rfl (Y.idxArr (j := low) Try.underlying92 ti87 rfl rfl (by omega) (by omega) (by omega)) ?_
      refine WL.eex rfl (E.storeX (u := u32v (stepN k (BitVec.ofNat 32 low))) ti87 rfl rfl rfl hB (by omega)) ?_
      rintro _ w2 ⟨hB2, hg2, -⟩
      refine WL.nil (endQ.zero (.inl rfl) ?_)
      have hk4 : k = 4 := by omega
      subst hk4
      exact ⟨hB2, hg2⟩

/- crc.steps -/
def tabAt (k : Nat) : List Value := (List.range 16).map fun i => if i < k then u32v (stepN 4 (BitVec.ofNat 32 i)) else .int .u32 0
theorem tabAt_len (k : Nat) : (tabAt k).length = 16 := by simp [tabAt]
theorem tabAt_set (k : Nat) (h : k < 16) : (tabAt k).set k (u32v (stepN 4 (BitVec.ofNat 32 k))) = tabAt (k + 1) := by
  apply List.ext_getElem
  · simp [tabAt]
  · intro i h1 h2
    simp only [List.getElem_set, tabAt, List.getElem_map, List.getElem_range]
    by_cases hik : k = i
    · subst hik; simp
    · rw [if_neg hik]
      by_cases hlt : i < k
      · rw [if_pos hlt, if_pos (by omega)]
      · rw [if_neg hlt, if_neg (by omega)]
theorem tabAt_one (k : Nat) : ∀ u ∈ tabAt k, One u = true := by
  intro u hu
  obtain ⟨i, _, rfl⟩ := List.mem_map.1 hu
  split <;> rfl
/-- the table as a value -/
def tab : List Value := tabAt 16
theorem steps_ret (w : World) :
    Ret Try.prog 55 [].toArray w fun v w' => v = .agg tab.toArray ∧ Below w.heap.size w w' := by
  refine Ret.of (n := 13) (rs := #[.cell 0 92]) Try.func55 rfl rfl rfl (by simp) ?_
  refine WC.seqR rfl ?_
  refine WL.eex rfl (E.allocX ti92) ?_
  rintro _ w0 ⟨rfl, hB0, hb0⟩
  refine WL.nil ?_
  refine WC.seqR rfl ?_
  refine WL.eex rfl (E.allocX ti92) ?_
  rintro _ w1 ⟨rfl, hB1, hb1⟩
  refine WL.nil ?_
  refine WC.seqR rfl ?_
  refine WL.y rfl (Y.makeFunc) ?_
  refine WL.y rfl (Y.assign) ?_
  refine WL.nil ?_
  refine WC.seq ?_
  refine WC.seqR rfl ?_
  refine WL.y rfl (Y.move) ?_
  refine WL.nil ?_
  refine WC.block ?_
  have hT1 : Blk w1 w0.heap.size 92 (tabAt 0) := hB1
  have hne : w.heap.size < w0.heap.size := hB0.lt
  refine WC.loop (fun k => 16 - k) (fun k f ds w' => k ≤ 16 ∧ ds = [] ∧ Below w.heap.size w w' ∧ Blk w' w0.heap.size 92 (tabAt k) ∧ (∃ vs, vs.length = 16 ∧ Blk w' w.heap.size 92 vs) ∧ ∃ J, f = ov J [(0, .pointer (some ⟨w.heap.size, 0, none⟩)), (1, .pointer (some ⟨w0.heap.size, 0, none⟩)), (2, .func (.func 57) #[] #[.pointer (some ⟨w0.heap.size, 0, none⟩)]), (5, .int .u32 (k : Int))]) 0 ?_ ?_
  · exact ⟨by omega, rfl, Below.step hb0 hb1, hT1, ⟨_, rfl, hB0.bel hb1⟩, _, ov_mk ⟨rfl, rfl, rfl, rfl, trivial⟩⟩
  · rintro k _ _ w2 ⟨hk, rfl, hb2, hT, ⟨vs, hvs, hB2⟩, J, rfl⟩
    refine WC.seqR rfl ?_
    refine WL.y rfl (Y.lss rfl rfl) ?_
    refine WL.nil ?_
    refine WC.seq ?_
    refine WC.condD rfl (fun hc => ?_) (fun hc => ?_)
    · refine WC.skip (thenQ.normal ?_)
      refine WC.seq ?_
      refine WC.block ?_
      refine WC.seqR rfl ?_
      refine WL.y rfl (Y.move) ?_
      refine WL.y rfl (Y.assign) ?_
      refine WL.nil ?_
      refine WC.region rfl ?_
      refine WL.y rfl (Y.move) ?_
      refine WL.y rfl (Y.move) ?_
      refine WL.call rfl (C.value go57 rfl) (fill_ret k w0.heap.size _ _ (by omega) hT (tabAt_len k)) ?_
      rintro _ w3 ⟨hT3, hg3⟩
      refine WL.nil (inBlockQ.normal (thenQ.normal ?_))
      refine WC.region rfl ?_
      refine WL.y rfl (Y.addU32 rfl rfl (by omega)) ?_
      refine WL.y rfl (Y.move) ?_
      refine WL.nil (thenQ.normal ?_)
      rw [tabAt_set k (by omega)] at hT3
      exact ⟨k + 1, by omega, by omega, rfl, Below.stepG hb2 hg3 (by omega), hT3, ⟨vs, hvs, hB2.grown hg3 (by omega)⟩, _, ov_mk ⟨rfl, rfl, rfl, rfl, trivial⟩⟩
    · refine WC.exit (thenQ.exit (thenQ.exit (inBlockQ.hit (thenQ.normal ?_))))
      refine WC.seqR rfl ?_
      refine WL.y rfl (Y.loadN Try.underlying92 rfl ti92 rfl (hT.cells)) ?_
      refine WL.eex rfl (E.storeAll (us := tabAt k) (vs := vs) ti92 rfl rfl (tabAt_one k) hB2 (by rw [hvs, tabAt_len])) ?_
      rintro _ w3 ⟨hB3, hg3⟩
      refine WL.nil ?_
      refine WC.ret ?_
      have hk16 : k = 16 := by omega
      subst hk16
      exact endQ.cellN (vs := tabAt 16) Try.underlying92 rfl ti92 (.inr rfl) rfl hB3.cells ⟨rfl, Below.stepG hb2 hg3 (Nat.le_refl _)⟩
/- crc.each -/
theorem each_ret (bv : Value) (w : World) (h1 : One bv = true) :
    Ret Try.prog 56 [bv].toArray w fun v w' => v = .func (.func 58) #[] #[.pointer (some ⟨w.heap.size, 0, none⟩)] ∧ Blk w' w.heap.size 32 [bv] ∧ Below w.heap.size w w' := by
  have hcs := One.cells h1
  refine Ret.of (n := 4) (rs := #[.tmp 2]) Try.func56 rfl rfl rfl (by simp) ?_
  refine WC.seqR rfl ?_
  refine WL.eex rfl (E.boxX) ?_
  rintro _ w1 ⟨rfl, hB1, hb1⟩
  refine WL.y rfl (Y.assign) ?_
  refine WL.nil ?_
  refine WC.seqR rfl ?_
  refine WL.y rfl (Y.makeFunc) ?_
  refine WL.y rfl (Y.assign) ?_
  refine WL.nil ?_
  refine WC.ret (endQ.one (.inr rfl) ?_)
  refine ⟨rfl, ?_, hb1⟩
  have : (ev (fr0 [bv]) (.tmp 0)).cells.toList = [bv] := by show bv.cells.toList = _; rw [hcs]
  rw [this] at hB1
  exact hB1
/- crc.each$1 -/
theorem each1_seq (bx : Nat) (bv : Value) (l : List UInt8) (w00 w : World) (hb00 : Below w00.heap.size w00 w) (hB : Blk w bx 32 [bv]) (hs : Bs w00 bv l) :
    SeqW Try.prog 58 [.pointer (some ⟨bx, 0, none⟩)] (fun x : UInt8 => [u8v x]) (Below w00.heap.size) (fun xs => xs = l) (fun _ => True) l.length w := by
  intro ll J Jx W hb' hJ hJx hy h0
  have hlen := hs.len
  have hBW : Blk W bx 32 [bv] := hB.bel hb'
  have hb : Below w00.heap.size w00 W := Below.step hb00 hb'
  have hsW : Bs W bv l := hs.bel hb
  refine Ret.of (n := 16) (rs := #[]) Try.func58 rfl rfl rfl (by simp) ?_
  refine WC.seqR rfl ?_
  refine WL.y rfl (Y.load1 Try.underlying32 rfl rfl (hBW.one)) ?_
  refine WL.y rfl (Y.lenSl Try.underlying32 (hsW) _) ?_
  refine WL.y rfl (Y.move) ?_
  refine WL.nil ?_
  refine WC.block ?_
  refine WC.loop (fun i => l.length - i) (fun i f ds w' => i ≤ l.length ∧ ds = [] ∧ Below w00.heap.size w00 w' ∧ J (l.take i) w' ∧ ∃ J, f = ov J [(0, .func (.yield ll) #[] #[]), (5, bv), (6, .int .i64 (l.length : Int)), (7, .int .i64 (i : Int))]) 0 ?_ ?_
  · exact ⟨by omega, rfl, hb, h0, _, ov_mk ⟨rfl, rfl, rfl, rfl, trivial⟩⟩
  · rintro i _ _ w1 ⟨hi, rfl, hb1, hj, J', rfl⟩
    refine WC.seqR rfl ?_
    refine WL.y rfl (Y.lss rfl rfl) ?_
    refine WL.nil ?_
    refine WC.seq ?_
    refine WC.condD rfl (fun hc => ?_) (fun hc => ?_)
    · have hs1 : Bs w1 bv l := hs.bel hb1
      refine WC.skip (thenQ.normal ?_)
      refine WC.seq ?_
      refine WC.block ?_
      refine WC.seqR rfl ?_
      refine WL.yex rfl (Y.idxE 0 Try.underlying32 ti5 (hs1) rfl (by omega) (by omega)) ?_
      rintro _ ⟨b9, o9, rfl, hp9⟩
      refine WL.y rfl (Y.load1 Try.underlying5 rfl rfl (hp9)) ?_
      refine WL.y rfl (Y.assign) ?_
      refine WL.nil ?_
      refine WC.seqR rfl ?_
      refine WL.y rfl (Y.move) ?_
      refine WL.y rfl (Y.move) ?_
      refine WL.yield rfl rfl (hy (l.take i) (l.getD i 0) w1 hj (by rw [List.length_take]; omega)) ?_
      rintro b w2 hR
      refine WL.y rfl (Y.not rfl) ?_
      refine WL.nil ?_
      refine WC.cond rfl (fun hbb => ?_) (fun hbb => ?_)
      · refine WC.ret (inBlockQ.ret (thenQ.ret (thenQ.ret (inBlockQ.ret (endQ.zero (.inr rfl) ?_)))))
        rcases hR with ⟨rfl, _⟩ | ⟨rfl, hjx⟩
        · cases hbb
        · exact .inr ⟨_, trivial, hjx⟩
      · refine WC.skip (inBlockQ.normal (thenQ.normal ?_))
        refine WC.region rfl ?_
        refine WL.y rfl (Y.add64 rfl rfl (by omega)) ?_
        refine WL.y rfl (Y.move) ?_
        refine WL.nil (thenQ.normal ?_)
        rcases hR with ⟨rfl, hj2, hk⟩ | ⟨rfl, _⟩
        · refine ⟨i + 1, by omega, by omega, rfl, hb1.trans hk, ?_, _, ov_mk ⟨rfl, rfl, rfl, rfl, trivial⟩⟩
          rw [List.take_succ_eq_append_getElem (by omega)]
          simpa [show i < l.length by omega] using hj2
        · cases hbb
    · refine WC.exit (thenQ.exit (thenQ.exit (inBlockQ.hit (endQ.zero (.inl rfl) ?_))))
      have hi2 : i = l.length := by omega
      subst hi2
      rw [List.take_length] at hj
      exact .inl ⟨l, rfl, hj⟩

/- crc.More -/
theorem tab_get (n : BitVec 32) : tab[(n &&& 15#32).toNat]? = some (u32v (stepN 4 (n &&& 15#32))) := by
  have h : (n &&& 15#32).toNat < 16 := by
    rw [BitVec.toNat_and]
    exact Nat.lt_of_le_of_lt Nat.and_le_right (by decide)
  unfold tab tabAt
  rw [List.getElem?_map, List.getElem?_range h, Option.map_some, if_pos h]
  congr 3
  apply BitVec.eq_of_toNat_eq
  rw [BitVec.toNat_ofNat]
  exact Nat.mod_eq_of_lt (BitVec.isLt _)
theorem and15 (n : BitVec 32) : (n &&& 15#32).toNat < 16 := by
  rw [BitVec.toNat_and]
  exact Nat.lt_of_le_of_lt Nat.and_le_right (by decide)
theorem tab_one : ∀ u ∈ tab, One u = true := tabAt_one 16
theorem more_ret (s : BitVec 32) (bv : Value) (l : List UInt8) (w : World) (hs : Bs w bv l) :
    Ret Try.prog 54 [u32v s, bv].toArray w fun v w' => v = u32v (more s l) ∧ Below w.heap.size w w' := by
  refine Ret.ofM (n := 34) (rs := #[.tmp 4]) Try.func54 rfl rfl rfl (by simp) ?_
  refine WC.seqR rfl ?_
  refine WL.y rfl (Y.assign) ?_
  refine WL.nil ?_
  refine WC.seqR rfl ?_
  refine WL.call rfl (C.func go55) (steps_ret _) ?_
  rintro _ wq ⟨rfl, hb8⟩
  refine WL.eex rfl (E.allocX ti92) ?_
  rintro _ w5 ⟨rfl, hB5, hb5⟩
  refine WL.eex rfl (E.storeAll (us := tab) ti92 rfl rfl tab_one hB5 rfl) ?_
  rintro _ w5s ⟨hT, hgT⟩
  refine WL.nil ?_
  refine WC.seqR rfl ?_
  refine WL.y rfl (Y.move) ?_
  refine WL.y rfl (Y.notU32 rfl) ?_
  refine WL.eex rfl (E.allocX ti87) ?_
  rintro _ w6 ⟨rfl, hB6, hb6⟩
  refine WL.eex rfl (E.storeX (u := u32v (~~~ s)) ti87 rfl rfl rfl hB6 Nat.one_pos) ?_
  rintro _ w6s ⟨hR, hgR, -⟩
  refine WL.nil ?_
  refine WC.seq ?_
  refine WC.seqR rfl ?_
  refine WL.y rfl (Y.move) ?_
  refine WL.call rfl (C.func go56) (each_ret bv _ hs.one) ?_
  rintro _ w12 ⟨rfl, hBx, hb12⟩
  refine WL.nil ?_
  refine WC.block ?_
  have l1 := hb8.size
  have l2 := hT.lt
  have l3 := hR.lt
  have l4 := hBx.lt
  have hb5' := Below.stepG (Below.step hb8 hb5) hgT l1
  have hb6' := Below.stepG (Below.step hb5' hb6) hgR (by omega)
  have hb := Below.step hb6' hb12
  have hT12 : Blk w12 wq.heap.size 92 tab := ((hT.bel hb6).grown hgR (by omega)).bel hb12
  have hR12 : Blk w12 w5s.heap.size 87 [u32v (~~~ s)] := hR.bel hb12
  refine WC.rangeFunc (gf := 58) (lb := [.pointer (some ⟨w6s.heap.size, 0, none⟩)]) (ps := [13]) rfl go58 (each1_seq _ bv l w w12 hb hBx hs) (fun h k => h.trans k) (belowK_b hb.size) (Below.refl _ _) (fun _ => rfl) rfl
    (fun pre W => Blk W w5s.heap.size 87 [u32v (reg (~~~ s) pre)] ∧ Blk W wq.heap.size 92 tab ∧ Below w.heap.size w W) (fun _ _ _ => False)
    ((Blk.ownFrom (fun pre => [u32v (reg (~~~ s) pre)]) (by omega)).and ((Blk.ownFrom (fun _ => tab) (by omega)).and (ownFrom_below (Nat.le_refl _) hb.size))) (fun _ _ _ _ _ h _ _ => h)
    ⟨hR12, hT12, hb⟩ (fun x f => upd (upd f 13 (u8v x)) 7 (u8v x)) ?_ ?_ ?_ ?_
  · intro ll x W
    refine WC.region rfl ?_
    refine WL.y rfl (Y.assign) ?_
    refine WL.nil ?_
    exact ⟨rfl, rfl, rfl, rfl⟩
  · rintro ll pre x W ⟨hR1, hT1, hb1⟩ _
    refine WC.block ?_
    refine WC.seqR rfl ?_
    refine WL.y rfl (Y.load1 Try.underlying87 rfl rfl (hR1.one)) ?_
    refine WL.y rfl (Y.move) ?_
    refine WL.y rfl (Y.toU32 (c := x) Try.underlying5 Try.underlying87 rfl) ?_
    refine WL.y rfl (Y.xorU32 rfl rfl) ?_
    refine WL.eex rfl (E.storeX (u := u32v (reg (~~~ s) pre ^^^ w8 x)) ti87 rfl rfl rfl hR1 Nat.one_pos) ?_
    rintro _ wA ⟨hRA, hgA, -⟩
    refine WL.nil ?_
    refine WC.seq ?_
    have hTA : Blk wA wq.heap.size 92 tab := hT1.grown hgA (by omega)
    have hx1 := and15 (reg (~~~ s) pre ^^^ w8 x)
    have hx2 := and15 ((reg (~~~ s) pre ^^^ w8 x) >>> 4 ^^^ stepN 4 ((reg (~~~ s) pre ^^^ w8 x) &&& 15#32))
    refine WC.regionB (fun i => Nat.beq i 7) [(0, .held), (1, .any), (2, .held), (3, .any), (4, .any), (5, .held), (6, .any), (7, .seq)] mixed (by kernel_rfl) (fun wB hSB hheap => ?_)
    refine RL.held rfl rfl hSB (fun _ hb9 => Y.load1 Try.underlying87 rfl rfl (cell_bel hRA.one hb9)) ?_
    refine RL.any rfl rfl (fun _ => Y.shrU32 (n := 4) rfl rfl) ?_
    refine RL.held rfl rfl hSB (fun _ hb9 => Y.load1 Try.underlying87 rfl rfl (cell_bel hRA.one hb9)) ?_
    refine RL.any rfl rfl (fun _ => Y.andU32 (b := 15#32) rfl rfl) ?_
    refine RL.any rfl rfl (fun _ => Y.idxArr (j := ((reg (~~~ s) pre ^^^ w8 x) &&& 15#32).toNat) Try.underlying92 ti87 rfl rfl (by omega) (by omega) (by omega)) ?_
    refine RL.held rfl rfl hSB (fun _ hb9 => Y.load1 Try.underlying87 rfl rfl (cell_bel ((hTA.cell _).trans (tab_get _)) hb9)) ?_
    refine RL.any rfl rfl (fun _ => Y.xorU32 rfl rfl) ?_
    refine RL.eex rfl rfl (E.storeX (u := u32v ((reg (~~~ s) pre ^^^ w8 x) >>> 4 ^^^ stepN 4 ((reg (~~~ s) pre ^^^ w8 x) &&& 15#32))) ti87 rfl rfl rfl (hRA.bel hSB) Nat.one_pos) ?_ ?_
    · exact fun _ _ _ => .inl rfl
    rintro _ wC ⟨hRC, hgC, -⟩
    refine RL.nil (thenQ.normal ?_)
    refine WC.regionB (fun i => Nat.beq i 7) [(0, .held), (1, .any), (2, .held), (3, .any), (4, .any), (5, .held), (6, .any), (7, .seq)] mixed (by kernel_rfl) (fun wD hSD hheap => ?_)
    have hTC : Blk wC wq.heap.size 92 tab := (hTA.bel hSB).grown hgC (by omega)
    refine RL.held rfl rfl hSD (fun _ hb9 => Y.load1 Try.underlying87 rfl rfl (cell_bel hRC.one hb9)) ?_
    refine RL.any rfl rfl (fun _ => Y.shrU32 (n := 4) rfl rfl) ?_
    refine RL.held rfl rfl hSD (fun _ hb9 => Y.load1 Try.underlying87 rfl rfl (cell_bel hRC.one hb9)) ?_
    refine RL.any rfl rfl (fun _ => Y.andU32 (b := 15#32) rfl rfl) ?_
    refine RL.any rfl rfl (fun _ => Y.idxArr (j := (((reg (~~~ s) pre ^^^ w8 x) >>> 4 ^^^ stepN 4 ((reg (~~~ s) pre ^^^ w8 x) &&& 15#32)) &&& 15#32).toNat) Try.underlying92 ti87 rfl rfl (by omega) (by omega) (by omega)) ?_
    refine RL.held rfl rfl hSD (fun _ hb9 => Y.load1 Try.underlying87 rfl rfl (cell_bel ((hTC.cell _).trans (tab_get _)) hb9)) ?_
    refine RL.any rfl rfl (fun _ => Y.xorU32 rfl rfl) ?_
    refine RL.eex rfl rfl (E.storeX (u := u32v (byteStep (reg (~~~ s) pre) x)) ti87 rfl (congrArg u32v (byteStep_nibbles _ _).symm) rfl (hRC.bel hSD) Nat.one_pos) ?_ ?_
    · exact fun _ _ _ => .inl rfl
    rintro _ wE ⟨hRE, hgE, -⟩
    refine RL.nil (inBlockQ.normal ?_)
    have k1 : Below w.heap.size W wA := below_of_grown hgA hb1.size (fun k e => by cases e; omega)
    have k2 : Below w.heap.size W wB := k1.trans (hSB.mono (Nat.le_trans hb1.size k1.size))
    have k3 : Below w.heap.size W wC := k2.trans (below_of_grown hgC (Nat.le_trans hb1.size k2.size) (fun k e => by cases e; omega))
    have k4 : Below w.heap.size W wD := k3.trans (hSD.mono (Nat.le_trans hb1.size k3.size))
    have k5 : Below w.heap.size W wE := k4.trans (below_of_grown hgE (Nat.le_trans hb1.size k4.size) (fun k e => by cases e; omega))
    refine ⟨?_, k5, ?_, (hTC.bel hSD).grown hgE (by omega), hb1.trans k5⟩
    · exact ((keeps_grown hR1 hgA).trans (keeps_below hSB)).trans (((keeps_grown (hRA.bel hSB) hgC).trans (keeps_below hSD)).trans (keeps_grown (hRC.bel hSD) hgE))
    · rw [reg_snoc]; exact hRE
  · rintro D xs W hD rfl ⟨hR2, hT2, hb2⟩ hK
    refine (inBlockQ.normal (thenQ.normal ?_))
    refine WC.seqR rfl ?_
    refine WL.y rfl (Y.load1 Try.underlying87 rfl rfl (hR2.one)) ?_
    refine WL.y rfl (Y.notU32 rfl) ?_
    refine WL.y rfl (Y.assign) ?_
    refine WL.nil ?_
    refine WC.ret (endQM.mark1 (.inr rfl) hK ?_)
    exact ⟨rfl, below_putObj hb2 (by omega)⟩
  · rintro D c pre W _ _ h
    exact h.elim

/- crc.Sum -/
theorem sum_ret (bv : Value) (l : List UInt8) (w : World) (hs : Bs w bv l) :
    Ret Try.prog 52 [bv].toArray w fun v w' => v = u32v (sum l) ∧ Below w.heap.size w w' := by
  refine Ret.of (n := 5) (rs := #[.tmp 2]) Try.func52 rfl rfl rfl (by simp) ?_
  refine WC.seqR rfl ?_
  refine WL.y rfl (Y.assign) ?_
  refine WL.nil ?_
  refine WC.seqR rfl ?_
  refine WL.y rfl (Y.move) ?_
  refine WL.call rfl (C.func go54) (more_ret 0 bv l _ hs) ?_
  rintro _ w1 ⟨rfl, hb1⟩
  refine WL.y rfl (Y.assign) ?_
  refine WL.nil ?_
  refine WC.ret (endQ.one (.inr rfl) ?_)
  exact ⟨rfl, hb1⟩
/- crc.Seal -/
theorem seal_ret (bv : Value) (l : List UInt8) (w : World) (hs : Bs w bv l) (hl : l.length + 4 ≤ 140737488355328) :
    Ret Try.prog 45 [bv].toArray w fun v w' => Own w' w.heap.size v (sealed l) ∧ Below w.heap.size w w' := by
  have hmx : maxLen = 9223372036854775807 := rfl
  have hln := hs.len
  refine Ret.of (n := 28) (rs := #[.tmp 2]) Try.func45 rfl rfl rfl (by simp) ?_
  refine WC.seqR rfl ?_
  refine WL.y rfl (Y.assign) ?_
  refine WL.nil ?_
  refine WC.seqR rfl ?_
  refine WL.y rfl (Y.move) ?_
  refine WL.y rfl (Y.lenSl Try.underlying32 (hs) _) ?_
  refine WL.y rfl (Y.add64 rfl rfl (by omega)) ?_
  refine WL.eex rfl (E.make0 (c := (l.length + 4)) Try.underlying32 ti5 rfl rfl (by omega) (by omega) (by unfold maxLen; omega)) ?_
  rintro v9 w9 ⟨ho9, hb9⟩
  refine WL.y rfl (Y.assign) ?_
  refine WL.nil ?_
  refine WC.seqR rfl ?_
  refine WL.y rfl (Y.move) ?_
  refine WL.y rfl (Y.move) ?_
  refine WL.eex rfl (E.append Try.underlying32 ti5 rfl (by decide) ho9 (hs.bel hb9) (one_u8 l) (by omega) (by omega) hb9.size) ?_
  rintro v12 w12 ⟨ho12, hb12, -⟩
  refine WL.y rfl (Y.assign) ?_
  refine WL.nil ?_
  refine WC.seqR rfl ?_
  refine WL.y rfl (Y.move) ?_
  refine WL.call rfl (C.func go52) (sum_ret bv l _ (hs.bel (hb9.trans hb12))) ?_
  rintro _ w14 ⟨rfl, hb14⟩
  refine WL.y rfl (Y.assign) ?_
  refine WL.nil ?_
  refine WC.seq ?_
  refine WC.seqR rfl ?_
  refine WL.y rfl (Y.move) ?_
  refine WL.nil ?_
  refine WC.block ?_
  have hbA := Below.step (hb9.trans hb12) hb14
  have hown2 : Own w14 w.heap.size v12 (l ++ (le4 (sum l)).take 0) := by
    have : Own w12 w.heap.size v12 l := by unfold Own; rw [Nat.zero_add, List.nil_append] at ho12; exact ho12
    rw [List.take_zero, List.append_nil]; exact this.bel hb14
  refine WC.loop (fun k => 4 - k) (fun k f ds w' => k ≤ 4 ∧ ds = [] ∧ Below w.heap.size w w' ∧ ∃ J v, f = ov J [(3, v), (4, u32v (sum l)), (15, .int .i64 (k : Int))] ∧ Own w' w.heap.size v (l ++ (le4 (sum l)).take k)) 0 ?_ ?_
  · exact ⟨by omega, rfl, hbA, _, v12, ov_mk ⟨rfl, rfl, rfl, trivial⟩, hown2⟩
  · rintro k _ _ w3 ⟨hk, rfl, hb3, J, v3, rfl, hown⟩
    refine WC.seqR rfl ?_
    refine WL.y rfl (Y.lss rfl rfl) ?_
    refine WL.nil ?_
    refine WC.seq ?_
    refine WC.condD rfl (fun hc => ?_) (fun hc => ?_)
    · have hlen : (l ++ (le4 (sum l)).take k).length = l.length + k := by rw [List.length_append, List.length_take, le4_len]; omega
      have hown' : w3.ownsRow w.heap.size 5 1 v3 (l.length + k) ((l ++ (le4 (sum l)).take k).map u8v) := by rw [← hlen]; exact hown
      have h8 : (8 : Int) * (k : Int) = ((8 * k : Nat) : Int) := by omega
      refine WC.skip (thenQ.normal ?_)
      refine WC.seq ?_
      refine WC.block ?_
      refine WC.seqR rfl ?_
      refine WL.y rfl (Y.move) ?_
      refine WL.y rfl (Y.assign) ?_
      refine WL.nil ?_
      refine WC.region rfl ?_
      refine WL.y rfl (Y.move) ?_
      refine WL.y rfl (Y.move) ?_
      refine WL.y rfl (Y.move) ?_
      refine WL.y rfl (Y.mul64 rfl rfl (by omega)) ?_
      refine WL.y rfl (Y.shrU32 (n := 8 * k) rfl (congrArg (Value.int .i64) h8)) ?_
      refine WL.y rfl (Y.toU8 Try.underlying87 Try.underlying5 rfl) ?_
      refine WL.eex rfl (E.build1 Try.underlying32 ti5 rfl rfl rfl) ?_
      rintro v24 w24 ⟨hs24, hb24, _⟩
      refine WL.eex rfl (E.append Try.underlying32 ti5 rfl (by decide) (ownsRow_bel hown' hb24) hs24 (by intro u hu; simp only [List.mem_singleton] at hu; subst hu; rfl) (by omega) (by omega) (Nat.le_trans hb3.size hb24.size)) ?_
      rintro v20 w20 ⟨ho20, hb20, -⟩
      refine WL.y rfl (Y.assign) ?_
      refine WL.nil (inBlockQ.normal (thenQ.normal ?_))
      refine WC.region rfl ?_
      refine WL.y rfl (Y.add64 rfl rfl (by omega)) ?_
      refine WL.y rfl (Y.move) ?_
      refine WL.nil (thenQ.normal ?_)
      have hown20 : Own w20 w.heap.size v20 (l ++ (le4 (sum l)).take (k + 1)) := by
        unfold Own
        rw [le4_take_succ _ _ (by omega), ← List.append_assoc, List.length_append, hlen, List.map_append, List.map_cons, List.map_nil, leb_shr]
        exact ho20
      exact ⟨k + 1, by omega, by omega, rfl, (Below.step hb3 hb24).trans hb20, _, v20, ov_mk ⟨rfl, rfl, rfl, trivial⟩, hown20⟩
    · refine WC.exit (thenQ.exit (thenQ.exit (inBlockQ.hit (thenQ.normal ?_))))
      refine WC.seqR rfl ?_
      refine WL.y rfl (Y.move) ?_
      refine WL.y rfl (Y.assign) ?_
      refine WL.nil ?_
      refine WC.ret (endQ.one (.inr rfl) ?_)
      have hk4 : k = 4 := by omega
      subst hk4
      exact ⟨hown, hb3⟩
/- crc.Open -/
theorem open_ret (bv : Value) (l : List UInt8) (w : World) (hs : Bs w bv l) (hl : l.length ≤ 140737488355328) :
    Ret Try.prog 53 [bv].toArray w fun v w' => OpenRes (fun w' => Own w' w.heap.size) l v w' ∧ Below w.heap.size w w' := by
  have hmx : maxLen = 9223372036854775807 := rfl
  have hln := hs.len
  have hnil : ∀ w', Own w' w.heap.size (.slice none 0 0) [] := fun w' => World.ownsRow_nil _ _ _ _
  refine Ret.of (n := 44) (rs := #[.tmp 2, .tmp 3]) Try.func53 rfl rfl rfl (by simp) ?_
  refine WC.seqR rfl ?_
  refine WL.y rfl (Y.assign) ?_
  refine WL.y rfl (Y.assign) ?_
  refine WL.nil ?_
  refine WC.seq ?_
  refine WC.seqR rfl ?_
  refine WL.y rfl (Y.move) ?_
  refine WL.y rfl (Y.lenSl Try.underlying32 (hs) _) ?_
  refine WL.y rfl (Y.lss rfl rfl) ?_
  refine WL.nil ?_
  refine WC.condD rfl (fun h4 => ?_) (fun h4 => ?_)
  · refine WC.seqR rfl ?_
    refine WL.y rfl (Y.assign) ?_
    refine WL.y rfl (Y.assign) ?_
    refine WL.nil ?_
    refine WC.ret (thenQ.ret (endQ.two (.inr rfl) ?_))
    exact ⟨OpenRes.no (fun h => by have := h.1; omega) (hnil _), Below.refl _ _⟩
  · refine WC.skip (thenQ.normal ?_)
    refine WC.seq ?_
    refine WC.regionB (fun _ => false) [(0, .any), (1, .any), (2, .any), (3, .any), (4, .any), (5, .any), (6, .any), (7, .any), (8, .any), (9, .any), (10, .any), (11, .any)] mixed (by kernel_rfl) (fun w3 hS3 hheap => ?_)
    refine RL.any rfl rfl (fun _ => Y.move) ?_
    refine RL.any rfl rfl (fun _ => Y.move) ?_
    refine RL.any rfl rfl (fun _ => Y.lenSl Try.underlying32 (hs) _) ?_
    refine RL.any rfl rfl (fun _ => Y.sub64 rfl rfl (by omega)) ?_
    refine RL.yex rfl rfl (Y.sliceTo (l.length - 4) Try.underlying32 ti5 (hs) rfl (by omega) (by omega)) ?_
    rintro v16 hs16
    refine RL.any rfl rfl (fun _ => Y.move) ?_
    refine RL.any rfl rfl (fun _ => Y.move) ?_
    refine RL.any rfl rfl (fun _ => Y.lenSl Try.underlying32 (hs) _) ?_
    refine RL.any rfl rfl (fun _ => Y.sub64 rfl rfl (by omega)) ?_
    refine RL.yex rfl rfl (Y.sliceFrom (l.length - 4) Try.underlying32 ti5 (hs) rfl (by omega) (by omega)) ?_
    rintro v21 hs21
    refine RL.any rfl rfl (fun _ => Y.assign) ?_
    refine RL.any rfl rfl (fun _ => Y.assign) ?_
    refine RL.nil (thenQ.normal ?_)
    refine WC.seqR rfl ?_
    refine WL.y rfl (Y.assign) ?_
    refine WL.nil ?_
    refine WC.seq ?_
    refine WC.seqR rfl ?_
    refine WL.y rfl (Y.move) ?_
    refine WL.y rfl (Y.lenSl Try.underlying32 (hs21.bel hS3) _) ?_
    refine WL.y rfl (Y.move) ?_
    refine WL.nil ?_
    refine WC.block ?_
    have hq : (l.drop (l.length - 4)).length = 4 := by rw [List.length_drop]; omega
    refine WC.loop (fun k => 4 - k) (fun k f ds w' => k ≤ 4 ∧ ds = [] ∧ Below w.heap.size w w' ∧ ∃ J, f = ov J [(4, v16), (6, u32v (orUp (l.drop (l.length - 4)) k)), (22, v21), (23, .int .i64 ((l.drop (l.length - 4)).length : Int)), (24, .int .i64 (k : Int))]) 0 ?_ ?_
    · exact ⟨by omega, rfl, hS3, _, ov_mk ⟨rfl, rfl, rfl, rfl, rfl, trivial⟩⟩
    · rintro k _ _ w4 ⟨hk, rfl, hb4, J, rfl⟩
      have hs4 := hs21.bel hb4
      refine WC.seqR rfl ?_
      refine WL.y rfl (Y.lss rfl rfl) ?_
      refine WL.nil ?_
      refine WC.seq ?_
      refine WC.condD rfl (fun hc => ?_) (fun hc => ?_)
      · have h8 : (8 : Int) * (k : Int) = ((8 * k : Nat) : Int) := by omega
        refine WC.skip (thenQ.normal ?_)
        refine WC.seq ?_
        refine WC.block ?_
        refine WC.seqR rfl ?_
        refine WL.y rfl (Y.move) ?_
        refine WL.yex rfl (Y.idxE 0 Try.underlying32 ti5 (hs4) rfl (by omega) (by omega)) ?_
        rintro _ ⟨b27, o27, rfl, hp27⟩
        refine WL.y rfl (Y.load1 Try.underlying5 rfl rfl (hp27)) ?_
        refine WL.y rfl (Y.assign) ?_
        refine WL.y rfl (Y.assign) ?_
        refine WL.nil ?_
        refine WC.region rfl ?_
        refine WL.y rfl (Y.move) ?_
        refine WL.y rfl (Y.move) ?_
        refine WL.y rfl (Y.toU32 (c := (l.drop (l.length - 4)).getD k 0) Try.underlying5 Try.underlying87 rfl) ?_
        refine WL.y rfl (Y.move) ?_
        refine WL.y rfl (Y.mul64 rfl rfl (by omega)) ?_
        refine WL.y rfl (Y.shlU32 (n := 8 * k) rfl (congrArg (Value.int .i64) h8) (by omega)) ?_
        refine WL.y rfl (Y.orU32 rfl rfl) ?_
        refine WL.y rfl (Y.assign) ?_
        refine WL.nil (inBlockQ.normal (thenQ.normal ?_))
        refine WC.region rfl ?_
        refine WL.y rfl (Y.add64 rfl rfl (by omega)) ?_
        refine WL.y rfl (Y.move) ?_
        refine WL.nil (thenQ.normal ?_)
        exact ⟨k + 1, by omega, by omega, rfl, hb4, _, ov_mk ⟨rfl, rfl, rfl, rfl, rfl, trivial⟩⟩
      · refine WC.exit (thenQ.exit (thenQ.exit (inBlockQ.hit (thenQ.normal ?_))))
        refine WC.seq ?_
        refine WC.seqR rfl ?_
        refine WL.y rfl (Y.move) ?_
        refine WL.call rfl (C.func go52) (sum_ret v16 (body l) _ (hs16.bel hb4)) ?_
        rintro _ w38 ⟨rfl, hb38⟩
        refine WL.y rfl (Y.move) ?_
        refine WL.y rfl (Y.nei rfl rfl) ?_
        refine WL.nil ?_
        have hk4 : k = 4 := by omega
        subst hk4
        have hb := Below.step hb4 hb38
        have hiff := isSealed_iff l (by omega)
        refine WC.condD rfl (fun hne => ?_) (fun hne => ?_)
        · refine WC.seqR rfl ?_
          refine WL.y rfl (Y.assign) ?_
          refine WL.y rfl (Y.assign) ?_
          refine WL.nil ?_
          refine WC.ret (thenQ.ret (endQ.two (.inr rfl) ?_))
          exact ⟨OpenRes.no (fun h => hne (by rw [hiff.mp h])) (hnil _), hb⟩
        · refine WC.skip (thenQ.normal ?_)
          refine WC.seqR rfl ?_
          refine WL.eex rfl (E.build0 Try.underlying32 ti5) ?_
          rintro v41 w41 ⟨ho41, hb41⟩
          refine WL.y rfl (Y.move) ?_
          refine WL.eex rfl (E.append Try.underlying32 ti5 rfl (by decide) ho41 ((hs16.bel hb).bel hb41) (one_u8 _) (by rw [List.length_take]; omega) (by rw [List.length_take]; omega) hb41.size) ?_
          rintro v43 w43 ⟨ho43, hb43, -⟩
          refine WL.y rfl (Y.assign) ?_
          refine WL.y rfl (Y.assign) ?_
          refine WL.nil ?_
          refine WC.ret (endQ.two (.inr rfl) ?_)
          have hse : IsSealed l := hiff.mpr (BitVec.eq_of_toNat_eq (by omega))
          have ho : Own w43 w.heap.size v43 (body l) := by
            rw [Nat.zero_add, List.nil_append] at ho43
            exact ownsRow_mono ho43 hb.size
          exact ⟨OpenRes.yes hse ho, Below.step hb (hb41.trans hb43)⟩
end Go.Proofs.Ytjlclaimpepgiaa
