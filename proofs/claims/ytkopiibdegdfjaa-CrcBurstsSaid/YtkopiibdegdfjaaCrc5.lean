/-
  CrcMixes, CrcOwn.
-/
import Derived.Test.YtkopiibdegdfjaaCrc4
import Derived.Test.YtkopiibdegdfjaaBase6
namespace Go.Proofs.Ytkopiibdegdfjaa
open Go Go.RowKit Go.Cx
set_option linter.unusedVariables false
open Crc
theorem xor_bytes (a b : UInt8) : u8v a = u8v a := rfl
theorem not_eq_xor (x : BitVec 32) : ~~~ x = x ^^^ BitVec.allOnes 32 := by
  apply BitVec.eq_of_getLsbD_eq
  intro i hi
  rw [BitVec.getLsbD_not, BitVec.getLsbD_xor, BitVec.getLsbD_allOnes]
  simp [hi]
/-- three rows, mixed -/
def mix3 (a b c : List UInt8) : List UInt8 := List.zipWith (· ^^^ ·) (List.zipWith (· ^^^ ·) a b) c
theorem mix3_len (a b c : List UInt8) (n : Nat) (ha : a.length = n) (hb : b.length = n) (hc : c.length = n) : (mix3 a b c).length = n := by
  simp [mix3, ha, hb, hc]
theorem xor3 (F x y z : BitVec 32) : (x ^^^ F) ^^^ (y ^^^ F) ^^^ (z ^^^ F) = (x ^^^ y ^^^ z) ^^^ F := by
  apply BitVec.eq_of_getLsbD_eq
  intro i hi
  simp only [BitVec.getLsbD_xor]
  cases x.getLsbD i <;> cases y.getLsbD i <;> cases z.getLsbD i <;> cases F.getLsbD i <;> rfl
theorem xorFFF (F : BitVec 32) : F ^^^ F ^^^ F = F := by
  apply BitVec.eq_of_getLsbD_eq
  intro i hi
  simp only [BitVec.getLsbD_xor]
  cases F.getLsbD i <;> rfl
theorem sum_mix3 (a b c : List UInt8) (n : Nat) (ha : a.length = n) (hb : b.length = n) (hc : c.length = n) : sum a ^^^ sum b ^^^ sum c = sum (mix3 a b c) := by
  unfold sum more mix3
  have h1 := reg_xor a b (~~~ 0) (~~~ 0) (by rw [ha, hb])
  have h2 := reg_xor (List.zipWith (· ^^^ ·) a b) c (~~~ 0 ^^^ ~~~ 0) (~~~ 0) (by simp [ha, hb, hc])
  rw [xorFFF] at h2
  rw [h2, h1, not_eq_xor (reg _ a), not_eq_xor (reg _ b), not_eq_xor (reg _ c), not_eq_xor (_ ^^^ _ ^^^ _), xor3]
theorem mix3_take_succ (a b c : List UInt8) (n i : Nat) (ha : a.length = n) (hb : b.length = n) (hc : c.length = n) (hi : i < n) :
    (mix3 a b c).take (i + 1) = (mix3 a b c).take i ++ [a.getD i 0 ^^^ b.getD i 0 ^^^ c.getD i 0] := by
  rw [List.take_succ_eq_append_getElem (by rw [mix3_len a b c n ha hb hc]; exact hi)]
  congr 2
  simp [mix3, show i < a.length by omega, show i < b.length by omega, show i < c.length by omega]
theorem getD_take' (a : List UInt8) (n i : Nat) (h : i < n) : (a.take n).getD i 0 = a.getD i 0 := by
  simp only [List.getD_eq_getElem?_getD, List.getElem?_take, h, if_true]
theorem crcMixes_ret (w : World) (av : Value) (a : List UInt8) (ha : Bs w av a) (hla : a.length ≤ 140737488351232) (bv : Value) (b : List UInt8) (hb : Bs w bv b) (hlb : b.length ≤ 140737488351232) (cv : Value) (c : List UInt8) (hc : Bs w cv c) (hlc : c.length ≤ 140737488351232) :
    Ret Try.prog 5 [av, bv, cv].toArray w fun v w' => v = .bool true ∧ Below w.heap.size w w' := by
  generalize hn : min a.length (min b.length c.length) = n
  have hta : (a.take n).length = n := by rw [List.length_take]; omega
  have htb : (b.take n).length = n := by rw [List.length_take]; omega
  have htc : (c.take n).length = n := by rw [List.length_take]; omega
  generalize hd : mix3 (a.take n) (b.take n) (c.take n) = dl
  have hdl : dl.length = n := by rw [← hd]; exact mix3_len _ _ _ n hta htb htc
  have hmx : maxLen = 9223372036854775807 := rfl
  refine Ret.of (n := 62) (rs := #[.tmp 6]) Try.func5 rfl rfl rfl (by simp) ?_
  refine WC.seqR rfl ?_
  refine WL.y rfl (Y.assign) ?_
  refine WL.nil ?_
  refine WC.seqR rfl ?_
  refine WL.y rfl (Y.move) ?_
  refine WL.y rfl (Y.lenSl Try.underlying22 (ha) _) ?_
  refine WL.y rfl (Y.move) ?_
  refine WL.y rfl (Y.lenSl Try.underlying22 (hb) _) ?_
  refine WL.y rfl (Y.move) ?_
  refine WL.y rfl (Y.lenSl Try.underlying22 (hc) _) ?_
  refine WL.y rfl (Y.min3 rfl rfl rfl ((show (n : Int) = _ by omega))) ?_
  refine WL.y rfl (Y.assign) ?_
  refine WL.nil ?_
  refine WC.seqR rfl ?_
  refine WL.y rfl (Y.assign) ?_
  refine WL.nil ?_
  refine WC.seq ?_
  refine WC.seqR rfl ?_
  refine WL.y rfl (Y.assign) ?_
  refine WL.nil ?_
  refine WC.block ?_
  refine WC.loop (fun k => n - k) (fun k f ds w' => k ≤ n ∧ ds = [] ∧ Below w.heap.size w w' ∧ ∃ J v, f = ov J [(0, av), (1, bv), (2, cv), (7, .int .i64 (n : Int)), (8, v), (9, .int .i64 (k : Int))] ∧ Own w' w.heap.size v (dl.take k)) 0 ?_ ?_
  · exact ⟨by omega, rfl, Below.refl _ _, _, _, ov_mk ⟨rfl, rfl, rfl, rfl, rfl, rfl, trivial⟩, World.ownsRow_nil _ _ _ _⟩
  · rintro k _ _ w3 ⟨hk, rfl, hb3, J, v3, rfl, hown⟩
    refine WC.seq ?_
    refine WC.seqR rfl ?_
    refine WL.y rfl (Y.move) ?_
    refine WL.y rfl (Y.move) ?_
    refine WL.y rfl (Y.lss rfl rfl) ?_
    refine WL.nil ?_
    refine WC.condD rfl (fun hlt => ?_) (fun hlt => ?_)
    · have hka : k < a.length := by omega
      have hkb : k < b.length := by omega
      have hkc : k < c.length := by omega
      have hlen : (dl.take k).length = k := by rw [List.length_take]; omega
      have hown' : w3.ownsRow w.heap.size 5 1 v3 k ((dl.take k).map u8v) := by have := hown; unfold Own at this; rwa [hlen] at this
      have ha3 := ha.bel hb3
      have hb3' := hb.bel hb3
      have hc3 := hc.bel hb3
      refine WC.skip (thenQ.normal ?_)
      refine WC.seq ?_
      refine WC.block ?_
      refine WC.regionB (fun i => Nat.beq i 15 || Nat.beq i 16) [(0, .any), (1, .any), (2, .any), (3, .any), (4, .held), (5, .any), (6, .any), (7, .any), (8, .held), (9, .any), (10, .any), (11, .any), (12, .any), (13, .held), (14, .any), (15, .seq), (16, .seq), (17, .any)] mixed (by kernel_rfl) (fun w6 hS6 hheap => ?_)
      refine RL.any rfl rfl (fun _ => Y.move) ?_
      refine RL.any rfl rfl (fun _ => Y.move) ?_
      refine RL.any rfl rfl (fun _ => Y.move) ?_
      refine RL.yex rfl rfl (Y.idxE 0 Try.underlying22 ti5 (ha3) rfl (by omega) (by omega)) ?_
      rintro _ ⟨b25, o25, rfl, hp25⟩
      refine RL.held rfl rfl hS6 (fun _ hb9 => Y.load1 Try.underlying5 rfl rfl (cell_bel hp25 hb9)) ?_
      refine RL.any rfl rfl (fun _ => Y.move) ?_
      refine RL.any rfl rfl (fun _ => Y.move) ?_
      refine RL.yex rfl rfl (Y.idxE 0 Try.underlying22 ti5 (hb3') rfl (by omega) (by omega)) ?_
      rintro _ ⟨b29, o29, rfl, hp29⟩
      refine RL.held rfl rfl hS6 (fun _ hb9 => Y.load1 Try.underlying5 rfl rfl (cell_bel hp29 hb9)) ?_
      refine RL.any rfl rfl (fun _ => Y.xorU8 rfl rfl) ?_
      refine RL.any rfl rfl (fun _ => Y.move) ?_
      refine RL.any rfl rfl (fun _ => Y.move) ?_
      refine RL.yex rfl rfl (Y.idxE 0 Try.underlying22 ti5 (hc3) rfl (by omega) (by omega)) ?_
      rintro _ ⟨b34, o34, rfl, hp34⟩
      refine RL.held rfl rfl hS6 (fun _ hb9 => Y.load1 Try.underlying5 rfl rfl (cell_bel hp34 hb9)) ?_
      refine RL.any rfl rfl (fun _ => Y.xorU8 rfl rfl) ?_
      refine RL.eex rfl rfl (E.build1 Try.underlying22 ti5 rfl rfl rfl) ?_ ?_
      · exact fun _ _ _ => .inl rfl
      rintro v37 w37 ⟨hs37, hb37, _⟩
      refine RL.eex rfl rfl (E.append Try.underlying22 ti5 rfl (by decide) (ownsRow_bel (ownsRow_bel hown' hS6) hb37) hs37 (by intro u hu; simp only [List.mem_singleton] at hu; subst hu; rfl) (by omega) (by omega) (Nat.le_trans hb3.size (Nat.le_trans hS6.size hb37.size))) ?_ ?_
      · exact fun _ _ _ => .inl rfl
      rintro v38 w38 ⟨ho38, hb38, -⟩
      refine RL.any rfl rfl (fun _ => Y.assign) ?_
      refine RL.nil (inBlockQ.normal (thenQ.normal ?_))
      refine WC.region rfl ?_
      refine WL.y rfl (Y.move) ?_
      refine WL.y rfl (Y.add64 rfl rfl (by omega)) ?_
      refine WL.y rfl (Y.assign) ?_
      refine WL.nil (thenQ.normal ?_)
      have hown38 : Own w38 w.heap.size v38 (dl.take (k + 1)) := by
        unfold Own
        rw [← hd, mix3_take_succ _ _ _ n k hta htb htc (by omega), hd, List.length_append, hlen, List.map_append, List.map_cons, List.map_nil, getD_take' _ _ _ (by omega), getD_take' _ _ _ (by omega), getD_take' _ _ _ (by omega)]
        exact ho38
      exact ⟨k + 1, by omega, by omega, rfl, (Below.step (Below.step hb3 hS6) hb37).trans hb38, _, v38, ov_mk ⟨rfl, rfl, rfl, rfl, rfl, rfl, trivial⟩, hown38⟩
    · have hkn : k = n := by omega
      subst hkn
      rw [List.take_of_length_le (by omega)] at hown
      refine WC.exit (thenQ.exit (thenQ.exit (inBlockQ.hit (thenQ.normal ?_))))
      refine WC.seq ?_
      refine WC.regionB (fun i => Nat.beq i 3 || Nat.beq i 4 || Nat.beq i 8 || Nat.beq i 9 || Nat.beq i 14 || Nat.beq i 15 || Nat.beq i 18 || Nat.beq i 21) [(0, .any), (1, .any), (2, .any), (5, .any), (6, .any), (7, .any), (11, .any), (12, .any), (13, .any), (17, .any), (3, .seq), (4, .seq), (8, .seq), (9, .seq), (10, .any), (14, .seq), (15, .seq), (16, .any), (18, .seq), (19, .any), (20, .any), (21, .seq), (22, .any), (23, .any)] mixed (by kernel_rfl) (fun wr7 hS7 hheap => ?_)
      have kr7 := Below.step hb3 hS7
      refine RL.any rfl rfl (fun _ => Y.move) ?_
      refine RL.any rfl rfl (fun _ => Y.move) ?_
      refine RL.yex rfl rfl (Y.sliceTo k Try.underlying22 ti5 (ha.bel kr7) rfl (by omega) (by omega)) ?_
      rintro v41 hs41
      refine RL.any rfl rfl (fun _ => Y.move) ?_
      refine RL.any rfl rfl (fun _ => Y.move) ?_
      refine RL.yex rfl rfl (Y.sliceTo k Try.underlying22 ti5 (hb.bel kr7) rfl (by omega) (by omega)) ?_
      rintro v46 hs46
      refine RL.any rfl rfl (fun _ => Y.move) ?_
      refine RL.any rfl rfl (fun _ => Y.move) ?_
      refine RL.yex rfl rfl (Y.sliceTo k Try.underlying22 ti5 (hc.bel kr7) rfl (by omega) (by omega)) ?_
      rintro v52 hs52
      refine RL.any rfl rfl (fun _ => Y.move) ?_
      refine RL.call rfl rfl (C.func go11) (own_ret v41 (a.take k) _ hs41 (by omega)) ?_
      rintro v42 w42 ⟨ho42, hb42⟩
      refine ⟨.inl rfl, ?_⟩
      have k42 := Below.step kr7 hb42
      refine RL.call rfl rfl (C.func go10) (sum_ret v42 (a.take k) _ ho42.bs) ?_
      rintro _ w43 ⟨rfl, hb43⟩
      refine ⟨.inl rfl, ?_⟩
      have k43 := Below.step k42 hb43
      refine RL.call rfl rfl (C.func go11) (own_ret v46 (b.take k) _ ((hs46.bel hb42).bel hb43) (by omega)) ?_
      rintro v47 w47 ⟨ho47, hb47⟩
      refine ⟨.inl rfl, ?_⟩
      have k47 := Below.step k43 hb47
      refine RL.call rfl rfl (C.func go10) (sum_ret v47 (b.take k) _ ho47.bs) ?_
      rintro _ w48 ⟨rfl, hb48⟩
      refine ⟨.inl rfl, ?_⟩
      have k48 := Below.step k47 hb48
      refine RL.any rfl rfl (fun _ => Y.xorU32 rfl rfl) ?_
      refine RL.call rfl rfl (C.func go11) (own_ret v52 (c.take k) _ ((((hs52.bel hb42).bel hb43).bel hb47).bel hb48) (by omega)) ?_
      rintro v53 w53 ⟨ho53, hb53⟩
      refine ⟨.inl rfl, ?_⟩
      have k53 := Below.step k48 hb53
      refine RL.call rfl rfl (C.func go10) (sum_ret v53 (c.take k) _ ho53.bs) ?_
      rintro _ w54 ⟨rfl, hb54⟩
      refine ⟨.inl rfl, ?_⟩
      have k54 := Below.step k53 hb54
      refine RL.any rfl rfl (fun _ => Y.xorU32 rfl rfl) ?_
      refine RL.call rfl rfl (C.func go10) (sum_ret v3 dl _ (((((((hown.bel hS7).bel hb42).bel hb43).bel hb47).bel hb48).bel hb53).bel hb54).bs) ?_
      rintro _ w57 ⟨rfl, hb57⟩
      refine ⟨.inl rfl, ?_⟩
      have k57 := Below.step k54 hb57
      refine RL.any rfl rfl (fun _ => Y.dT (Y.eqi rfl rfl) (by rw [sum_mix3 _ _ _ k hta htb htc, hd])) ?_
      refine RL.any rfl rfl (fun _ => Y.move) ?_
      refine RL.call rfl rfl (C.func go15) (known_ret _) ?_
      rintro _ w60 ⟨rfl, hb60⟩
      refine ⟨.inl rfl, ?_⟩
      have k60 := Below.step k57 hb60
      refine RL.any rfl rfl (fun _ => Y.pickT rfl) ?_
      refine RL.any rfl rfl (fun _ => Y.assign) ?_
      refine RL.nil (thenQ.normal ?_)
      refine WC.ret (endQ.one (.inr rfl) ?_)
      exact ⟨rfl, k60⟩
end Go.Proofs.Ytkopiibdegdfjaa
