/-
  A net of one's own, alone; and beside the document's.
-/
import Derived.Test.YtjlclaimpepgiaaNet7
namespace Go.Proofs.Ytjlclaimpepgiaa
open Go Go.RowKit Go.Cx
set_option linter.unusedVariables false
open Crc
/-- a net all of whose memory is from block B on -/
def NetOf (w : World) (B bn : Nat) (ps : List (LS × Value)) : Prop := ∃ bl M, B ≤ bn ∧ B ≤ bl ∧ (∀ b, b < B → M b) ∧ NetAt w M bn bl ps
theorem NetOf.bel {w w' : World} {B bn : Nat} {ps : List (LS × Value)} (h : NetOf w B bn ps) (hb : Below w.heap.size w w') : NetOf w' B bn ps := by
  obtain ⟨bl, M, h1, h2, h3, h4⟩ := h
  exact ⟨bl, M, h1, h2, h3, h4.bel hb⟩
theorem netOf_new {w : World} {B bn : Nat} (hB : Blk w bn 28 [.slice none 0 0]) (h : B ≤ bn) : NetOf w B bn [] :=
  ⟨bn, fun b => b = bn ∨ b < B, h, h, fun b hb => .inr hb, fun b hb => by have := hB.lt; omega, _, hB, OwnK.nil, .inl rfl, .inl rfl, fun p hp => by cases hp⟩
theorem NetOf.size {w : World} {B bn : Nat} {ps : List (LS × Value)} (h : NetOf w B bn ps) : B < w.heap.size := by
  obtain ⟨bl, M, h1, h2, h3, h4⟩ := h
  have := h4.1 bn h4.2.choose_spec.2.2.1
  omega
theorem NetOf.lts {w : World} {B bn : Nat} {ps : List (LS × Value)} (h : NetOf w B bn ps) : ∃ M, Lts w M ps := by
  obtain ⟨bl, M, h1, h2, h3, h4⟩ := h
  exact ⟨M, h4.2.choose_spec.2.2.2.2⟩
theorem NetOf.blen {w : World} {B bn : Nat} {ps : List (LS × Value)} (h : NetOf w B bn ps) {i : Nat} (hi : i < ps.length) : ps[i].1.bs.length ≤ 140737488355328 := by
  have hqq := h.lts
  obtain ⟨M, hl⟩ := hqq
  exact (hl _ (List.getElem_mem hi)).2
theorem netOf_kept {w w' : World} {M : Nat → Prop} {B bn bl : Nat} {ps : List (LS × Value)} (h1 : B ≤ bn) (h2 : B ≤ bl) (h3 : ∀ b, b < B → M b) (hB : B ≤ w.heap.size) (h4 : NetAt w' M bn bl ps) (hk : Kept (NB bn bl) w w') : NetOf w' B bn ps ∧ Below B w w' :=
  ⟨⟨bl, M, h1, h2, h3, h4⟩, hk.below (fun b hb => by rcases hb with rfl | rfl <;> assumption) hB⟩
theorem netOf_newer {w w' : World} {M : Nat → Prop} {B bn bl : Nat} {ps : List (LS × Value)} (h1 : B ≤ bn) (h2 : B ≤ bl) (h3 : ∀ b, b < B → M b) (hB : B ≤ w.heap.size) (h : NetNew w w' M bn bl ps) : NetOf w' B bn ps ∧ Below B w w' := by
  obtain ⟨bl', hb', hN, hk⟩ := h
  have h5 : B ≤ bl' := by rcases hb' with rfl | h <;> omega
  exact ⟨⟨bl', _, h1, h5, fun b hb => .inl (h3 b hb), hN⟩, hk.below (fun b hb => by rcases hb with rfl | rfl <;> assumption) hB⟩
/-- a write ahead of it -/
theorem NetOf.writeLt {w w' : World} {B bn b : Nat} {ps : List (LS × Value)} (h : NetOf w B bn ps) (hg : w.grownBy w' (some b)) (hb : b < B) : NetOf w' B bn ps := by
  obtain ⟨bl, M, h1, h2, h3, h4⟩ := h
  exact ⟨bl, M, h1, h2, h3, h4.kept (Kept.of_grown (M := fun k => k = b) hg rfl) (fun k hk _ => hk ▸ h3 b hb) (by omega) (by omega)⟩
section
variable {w : World} {B bn : Nat} {ps : List (LS × Value)}
theorem osend (h : NetOf w B bn ps) (hps : ps.length ≤ 1000000) (to : Int) (bv : Value) (l : List UInt8) (hs : Bs w bv l) (hl : l.length ≤ 140737488355328) :
    Ret Try.prog 10 [.pointer (some ⟨bn, 0, none⟩), .int .u64 to, bv].toArray w fun v w' => v = .int .i64 0 ∧ (∃ fv, NetOf w' B bn (ps ++ [(⟨to, l, false⟩, fv)])) ∧ Below B w w' := by
  have hsz := h.size
  obtain ⟨bl, M, h1, h2, h3, h4⟩ := h
  refine (send_ret w M bn bl ps h4 hps to bv l hs hl).mono ?_
  rintro v w' ⟨rfl, fv, hn⟩
  have := netOf_newer h1 h2 h3 (by omega) hn
  exact ⟨rfl, ⟨fv, this.1⟩, this.2⟩
theorem olen (h : NetOf w B bn ps) : Ret Try.prog 24 [.pointer (some ⟨bn, 0, none⟩)].toArray w fun v w' => v = .int .i64 (ps.length : Int) ∧ w = w' := by
  obtain ⟨bl, M, h1, h2, h3, h4⟩ := h
  exact len_ret w M bn bl ps h4
theorem odrop_out (h : NetOf w B bn ps) (i : Int) (hi : ¬ (0 ≤ i ∧ i < ps.length)) : Ret Try.prog 11 [.pointer (some ⟨bn, 0, none⟩), .int .i64 i].toArray w fun v w' => v = .int .i64 17 ∧ Below w.heap.size w w' := by
  obtain ⟨bl, M, h1, h2, h3, h4⟩ := h
  exact drop_out w M bn bl ps h4 i hi
theorem odrop_in (h : NetOf w B bn ps) (i : Nat) (hi : i < ps.length) : Ret Try.prog 11 [.pointer (some ⟨bn, 0, none⟩), .int .i64 (i : Int)].toArray w fun v w' => v = .int .i64 0 ∧ NetOf w' B bn (ps.eraseIdx i) ∧ Below B w w' := by
  have hsz := h.size
  obtain ⟨bl, M, h1, h2, h3, h4⟩ := h
  refine (drop_in w M bn bl ps h4 i hi).mono ?_
  rintro v w' ⟨rfl, hn, hk⟩
  have := netOf_kept h1 h2 h3 (by omega) hn hk
  exact ⟨rfl, this.1, this.2⟩
theorem odouble_in (h : NetOf w B bn ps) (hps : ps.length ≤ 1000000) (i : Nat) (hi : i < ps.length) : Ret Try.prog 14 [.pointer (some ⟨bn, 0, none⟩), .int .i64 (i : Int)].toArray w fun v w' => v = .int .i64 0 ∧ NetOf w' B bn (ps ++ [ps[i]]) ∧ Below B w w' := by
  have hsz := h.size
  obtain ⟨bl, M, h1, h2, h3, h4⟩ := h
  refine (double_in w M bn bl ps h4 hps i hi).mono ?_
  rintro v w' ⟨rfl, hn⟩
  have := netOf_newer h1 h2 h3 (by omega) hn
  exact ⟨rfl, this.1, this.2⟩
theorem oat_in (h : NetOf w B bn ps) (i : Nat) (hi : i < ps.length) : Ret Try.prog 15 [.pointer (some ⟨bn, 0, none⟩), .int .i64 (i : Int)].toArray w fun v w' => (∃ fv, v = .tuple #[.agg (encL (ps[i].1, fv)).toArray, .int .i64 0] ∧ Own w' w.heap.size fv ps[i].1.bs) ∧ Below w.heap.size w w' := by
  obtain ⟨bl, M, h1, h2, h3, h4⟩ := h
  exact at_in w M bn bl ps h4 i hi
theorem oat_out (h : NetOf w B bn ps) (i : Int) (hi : ¬ (0 ≤ i ∧ i < ps.length)) : Ret Try.prog 15 [.pointer (some ⟨bn, 0, none⟩), .int .i64 i].toArray w fun v w' => v = .tuple #[.agg (encL zeroL).toArray, .int .i64 17] ∧ Below w.heap.size w w' := by
  obtain ⟨bl, M, h1, h2, h3, h4⟩ := h
  exact at_out w M bn bl ps h4 i hi
theorem otake_out (h : NetOf w B bn ps) (i : Int) (hi : ¬ (0 ≤ i ∧ i < ps.length)) : Ret Try.prog 23 [.pointer (some ⟨bn, 0, none⟩), .int .i64 i].toArray w fun v w' => v = .tuple #[.agg (encL zeroL).toArray, .int .i64 17] ∧ Below w.heap.size w w' := by
  obtain ⟨bl, M, h1, h2, h3, h4⟩ := h
  exact take_out w M bn bl ps h4 i hi
theorem ospoil_out (h : NetOf w B bn ps) (i : Int) (hi : ¬ (0 ≤ i ∧ i < ps.length)) (at' : Int) (m : UInt8) : Ret Try.prog 16 [.pointer (some ⟨bn, 0, none⟩), .int .i64 i, .int .i64 at', u8v m].toArray w fun v w' => v = .int .i64 17 ∧ Below w.heap.size w w' := by
  obtain ⟨bl, M, h1, h2, h3, h4⟩ := h
  exact nspoil_out w M bn bl ps h4 i hi at' m
theorem ospoil_err {c : Int} {xs : List UInt8} (hc : c ≠ 0) (h : NetOf w B bn ps) (i : Nat) (hi : i < ps.length) (at' : Int) (m : UInt8) (hsp : spoilOf ps[i].1.bs at' m = (xs, c)) : Ret Try.prog 16 [.pointer (some ⟨bn, 0, none⟩), .int .i64 (i : Int), .int .i64 at', u8v m].toArray w fun v w' => v = .int .i64 c ∧ Below w.heap.size w w' := by
  obtain ⟨bl, M, h1, h2, h3, h4⟩ := h
  exact nspoil_err hc w M bn bl ps h4 i hi at' m hsp
theorem ospoil_spoilt {xs : List UInt8} (h : NetOf w B bn ps) (i : Nat) (hi : i < ps.length) (hp : ps[i].1.sp = true) (at' : Int) (m : UInt8) (hsp : spoilOf ps[i].1.bs at' m = (xs, 0)) : Ret Try.prog 16 [.pointer (some ⟨bn, 0, none⟩), .int .i64 (i : Int), .int .i64 at', u8v m].toArray w fun v w' => v = .int .i64 13 ∧ Below w.heap.size w w' := by
  obtain ⟨bl, M, h1, h2, h3, h4⟩ := h
  exact nspoil_spoilt w M bn bl ps h4 i hi hp at' m hsp
theorem spoilOf_len {l xs : List UInt8} {at' : Int} {m : UInt8} (h : spoilOf l at' m = (xs, 0)) : xs.length = l.length := by
  rcases spoil_cases l at' m with ⟨-, h2⟩ | ⟨-, -, h2⟩ | ⟨j, -, -, -, h2⟩
  · rw [h] at h2; cases congrArg Prod.snd h2
  · rw [h] at h2; cases congrArg Prod.snd h2
  · rw [h] at h2
    rw [show xs = spo l j m from congrArg Prod.fst h2, spo_len]
theorem ospoil_ok {xs : List UInt8} (h : NetOf w B bn ps) (i : Nat) (hi : i < ps.length) (hp : ps[i].1.sp = false) (at' : Int) (m : UInt8) (hsp : spoilOf ps[i].1.bs at' m = (xs, 0)) : Ret Try.prog 16 [.pointer (some ⟨bn, 0, none⟩), .int .i64 (i : Int), .int .i64 at', u8v m].toArray w fun v w' => v = .int .i64 0 ∧ (∃ fv, NetOf w' B bn (ps.set i (⟨ps[i].1.to, xs, true⟩, fv))) ∧ Below B w w' := by
  have hsz := h.size
  have hbl := h.blen hi
  have hxl := spoilOf_len hsp
  obtain ⟨bl, M, h1, h2, h3, h4⟩ := h
  refine (nspoil_ok w M bn bl ps h4 i hi hp at' m hsp (by omega)).mono ?_
  rintro v w' ⟨rfl, fv, hn, hk⟩
  have := netOf_kept h1 h2 h3 (by omega) hn hk
  exact ⟨rfl, ⟨fv, this.1⟩, this.2⟩
theorem ocount (h : NetOf w B bn ps) (x : Int) : Ret Try.prog 25 [.pointer (some ⟨bn, 0, none⟩), .int .u64 x].toArray w fun v w' => v = .int .i64 (cntS x (ps.map Prod.fst) : Int) ∧ Below w.heap.size w w' := by
  obtain ⟨bl, M, h1, h2, h3, h4⟩ := h
  exact count_ret w M bn bl ps h4 x
theorem oall (h : NetOf w B bn ps) (hps : ps.length ≤ 1000000) : Ret Try.prog 12 [.pointer (some ⟨bn, 0, none⟩)].toArray w fun v w' => (∃ b qs, w.heap.size ≤ b ∧ OwnK w' b 36 3 v ps.length (flat qs) ∧ qs.map Prod.fst = ps.map Prod.fst ∧ ∀ q ∈ qs, ∃ B, b < B ∧ Own w' B q.2 q.1.bs) ∧ Below w.heap.size w w' := by
  obtain ⟨bl, M, h1, h2, h3, h4⟩ := h
  exact all_ret w M bn bl ps h4 hps
theorem ospoil_any (h : NetOf w B bn ps) (i : Nat) (hi : i < ps.length) (hp : ps[i].1.sp = false) (at' : Int) (m : UInt8) : Ret Try.prog 16 [.pointer (some ⟨bn, 0, none⟩), .int .i64 (i : Int), .int .i64 at', u8v m].toArray w fun v w' => (∃ ps', NetOf w' B bn ps' ∧ ∀ j, j ≠ i → ps'[j]? = ps[j]?) ∧ Below B w w' := by
  rcases hsp : spoilOf ps[i].1.bs at' m with ⟨xs, c⟩
  by_cases hc : c = 0
  · subst hc
    refine (ospoil_ok h i hi hp at' m hsp).mono ?_
    rintro v w' ⟨-, ⟨fv, hn⟩, hb⟩
    exact ⟨⟨_, hn, fun j hj => by rw [List.getElem?_set_ne (Ne.symm hj)]⟩, hb⟩
  · refine (ospoil_err hc h i hi at' m hsp).mono ?_
    rintro v w' ⟨-, hb⟩
    exact ⟨⟨ps, h.bel hb, fun _ _ => rfl⟩, hb.mono (by have := h.size; omega)⟩
end
theorem spoil255 : spoilOf [1, 2, 3] 2 255 = ([1, 2, 252], 0) := by decide
theorem spoil_again : spoilOf [1, 2, 252] 0 1 = ([0, 2, 252], 0) := by decide
theorem known_ret (w : World) : Ret Try.prog 9 [].toArray w fun v w' => v = .bool true ∧ Below w.heap.size w w' := by
  refine Ret.of (n := 58) (rs := #[.tmp 0]) Try.func9 rfl rfl rfl (by simp) ?_
  refine WC.seqR rfl ?_
  refine WL.y rfl (Y.assign) ?_
  refine WL.nil ?_
  refine WC.seqR rfl ?_
  refine WL.y rfl (Y.build (cells := #[.slice none 0 0]) (by kernel_rfl) _) ?_
  refine WL.eex rfl (E.boxX) ?_
  rintro _ w9 ⟨rfl, hB9, hb9⟩
  have k9 := hb9
  refine WL.y rfl (Y.assign) ?_
  refine WL.nil ?_
  refine WC.seqR rfl ?_
  refine WL.y rfl (Y.move) ?_
  refine WL.eex rfl (E.buildSliceX (len := 3) (cs := ([1, 2, 3] : List UInt8).map u8v) Try.underlying32 ti5 (by omega) (by omega) (by kernel_rfl) rfl) ?_
  rintro v11 w11 ⟨-, ho11, hb11, -⟩
  have k11 := Below.step k9 hb11
  have hN : NetOf w11 w.heap.size w.heap.size [] := (netOf_new hB9 (Nat.le_refl _)).bel hb11
  refine WL.call rfl (C.func go10) (osend hN (by simp) 0 v11 [1, 2, 3] (ownsRow_sl ho11) (by decide)) ?_
  rintro _ w12 ⟨rfl, ⟨f12, hN12⟩, hq12⟩
  have k12 := k11.trans hq12
  refine WL.y rfl (Y.assign) ?_
  refine WL.nil ?_
  refine WC.seqR rfl ?_
  refine WL.y rfl (Y.move) ?_
  refine WL.call rfl (C.func go14) (odouble_in hN12 (by simp) 0 (by simp)) ?_
  rintro _ w14 ⟨rfl, hN14, hq14⟩
  have k14 := k12.trans hq14
  refine WL.y rfl (Y.assign) ?_
  refine WL.nil ?_
  refine WC.seqR rfl ?_
  refine WL.y rfl (Y.move) ?_
  refine WL.call rfl (C.func go16) (ospoil_ok hN14 0 (by simp) rfl 2 255 spoil255) ?_
  rintro _ w16 ⟨rfl, ⟨f16, hN16⟩, hq16⟩
  have k16 := k14.trans hq16
  refine WL.y rfl (Y.assign) ?_
  refine WL.nil ?_
  refine WC.seqR rfl ?_
  refine WL.y rfl (Y.move) ?_
  refine WL.call rfl (C.func go11) (odrop_in hN16 1 (by simp)) ?_
  rintro _ w18 ⟨rfl, hN18, hq18⟩
  have k18 := k16.trans hq18
  refine WL.y rfl (Y.assign) ?_
  refine WL.nil ?_
  refine WC.seqR rfl ?_
  refine WL.y rfl (Y.move) ?_
  refine WL.call rfl (C.func go15) (oat_in hN18 0 (by simp)) ?_
  rintro _ w21 ⟨⟨f21, rfl, ho21⟩, hb21⟩
  have k21 := Below.step k18 hb21
  refine WL.y rfl (Y.move) ?_
  refine WL.y rfl (Y.extract rfl rfl) ?_
  refine WL.y rfl (Y.extract rfl rfl) ?_
  refine WL.eex rfl (E.allocX ti36) ?_
  rintro _ w6 ⟨rfl, hB6, hb6⟩
  have k6 := Below.step k21 hb6
  refine WL.eex rfl (E.storeAll (us := encL (⟨0, [1, 2, 252], true⟩, f21)) ti36 rfl rfl (one_enc ho21.bs.one) hB6 rfl) ?_
  rintro _ w22 ⟨hB22, hg22⟩
  have k22 : Below w.heap.size w w22 := k6.trans (below_of_grown hg22 k6.size (fun k e => by cases e; exact k21.size))
  have ho22 := own_new ho21 hb6 hg22
  have hN22 : NetOf w22 w.heap.size w.heap.size [(⟨0, [1, 2, 252], true⟩, f16)] := (hN18.bel hb21).bel (hb6.trans (below_of_grown hg22 hb6.size (fun k e => by cases e; omega)))
  refine WL.y rfl (Y.assign) ?_
  refine WL.nil ?_
  refine WC.seqR rfl ?_
  refine WL.y rfl (Y.move) ?_
  refine WL.y rfl (Y.dT (Y.eqi rfl rfl) (by omega)) ?_
  refine WL.y rfl (Y.move) ?_
  refine WL.y rfl (Y.move) ?_
  refine WL.y rfl (Y.dT (Y.eqi rfl rfl) (by omega)) ?_
  refine WL.y rfl (Y.pickT rfl) ?_
  refine WL.y rfl (Y.move) ?_
  refine WL.y rfl (Y.move) ?_
  refine WL.y rfl (Y.dT (Y.eqi rfl rfl) (by omega)) ?_
  refine WL.y rfl (Y.pickT rfl) ?_
  refine WL.y rfl (Y.move) ?_
  refine WL.y rfl (Y.move) ?_
  refine WL.y rfl (Y.dT (Y.eqi rfl rfl) (by omega)) ?_
  refine WL.y rfl (Y.pickT rfl) ?_
  refine WL.y rfl (Y.move) ?_
  refine WL.y rfl (Y.move) ?_
  refine WL.y rfl (Y.dT (Y.eqi rfl rfl) (by omega)) ?_
  refine WL.y rfl (Y.pickT rfl) ?_
  refine WL.y rfl (Y.move) ?_
  refine WL.y rfl (Y.loadN Try.underlying36 rfl ti36 rfl (hB22.cells)) ?_
  refine WL.eex rfl (E.buildSliceX (len := 3) (cs := ([1, 2, 252] : List UInt8).map u8v) Try.underlying32 ti5 (by omega) (by omega) (by kernel_rfl) rfl) ?_
  rintro _ w44 ⟨rfl, ho44, hb44, -⟩
  have k44 := Below.step k22 hb44
  refine WL.y rfl (Y.build (cells := (encL (⟨0, [1, 2, 252], true⟩, .slice (some ⟨w22.heap.size, 0, none⟩) 3 3)).toArray) (by kernel_rfl) _) ?_
  refine WL.call rfl (C.func go17) ((sameLetter_ret _ (⟨0, [1, 2, 252], true⟩, f21) (⟨0, [1, 2, 252], true⟩, .slice (some ⟨w22.heap.size, 0, none⟩) 3 3) (ho22.bs.bel hb44) (ownsRow_sl ho44)).yes rfl) ?_
  rintro _ w46 ⟨rfl, hb46⟩
  have k46 := Below.step k44 hb46
  refine WL.y rfl (Y.pickT rfl) ?_
  refine WL.y rfl (Y.move) ?_
  refine WL.y rfl (Y.move) ?_
  refine WL.call rfl (C.func go24) (olen ((hN22.bel hb44).bel hb46)) ?_
  rintro _ _ ⟨rfl, rfl⟩
  refine WL.y rfl (Y.dT (Y.eqi rfl rfl) ((by simp))) ?_
  refine WL.y rfl (Y.pickT rfl) ?_
  refine WL.y rfl (Y.move) ?_
  refine WL.y rfl (Y.move) ?_
  refine WL.call rfl (C.func go16) (ospoil_spoilt ((hN22.bel hb44).bel hb46) 0 (by simp) rfl 0 1 spoil_again) ?_
  rintro _ w55 ⟨rfl, hb55⟩
  have k55 := Below.step k46 hb55
  refine WL.y rfl (Y.dT (Y.eqi rfl rfl) (by omega)) ?_
  refine WL.y rfl (Y.pickT rfl) ?_
  refine WL.y rfl (Y.assign) ?_
  refine WL.nil ?_
  refine WC.ret (endQ.one (.inr rfl) ?_)
  exact ⟨rfl, k55⟩
set_option maxRecDepth 100000 in
theorem netNil_ret (w : World) (i : Int) (hi : (Lit.int .i64 i).wf = true) (x : Int) (hx : (Lit.int .u64 x).wf = true) : Ret Try.prog 7 [.int .i64 i, .int .u64 x].toArray w fun v w' => v = .bool true ∧ Below w.heap.size w w' := by
  refine Ret.of (n := 121) (rs := #[.tmp 4]) Try.func7 rfl rfl rfl (by simp) ?_
  refine WC.seqR rfl ?_
  refine WL.y rfl (Y.assign) ?_
  refine WL.nil ?_
  refine WC.seqR rfl ?_
  refine WL.y rfl (Y.assign) ?_
  refine WL.nil ?_
  refine WC.seqR rfl ?_
  refine WL.eex rfl (E.allocX ti28) ?_
  rintro _ w6 ⟨rfl, hB6, hb6⟩
  have k6 := hb6
  refine WL.nil ?_
  refine WC.seqR rfl ?_
  refine WL.y rfl (Y.move) ?_
  refine WL.y rfl (Y.move) ?_
  refine WL.call rfl (C.func go15) (at_nil _ i) ?_
  rintro _ w18 ⟨rfl, hb18⟩
  have k18 := Below.step k6 hb18
  refine WL.y rfl (Y.move) ?_
  refine WL.y rfl (Y.extract rfl rfl) ?_
  refine WL.y rfl (Y.extract rfl rfl) ?_
  refine WL.eex rfl (E.allocX ti36) ?_
  rintro _ w7 ⟨rfl, hB7, hb7⟩
  have k7 := Below.step k18 hb7
  refine WL.eex rfl (E.storeAll (us := encL zeroL) ti36 rfl rfl zeroL_one hB7 rfl) ?_
  rintro _ w7b ⟨hB7b, hg7⟩
  have k7b : Below w.heap.size w w7b := k7.trans (below_of_grown hg7 k7.size (fun k e => by cases e; exact k18.size))
  refine WL.y rfl (Y.assign) ?_
  refine WL.nil ?_
  refine WC.seqR rfl ?_
  refine WL.y rfl (Y.move) ?_
  refine WL.y rfl (Y.move) ?_
  refine WL.call rfl (C.func go23) (take_nil _ i) ?_
  rintro _ w24 ⟨rfl, hb24⟩
  have k24 := Below.step k7b hb24
  refine WL.y rfl (Y.move) ?_
  refine WL.y rfl (Y.extract rfl rfl) ?_
  refine WL.y rfl (Y.extract rfl rfl) ?_
  refine WL.eex rfl (E.allocX ti36) ?_
  rintro _ w9 ⟨rfl, hB9, hb9⟩
  have k9 := Below.step k24 hb9
  refine WL.eex rfl (E.storeAll (us := encL zeroL) ti36 rfl rfl zeroL_one hB9 rfl) ?_
  rintro _ w9b ⟨hB9b, hg9⟩
  have k9b : Below w.heap.size w w9b := k9.trans (below_of_grown hg9 k9.size (fun k e => by cases e; exact k24.size))
  have hN : NetOf w9b w.heap.size w.heap.size [] := netOf_new (((((hB6.bel hb18).bel hb7).grown hg7 (by have := hB6.lt; have := hb18.size; omega)).bel hb24).bel hb9 |>.grown hg9 (by have := hB6.lt; have := hb18.size; have := hb7.size; have := hg7.size; have := hb24.size; omega)) (Nat.le_refl _)
  refine WL.y rfl (Y.assign) ?_
  refine WL.nil ?_
  refine WC.seqR rfl ?_
  refine WL.y rfl (Y.move) ?_
  refine WL.call rfl (C.func go15) (oat_out hN i (by simp)) ?_
  rintro _ w29 ⟨rfl, hb29⟩
  have k29 := Below.step k9b hb29
  refine WL.y rfl (Y.move) ?_
  refine WL.y rfl (Y.extract rfl rfl) ?_
  refine WL.y rfl (Y.extract rfl rfl) ?_
  refine WL.eex rfl (E.allocX ti36) ?_
  rintro _ w11 ⟨rfl, hB11, hb11⟩
  have k11 := Below.step k29 hb11
  refine WL.eex rfl (E.storeAll (us := encL zeroL) ti36 rfl rfl zeroL_one hB11 rfl) ?_
  rintro _ w11b ⟨hB11b, hg11⟩
  have k11b : Below w.heap.size w w11b := k11.trans (below_of_grown hg11 k11.size (fun k e => by cases e; exact k29.size))
  have hN2 : NetOf w11b w.heap.size w.heap.size [] := (hN.bel hb29).bel (hb11.trans (below_of_grown hg11 hb11.size (fun k e => by cases e; omega)))
  refine WL.y rfl (Y.assign) ?_
  refine WL.nil ?_
  refine WC.seqR rfl ?_
  refine WL.y rfl (Y.move) ?_
  refine WL.call rfl (C.func go23) (otake_out hN2 i (by simp)) ?_
  rintro _ w34 ⟨rfl, hb34⟩
  have k34 := Below.step k11b hb34
  refine WL.y rfl (Y.move) ?_
  refine WL.y rfl (Y.extract rfl rfl) ?_
  refine WL.y rfl (Y.extract rfl rfl) ?_
  refine WL.eex rfl (E.allocX ti36) ?_
  rintro _ w13 ⟨rfl, hB13, hb13⟩
  have k13 := Below.step k34 hb13
  refine WL.eex rfl (E.storeAll (us := encL zeroL) ti36 rfl rfl zeroL_one hB13 rfl) ?_
  rintro _ w13b ⟨hB13b, hg13⟩
  have k13b : Below w.heap.size w w13b := k13.trans (below_of_grown hg13 k13.size (fun k e => by cases e; exact k34.size))
  have hN3 : NetOf w13b w.heap.size w.heap.size [] := (hN2.bel hb34).bel (hb13.trans (below_of_grown hg13 hb13.size (fun k e => by cases e; omega)))
  refine WL.y rfl (Y.assign) ?_
  refine WL.nil ?_
  refine WC.seqR rfl ?_
  refine WL.y rfl (Y.move) ?_
  refine WL.y rfl (Y.dT (Y.eqi rfl rfl) (by omega)) ?_
  refine WL.y rfl (Y.move) ?_
  refine WL.y rfl (Y.move) ?_
  refine WL.y rfl (Y.dT (Y.eqi rfl rfl) (by omega)) ?_
  refine WL.y rfl (Y.pickT rfl) ?_
  refine WL.y rfl (Y.move) ?_
  refine WL.y rfl (Y.move) ?_
  refine WL.y rfl (Y.dT (Y.eqi rfl rfl) (by omega)) ?_
  refine WL.y rfl (Y.pickT rfl) ?_
  refine WL.y rfl (Y.move) ?_
  refine WL.y rfl (Y.move) ?_
  refine WL.y rfl (Y.dT (Y.eqi rfl rfl) (by omega)) ?_
  refine WL.y rfl (Y.pickT rfl) ?_
  refine WL.y rfl (Y.move) ?_
  refine WL.y rfl (Y.move) ?_
  refine WL.y rfl (Y.move) ?_
  refine WL.call rfl (C.func go10) (send_nil _ x _) ?_
  rintro _ _ ⟨rfl, rfl⟩
  refine WL.y rfl (Y.dT (Y.eqi rfl rfl) (by omega)) ?_
  refine WL.y rfl (Y.pickT rfl) ?_
  refine WL.y rfl (Y.move) ?_
  refine WL.y rfl (Y.move) ?_
  refine WL.y rfl (Y.move) ?_
  refine WL.call rfl (C.func go11) (drop_nil _ i) ?_
  rintro _ w60 ⟨rfl, hb60⟩
  have k60 := Below.step k13b hb60
  refine WL.y rfl (Y.dT (Y.eqi rfl rfl) (by omega)) ?_
  refine WL.y rfl (Y.pickT rfl) ?_
  refine WL.y rfl (Y.move) ?_
  refine WL.y rfl (Y.move) ?_
  refine WL.y rfl (Y.move) ?_
  refine WL.call rfl (C.func go14) (double_nil _ i) ?_
  rintro _ w66 ⟨rfl, hb66⟩
  have k66 := Below.step k60 hb66
  refine WL.y rfl (Y.dT (Y.eqi rfl rfl) (by omega)) ?_
  refine WL.y rfl (Y.pickT rfl) ?_
  refine WL.y rfl (Y.move) ?_
  refine WL.y rfl (Y.move) ?_
  refine WL.y rfl (Y.move) ?_
  refine WL.y rfl (Y.move) ?_
  refine WL.call rfl (C.func go16) (nspoil_nil _ i i 0) ?_
  rintro _ w73 ⟨rfl, hb73⟩
  have k73 := Below.step k66 hb73
  refine WL.y rfl (Y.dT (Y.eqi rfl rfl) (by omega)) ?_
  refine WL.y rfl (Y.pickT rfl) ?_
  refine WL.y rfl (Y.move) ?_
  refine WL.y rfl (Y.move) ?_
  refine WL.call rfl (C.func go24) (len_nil _) ?_
  rintro _ _ ⟨rfl, rfl⟩
  refine WL.y rfl (Y.dT (Y.eqi rfl rfl) (by omega)) ?_
  refine WL.y rfl (Y.pickT rfl) ?_
  refine WL.y rfl (Y.move) ?_
  refine WL.y rfl (Y.move) ?_
  refine WL.call rfl (C.func go12) (all_nil _) ?_
  rintro _ _ ⟨rfl, rfl⟩
  refine WL.y rfl (Y.lenV Try.underlying26 rfl _) ?_
  refine WL.y rfl (Y.dT (Y.eqi rfl rfl) (by omega)) ?_
  refine WL.y rfl (Y.pickT rfl) ?_
  refine WL.y rfl (Y.move) ?_
  refine WL.y rfl (Y.move) ?_
  refine WL.y rfl (Y.move) ?_
  refine WL.call rfl (C.func go25) (count_nil _ x) ?_
  rintro _ _ ⟨rfl, rfl⟩
  refine WL.y rfl (Y.dT (Y.eqi rfl rfl) (by omega)) ?_
  refine WL.y rfl (Y.pickT rfl) ?_
  refine WL.y rfl (Y.move) ?_
  refine WL.y rfl (Y.move) ?_
  refine WL.call rfl (C.func go26) (copy_nil _) ?_
  rintro _ _ ⟨rfl, rfl⟩
  refine WL.y rfl (Y.bT (Y.eqpn Try.underlying25 rfl rfl) (rfl)) ?_
  have hN4 : NetOf w73 w.heap.size w.heap.size [] := ((hN3.bel hb60).bel hb66).bel hb73
  refine WL.y rfl (Y.pickT rfl) ?_
  refine WL.y rfl (Y.move) ?_
  refine WL.call rfl (C.func go24) (olen hN4) ?_
  rintro _ _ ⟨rfl, rfl⟩
  refine WL.y rfl (Y.dT (Y.eqi rfl rfl) ((by simp))) ?_
  refine WL.y rfl (Y.pickT rfl) ?_
  refine WL.y rfl (Y.move) ?_
  refine WL.call rfl (C.func go12) (oall hN4 (by simp)) ?_
  rintro v103 w103 ⟨⟨b103, qs, -, ho103, -, -⟩, hb103⟩
  have k103 := Below.step k73 hb103
  refine WL.y rfl (Y.lenSl Try.underlying26 (ho103.sl) _) ?_
  refine WL.y rfl (Y.dT (Y.eqi rfl rfl) ((by simp))) ?_
  refine WL.y rfl (Y.pickT rfl) ?_
  refine WL.y rfl (Y.move) ?_
  refine WL.y rfl (Y.move) ?_
  refine WL.call rfl (C.func go25) (ocount (hN4.bel hb103) x) ?_
  rintro _ w109 ⟨rfl, hb109⟩
  have k109 := Below.step k103 hb109
  refine WL.y rfl (Y.dT (Y.eqi rfl rfl) ((by simp [cntS]))) ?_
  refine WL.y rfl (Y.pickT rfl) ?_
  refine WL.y rfl (Y.move) ?_
  refine WL.y rfl (Y.move) ?_
  refine WL.y rfl (Y.move) ?_
  refine WL.call rfl (C.func go16) (ospoil_out ((hN4.bel hb103).bel hb109) i (by simp) i 0) ?_
  rintro _ w115 ⟨rfl, hb115⟩
  have k115 := Below.step k109 hb115
  refine WL.y rfl (Y.dT (Y.eqi rfl rfl) (by omega)) ?_
  refine WL.y rfl (Y.pickT rfl) ?_
  refine WL.y rfl (Y.move) ?_
  refine WL.call rfl (C.func go9) (known_ret _) ?_
  rintro _ w119 ⟨rfl, hb119⟩
  have k119 := Below.step k115 hb119
  refine WL.y rfl (Y.pickT rfl) ?_
  refine WL.y rfl (Y.assign) ?_
  refine WL.nil ?_
  refine WC.ret (endQ.one (.inr rfl) ?_)
  exact ⟨rfl, k119⟩
end Go.Proofs.Ytjlclaimpepgiaa
