/-
  The law's 'do'.
-/
import Derived.Test.YtjlclaimpepgiaaNet10
namespace Go.Proofs.Ytjlclaimpepgiaa
open Go Go.RowKit Go.Cx
set_option linter.unusedVariables false
open Crc
section
variable {w w' w1 w2 : World} {M M1 : Nat → Prop} {B bn bn' bw : Nat} {lsN lsR : List LS}
theorem PairStep.next (hk : Kept M w w1) (hm : ∀ b, M1 b → M b ∨ w.heap.size ≤ b) (h : PairStep w1 w2 M1 B bn bw lsN lsR) : PairStep w w2 M B bn bw lsN lsR := by
  obtain ⟨M2, h1, h2, h3⟩ := h
  refine ⟨M2, h1, hk.trans' h2 (fun b hb hs => (hm b hb).elim id (fun h => by omega)), fun b hb => ?_⟩
  rcases h3 b hb with h | h
  · exact hm b h
  · exact .inr (Nat.le_trans hk.size h)
theorem PairAt.refM (h : PairAt w M B bn bw lsN lsR) : ∃ v psR, Blk w bw 46 [v] ∧ SlA w M 3 v psR.length (flat psR) ∧ psR.map Prod.fst = lsR ∧ Lts w M psR := by
  obtain ⟨bl, psN, psR, h1, h2, h3, h4, h5, rfl, rfl⟩ := h
  obtain ⟨hMs, v, hBl, hm1, hs, hl⟩ := h5
  exact ⟨v, psR, hBl, hs, rfl, hl⟩
theorem ptake_in' (h : PairAt w M B bn bw lsN lsR) (i : Nat) (hi : i < lsN.length) : Ret Try.prog 23 [.pointer (some ⟨bn, 0, none⟩), .int .i64 (i : Int)].toArray w fun v w' => (∃ fv, v = .tuple #[.agg (encL (lsN[i], fv)).toArray, .int .i64 0] ∧ SlA w' M 1 fv lsN[i].bs.length (lsN[i].bs.map u8v)) ∧ PairAt w' M B bn bw (lsN.eraseIdx i) lsR ∧ Kept M w w' := by
  have hms := h.ms
  obtain ⟨bl, psN, psR, h1, h2, h3, h4, h5, rfl, rfl⟩ := h
  refine (take_in w M bn bl psN h4 i (by simpa using hi)).mono ?_
  rintro v w' ⟨⟨fv, rfl, ho⟩, hn, hk⟩
  have hmn := h4.2.choose_spec.2.2.1
  have hml := h4.2.choose_spec.2.2.2.1
  refine ⟨⟨fv, by simp, ?_⟩, ⟨bl, psN.eraseIdx i, psR, h1, h2, h3, hn, h5.kept hk (NB_lt hmn hml) (fun h => by rcases h with h | h; exact h2 h; exact h3 h), map_erase _ _ _, rfl⟩, hk.mono (NB_lt hmn hml)⟩
  rw [List.getElem_map]
  exact SlA.of_own ho (fun b hb _ => hms b hb)
end
theorem bel_new {w w1 w2 : World} (hb : Below w.heap.size w w1) (hg : w1.grownBy w2 (some w.heap.size)) : Below w.heap.size w w2 := hb.trans (below_of_grown hg hb.size (fun k e => by cases e; exact Nat.le_refl _))
theorem one_L {l : LS} {fv : Value} {w : World} {M : Nat → Prop} (h : SlA w M 1 fv l.bs.length (l.bs.map u8v)) : ∀ u ∈ encL (l, fv), One u = true := one_enc h.one
set_option maxHeartbeats 4000000 in
theorem do_ret (w : World) (M : Nat → Prop) (B bn bw : Nat) (ls : List LS) (h : PairAt w M B bn bw ls ls) (hps : ls.length ≤ 100000) (p : AS × Value) (hs : SlA w M 1 p.2 p.1.bs.length (p.1.bs.map u8v)) (hl : p.1.bs.length ≤ 140737488355328) :
    Ret Try.prog 21 [.pointer (some ⟨bn, 0, none⟩), .pointer (some ⟨bw, 0, none⟩), .agg (encA p).toArray].toArray w fun v w' => ∃ bn', v = .tuple #[.pointer (some ⟨bn', 0, none⟩), .bool true] ∧ PairStep w w' M B bn' bw (doS p.1 ls) (doS p.1 ls) := by
  have hms := h.ms
  have hnM : ¬ M w.heap.size := fun hb => by have := hms _ hb; omega
  obtain ⟨⟨kind, to, bs, at', n, m⟩, fv⟩ := p
  simp only at hs hl
  by_cases k1 : kind = 1
  · subst k1
    have hdo : doS ⟨1, to, bs, at', n, m⟩ ls = ls ++ [⟨to, bs, false⟩] := rfl
    rw [hdo]
    refine Ret.of (n := 124) (rs := #[.tmp 6, .tmp 7]) Try.func21 rfl rfl rfl (by simp) ?_
    refine WC.seqR rfl ?_
    refine WL.eex rfl (E.boxX) ?_
    rintro _ w5 ⟨rfl, hB5, hb5⟩
    refine WL.y rfl (Y.assign) ?_
    refine WL.y rfl (Y.assign) ?_
    refine WL.nil ?_
    refine WC.seq ?_
    refine WC.seqR rfl ?_
    refine WL.y rfl (Y.fieldAddr fi55f0 ti3 (by decide) rfl (rfl) _) ?_
    refine WL.y rfl (Y.load1 Try.underlying3 rfl rfl ((show _ = some (Value.int .i64 1) from (hB5.cell 0).trans rfl))) ?_
    refine WL.nil ?_
    refine WC.block ?_
    refine WC.seqR rfl ?_
    refine WL.y rfl (Y.dT (Y.eqi rfl rfl) (by omega)) ?_
    refine WL.y rfl (Y.assign) ?_
    refine WL.nil ?_
    refine WC.condT (rfl) ?_
    refine WC.seqR rfl ?_
    refine WL.y rfl (Y.move) ?_
    refine WL.y rfl (Y.fieldAddr fi55f1 ti31 (by decide) rfl (rfl) _) ?_
    refine WL.y rfl (Y.load1 Try.underlying31 rfl rfl ((show _ = some (Value.int .u64 to) from (hB5.cell 1).trans rfl))) ?_
    refine WL.y rfl (Y.fieldAddr fi55f2 ti32 (by decide) rfl (rfl) _) ?_
    refine WL.y rfl (Y.load1 Try.underlying32 rfl rfl ((show _ = some fv from (hB5.cell 2).trans rfl))) ?_
    refine WL.call rfl (C.func go18) (psendR (h.bel hb5) (by omega) to fv bs (hs.sl.bel hb5) hl) ?_
    rintro _ w21 ⟨rfl, M1, hP21, hk21, hm21⟩
    refine WL.nil ?_
    refine WC.seq ?_
    have hlt5 := hB5.lt
    have hn1 : ¬ M1 w.heap.size := fun hb => by rcases hm21 _ hb with h | h; exact hnM h; omega
    have hB21 := hB5.kept hk21 hnM
    have hs21 : Bs w21 fv bs := ((hs.bel hb5).kept hk21 (fun b hb _ => hb)).sl
    refine WC.regionK (M1) (fun i => Nat.beq i 7) [(0, .any), (1, .any), (2, .any), (3, .held), (4, .any), (5, .held), (6, .seq), (7, .seq), (8, .any), (9, .any), (10, .any)] mixed (by kernel_rfl) (fun wr4 hS4 hheap => ?_)
    refine RL.any rfl rfl (fun _ => Y.move) ?_
    refine RL.any rfl rfl (fun _ => Y.move) ?_
    refine RL.any rfl rfl (fun _ => Y.fieldAddr fi55f1 ti31 (by decide) rfl (rfl) _) ?_
    refine RL.held rfl rfl (Kept.refl _ _) (fun _ hb9 => Y.load1 Try.underlying31 rfl rfl ((show _ = some (Value.int .u64 to) from ((((hB21.bel hS4).kept hb9 hn1).cell 1).trans rfl)))) ?_
    refine RL.any rfl rfl (fun _ => Y.fieldAddr fi55f2 ti32 (by decide) rfl (rfl) _) ?_
    refine RL.held rfl rfl (Kept.refl _ _) (fun _ hb9 => Y.load1 Try.underlying32 rfl rfl ((show _ = some fv from ((((hB21.bel hS4).kept hb9 hn1).cell 2).trans rfl)))) ?_
    refine RL.call rfl rfl (C.func go13) (rown_ret fv bs _ (hs21.bel hS4) hl) ?_
    rintro v28 w28 ⟨ho28, hb28⟩
    refine ⟨.inr (fun h => h.trans (Kept.of_bel hb28)), ?_⟩
    refine RL.call rfl rfl (C.func go10) (psend ((hP21.bel hS4).bel hb28) (by omega) to v28 bs ho28.bs hl) ?_
    rintro _ w29 ⟨rfl, hP29⟩
    refine ⟨.inl rfl, ?_⟩
    refine RL.any rfl rfl (fun _ => Y.dT (Y.eqi rfl rfl) (by omega)) ?_
    refine RL.any rfl rfl (fun _ => Y.assign) ?_
    refine RL.any rfl rfl (fun _ => Y.assign) ?_
    refine RL.nil (thenQ.normal ?_)
    refine WC.ret (inBlockQ.ret (thenQ.ret (endQ.two (.inr rfl) ?_)))
    exact ⟨bn, rfl, ((PairStep.next hk21 hm21 ((hP29.pre hb28).pre hS4)).pre hb5)⟩
  · by_cases k2 : kind = 2
    · subst k2
      have hdo : doS ⟨2, to, bs, at', n, m⟩ ls = (dropS ls at').1 := rfl
      rw [hdo]
      by_cases hin : inS ls at'
      · have hdr : dropS ls at' = (ls.eraseIdx at'.toNat, 0) := by unfold dropS; rw [if_pos hin]
        have hqq := inS_nat hin
        obtain ⟨j, rfl, hj⟩ := hqq
        rw [Int.toNat_natCast] at hdr
        refine Ret.of (n := 124) (rs := #[.tmp 6, .tmp 7]) Try.func21 rfl rfl rfl (by simp) ?_
        refine WC.seqR rfl ?_
        refine WL.eex rfl (E.boxX) ?_
        rintro _ w5 ⟨rfl, hB5, hb5⟩
        refine WL.y rfl (Y.assign) ?_
        refine WL.y rfl (Y.assign) ?_
        refine WL.nil ?_
        refine WC.seq ?_
        refine WC.seqR rfl ?_
        refine WL.y rfl (Y.fieldAddr fi55f0 ti3 (by decide) rfl (rfl) _) ?_
        refine WL.y rfl (Y.load1 Try.underlying3 rfl rfl ((show _ = some (Value.int .i64 2) from (hB5.cell 0).trans rfl))) ?_
        refine WL.nil ?_
        refine WC.block ?_
        refine WC.seqR rfl ?_
        refine WL.y rfl (Y.dF (Y.eqi rfl rfl) (by omega)) ?_
        refine WL.y rfl (Y.assign) ?_
        refine WL.nil ?_
        refine WC.condF (rfl) ?_
        refine WC.seqR rfl ?_
        refine WL.y rfl (Y.dT (Y.eqi rfl rfl) (by omega)) ?_
        refine WL.y rfl (Y.assign) ?_
        refine WL.nil ?_
        refine WC.condT (rfl) ?_
        refine WC.seqR rfl ?_
        refine WL.y rfl (Y.move) ?_
        refine WL.y rfl (Y.fieldAddr fi55f3 ti3 (by decide) rfl (rfl) _) ?_
        refine WL.y rfl (Y.load1 Try.underlying3 rfl rfl ((show _ = some (Value.int .i64 (j : Int)) from (hB5.cell 3).trans rfl))) ?_
        refine WL.call rfl (C.func go23) (ptake_in' (h.bel hb5) j hj) ?_
        rintro _ w37 ⟨⟨f37, rfl, hf37⟩, hP37, hk37⟩
        have hB37 := hB5.kept hk37 hnM
        refine WL.y rfl (Y.move) ?_
        refine WL.y rfl (Y.extract rfl rfl) ?_
        refine WL.y rfl (Y.extract rfl rfl) ?_
        refine WL.eex rfl (E.allocX ti36) ?_
        rintro _ w8 ⟨rfl, hB8, hb8⟩
        refine WL.eex rfl (E.storeAll (us := encL (ls[j], f37)) ti36 rfl rfl (one_L hf37) hB8 rfl) ?_
        rintro _ w8b ⟨hB8b, hg8⟩
        have hb8b := bel_new hb8 hg8
        refine WL.y rfl (Y.assign) ?_
        refine WL.nil ?_
        refine WC.seqR rfl ?_
        refine WL.eex rfl (E.allocX ti36) ?_
        rintro _ w10 ⟨rfl, hB10, hb10⟩
        refine WL.nil ?_
        refine WC.seq ?_
        refine WC.seqR rfl ?_
        refine WL.y rfl (Y.move) ?_
        refine WL.y rfl (Y.fieldAddr fi55f3 ti3 (by decide) rfl (rfl) _) ?_
        refine WL.y rfl (Y.load1 Try.underlying3 rfl rfl ((show _ = some (Value.int .i64 (j : Int)) from (((hB37.bel hb8b).bel hb10).cell 3).trans rfl))) ?_
        refine WL.call rfl (C.func go37) ((pis ((hP37.bel hb8b).bel hb10) (j : Int)).yes ⟨by omega, by omega⟩) ?_
        rintro _ _ ⟨rfl, rfl⟩
        refine WL.nil ?_
        have hP8 := hP37.bel hb8b
        have hqq := hP8.refM
        obtain ⟨vR, psR, hBR8, hSR8, hmR, hlR⟩ := hqq
        have hBR := hBR8.bel hb10
        have hSR := hSR8.bel hb10
        have hjR : j < psR.length := by have := congrArg List.length hmR; simp only [List.length_map] at this; omega
        have hgR : psR.getD j zeroL = psR[j] := by simp [hjR]
        have heR : ls[j] = psR[j].1 := by
          have : (psR.map Prod.fst)[j]? = ls[j]? := by rw [hmR]
          simp only [List.getElem?_map, List.getElem?_eq_getElem hjR, List.getElem?_eq_getElem hj, Option.map_some, Option.some.injEq] at this
          exact this.symm
        have hB37' := (hB37.bel hb8b).bel hb10
        have hlp := (hlR psR[j] (List.getElem_mem hjR)).1
        have hm37 := hP37.ms
        have h8s := hb8b.size
        have hlt8 := hB8b.lt
        have hn8 : ¬ M w37.heap.size := fun hb => by have := hm37 _ hb; omega
        have hn10 : ¬ M w8b.heap.size := fun hb => by have := hm37 _ hb; omega
        refine WC.condT (rfl) ?_
        refine WC.regionB (fun i => Nat.beq i 8) [(0, .any), (1, .any), (2, .any), (3, .held), (4, .any), (5, .held), (6, .any), (7, .held), (8, .seq)] mixed (by kernel_rfl) (fun wr9 hS9 hheap => ?_)
        refine RL.any rfl rfl (fun _ => Y.move) ?_
        refine RL.any rfl rfl (fun _ => Y.nilCheck rfl) ?_
        refine RL.any rfl rfl (fun _ => Y.fieldAddr fi46f0 ti26 (by decide) rfl (rfl) _) ?_
        refine RL.held rfl rfl hS9 (fun _ hb9 => Y.load1 Try.underlying26 rfl rfl (cell_bel hBR.one hb9)) ?_
        refine RL.any rfl rfl (fun _ => Y.fieldAddr fi55f3 ti3 (by decide) rfl (rfl) _) ?_
        refine RL.held rfl rfl hS9 (fun _ hb9 => Y.load1 Try.underlying3 rfl rfl ((show _ = some (Value.int .i64 (j : Int)) from ((hB37'.bel hb9).cell 3).trans rfl))) ?_
        refine RL.yex rfl rfl (Y.idxF (enc := encL) zeroL encL_len (by decide) Try.underlying26 ti36 hSR.sl rfl (by omega) (by omega)) ?_
        rintro _ ⟨b50, o50, rfl, hc50⟩
        simp only [Int.toNat_natCast, hgR] at hc50
        refine RL.held rfl rfl hS9 (fun _ hb9 => Y.loadN Try.underlying36 rfl ti36 rfl (hc50.bel hb9)) ?_
        refine RL.eex rfl rfl (E.storeAll (us := encL psR[j]) ti36 rfl rfl (one_enc hlp.one) (hB10.bel hS9) rfl) ?_ ?_
        · exact fun _ _ _ => .inl rfl
        rintro _ w10b ⟨hB10b, hg10⟩
        have hb10b := bel_new (Below.step hb10 hS9) hg10
        have hbb := Below.step hb8b hb10b
        refine RL.nil (thenQ.normal ?_)
        refine WC.seqR rfl ?_
        refine WL.y rfl (Y.move) ?_
        refine WL.y rfl (Y.move) ?_
        refine WL.y rfl (Y.move) ?_
        refine WL.y rfl (Y.fieldAddr fi55f3 ti3 (by decide) rfl (rfl) _) ?_
        refine WL.y rfl (Y.load1 Try.underlying3 rfl rfl ((show _ = some (Value.int .i64 (j : Int)) from ((hB37.bel hbb).cell 3).trans rfl))) ?_
        refine WL.call rfl (C.func go38) (pdropR (hP37.bel hbb) (by omega) (j : Int)) ?_
        rintro _ w57 ⟨rfl, M2, hP57, hk57, hm57⟩
        refine WL.y rfl (Y.dT (Y.eqi rfl rfl) ((by rw [hdr]))) ?_
        refine WL.y rfl (Y.move) ?_
        refine WL.y rfl (Y.loadN Try.underlying36 rfl ti36 rfl (((hB8b.bel hb10b).kept hk57 hn8).cells)) ?_
        refine WL.y rfl (Y.loadN Try.underlying36 rfl ti36 rfl ((hB10b.kept hk57 hn10).cells)) ?_
        refine WL.call rfl (C.func go17) ((sameLetter_ret _ (ls[j], f37) psR[j] ((hf37.bel hbb).kept hk57 (fun b hb _ => hb)).sl ((hlp.bel hb10b).kept hk57 (fun b hb _ => hb)).sl).yes heR) ?_
        rintro _ w62 ⟨rfl, hb62⟩
        refine WL.y rfl (Y.pickT rfl) ?_
        refine WL.y rfl (Y.assign) ?_
        refine WL.y rfl (Y.assign) ?_
        refine WL.nil ?_
        refine WC.ret (inBlockQ.ret (thenQ.ret (endQ.two (.inr rfl) ?_)))
        rw [hdr] at hP57
        rw [hdr]
        exact ⟨bn, rfl, (PairStep.next hk37 (fun b hb => .inl hb) (PairStep.pre hbb (PairStep.next hk57 hm57 (PairStep.of_bel hP57 hb62)))).pre hb5⟩
      · have hdr : dropS ls at' = (ls, 17) := by unfold dropS; rw [if_neg hin]
        refine Ret.of (n := 124) (rs := #[.tmp 6, .tmp 7]) Try.func21 rfl rfl rfl (by simp) ?_
        refine WC.seqR rfl ?_
        refine WL.eex rfl (E.boxX) ?_
        rintro _ w5 ⟨rfl, hB5, hb5⟩
        refine WL.y rfl (Y.assign) ?_
        refine WL.y rfl (Y.assign) ?_
        refine WL.nil ?_
        refine WC.seq ?_
        refine WC.seqR rfl ?_
        refine WL.y rfl (Y.fieldAddr fi55f0 ti3 (by decide) rfl (rfl) _) ?_
        refine WL.y rfl (Y.load1 Try.underlying3 rfl rfl ((show _ = some (Value.int .i64 2) from (hB5.cell 0).trans rfl))) ?_
        refine WL.nil ?_
        refine WC.block ?_
        refine WC.seqR rfl ?_
        refine WL.y rfl (Y.dF (Y.eqi rfl rfl) (by omega)) ?_
        refine WL.y rfl (Y.assign) ?_
        refine WL.nil ?_
        refine WC.condF (rfl) ?_
        refine WC.seqR rfl ?_
        refine WL.y rfl (Y.dT (Y.eqi rfl rfl) (by omega)) ?_
        refine WL.y rfl (Y.assign) ?_
        refine WL.nil ?_
        refine WC.condT (rfl) ?_
        refine WC.seqR rfl ?_
        refine WL.y rfl (Y.move) ?_
        refine WL.y rfl (Y.fieldAddr fi55f3 ti3 (by decide) rfl (rfl) _) ?_
        refine WL.y rfl (Y.load1 Try.underlying3 rfl rfl ((show _ = some (Value.int .i64 at') from (hB5.cell 3).trans rfl))) ?_
        refine WL.call rfl (C.func go23) (ptake_out (h.bel hb5) at' hin) ?_
        rintro _ w37 ⟨rfl, hb37⟩
        refine WL.y rfl (Y.move) ?_
        refine WL.y rfl (Y.extract rfl rfl) ?_
        refine WL.y rfl (Y.extract rfl rfl) ?_
        refine WL.eex rfl (E.allocX ti36) ?_
        rintro _ w8 ⟨rfl, hB8, hb8⟩
        refine WL.eex rfl (E.storeAll (us := encL zeroL) ti36 rfl rfl zeroL_one hB8 rfl) ?_
        rintro _ w8b ⟨hB8b, hg8⟩
        have hb8b := bel_new hb8 hg8
        have hB37 := hB5.bel hb37
        refine WL.y rfl (Y.assign) ?_
        refine WL.nil ?_
        refine WC.seqR rfl ?_
        refine WL.eex rfl (E.allocX ti36) ?_
        rintro _ w10 ⟨rfl, hB10, hb10⟩
        refine WL.nil ?_
        refine WC.seq ?_
        refine WC.seqR rfl ?_
        refine WL.y rfl (Y.move) ?_
        refine WL.y rfl (Y.fieldAddr fi55f3 ti3 (by decide) rfl (rfl) _) ?_
        refine WL.y rfl (Y.load1 Try.underlying3 rfl rfl ((show _ = some (Value.int .i64 at') from (((hB37.bel hb8b).bel hb10).cell 3).trans rfl))) ?_
        refine WL.call rfl (C.func go37) ((pis ((((h.bel hb5).bel hb37).bel hb8b).bel hb10) at').no hin) ?_
        rintro _ _ ⟨rfl, rfl⟩
        refine WL.nil ?_
        have hP37 := (h.bel hb5).bel hb37
        have hm37 := hP37.ms
        have h8s := hb8b.size
        have hlt8 := hB8b.lt
        have hn8 : ¬ M w37.heap.size := fun hb => by have := hm37 _ hb; omega
        have hn10 : ¬ M w8b.heap.size := fun hb => by have := hm37 _ hb; omega
        have hbb := Below.step hb8b hb10
        refine WC.condF (rfl) ?_
        refine WC.skip (thenQ.normal ?_)
        refine WC.seqR rfl ?_
        refine WL.y rfl (Y.move) ?_
        refine WL.y rfl (Y.move) ?_
        refine WL.y rfl (Y.move) ?_
        refine WL.y rfl (Y.fieldAddr fi55f3 ti3 (by decide) rfl (rfl) _) ?_
        refine WL.y rfl (Y.load1 Try.underlying3 rfl rfl ((show _ = some (Value.int .i64 at') from ((hB37.bel hbb).cell 3).trans rfl))) ?_
        refine WL.call rfl (C.func go38) (pdropR (hP37.bel hbb) (by omega) at') ?_
        rintro _ w57 ⟨rfl, M2, hP57, hk57, hm57⟩
        refine WL.y rfl (Y.dT (Y.eqi rfl rfl) ((by rw [hdr]))) ?_
        refine WL.y rfl (Y.move) ?_
        refine WL.y rfl (Y.loadN Try.underlying36 rfl ti36 rfl (((hB8b.bel hb10).kept hk57 hn8).cells)) ?_
        refine WL.y rfl (Y.loadN Try.underlying36 rfl ti36 rfl ((show Cells _ _ _ (encL zeroL) from (hB10.kept hk57 hn10).cells))) ?_
        refine WL.call rfl (C.func go17) ((sameLetter_ret _ zeroL zeroL SlK.nil SlK.nil).yes rfl) ?_
        rintro _ w62 ⟨rfl, hb62⟩
        refine WL.y rfl (Y.pickT rfl) ?_
        refine WL.y rfl (Y.assign) ?_
        refine WL.y rfl (Y.assign) ?_
        refine WL.nil ?_
        refine WC.ret (inBlockQ.ret (thenQ.ret (endQ.two (.inr rfl) ?_)))
        rw [hdr] at hP57
        rw [hdr]
        exact ⟨bn, rfl, (PairStep.pre hb37 (PairStep.pre hbb (PairStep.next hk57 hm57 (PairStep.of_bel hP57 hb62)))).pre hb5⟩
    · by_cases k3 : kind = 3
      · subst k3
        have hdo : doS ⟨3, to, bs, at', n, m⟩ ls = (dropS ls at').1 := rfl
        rw [hdo]
        refine Ret.of (n := 124) (rs := #[.tmp 6, .tmp 7]) Try.func21 rfl rfl rfl (by simp) ?_
        refine WC.seqR rfl ?_
        refine WL.eex rfl (E.boxX) ?_
        rintro _ w5 ⟨rfl, hB5, hb5⟩
        refine WL.y rfl (Y.assign) ?_
        refine WL.y rfl (Y.assign) ?_
        refine WL.nil ?_
        refine WC.seq ?_
        refine WC.seqR rfl ?_
        refine WL.y rfl (Y.fieldAddr fi55f0 ti3 (by decide) rfl (rfl) _) ?_
        refine WL.y rfl (Y.load1 Try.underlying3 rfl rfl ((show _ = some (Value.int .i64 3) from (hB5.cell 0).trans rfl))) ?_
        refine WL.nil ?_
        refine WC.block ?_
        refine WC.seqR rfl ?_
        refine WL.y rfl (Y.dF (Y.eqi rfl rfl) (by omega)) ?_
        refine WL.y rfl (Y.assign) ?_
        refine WL.nil ?_
        refine WC.condF (rfl) ?_
        refine WC.seqR rfl ?_
        refine WL.y rfl (Y.dF (Y.eqi rfl rfl) (by omega)) ?_
        refine WL.y rfl (Y.assign) ?_
        refine WL.nil ?_
        refine WC.condF (rfl) ?_
        refine WC.seqR rfl ?_
        refine WL.y rfl (Y.dT (Y.eqi rfl rfl) (by omega)) ?_
        refine WL.y rfl (Y.assign) ?_
        refine WL.nil ?_
        refine WC.condT (rfl) ?_
        refine WC.seq ?_
        refine WC.regionK (M) (fun i => Nat.beq i 8) [(0, .any), (1, .any), (2, .any), (3, .held), (5, .any), (6, .any), (7, .held), (4, .seq), (8, .seq), (9, .any), (10, .any), (11, .any)] mixed (by kernel_rfl) (fun wr12 hS12 hheap => ?_)
        refine RL.any rfl rfl (fun _ => Y.move) ?_
        refine RL.any rfl rfl (fun _ => Y.move) ?_
        refine RL.any rfl rfl (fun _ => Y.fieldAddr fi55f3 ti3 (by decide) rfl (rfl) _) ?_
        refine RL.held rfl rfl (Kept.refl _ _) (fun _ hb9 => Y.load1 Try.underlying3 rfl rfl ((show _ = some (Value.int .i64 at') from ((((hB5.bel hS12).kept hb9 hnM).cell 3).trans rfl)))) ?_
        refine RL.any rfl rfl (fun _ => Y.move) ?_
        refine RL.any rfl rfl (fun _ => Y.fieldAddr fi55f3 ti3 (by decide) rfl (rfl) _) ?_
        refine RL.held rfl rfl (Kept.refl _ _) (fun _ hb9 => Y.load1 Try.underlying3 rfl rfl ((show _ = some (Value.int .i64 at') from ((((hB5.bel hS12).kept hb9 hnM).cell 3).trans rfl)))) ?_
        refine RL.call rfl rfl (C.func go11) (pdrop ((h.bel hb5).bel hS12) at') ?_
        rintro _ w70 ⟨rfl, M1, hP70, hk70, hm70⟩
        refine ⟨.inr (fun h => h.trans (hk70)), ?_⟩
        refine RL.call rfl rfl (C.func go38) (pdropR hP70 (by omega) at') ?_
        rintro _ w74 ⟨rfl, hP74⟩
        refine ⟨.inl rfl, ?_⟩
        refine RL.any rfl rfl (fun _ => Y.dT (Y.eqi rfl rfl) (rfl)) ?_
        refine RL.any rfl rfl (fun _ => Y.assign) ?_
        refine RL.any rfl rfl (fun _ => Y.assign) ?_
        refine RL.nil (thenQ.normal ?_)
        refine WC.ret (inBlockQ.ret (thenQ.ret (endQ.two (.inr rfl) ?_)))
        exact ⟨bn, rfl, ((PairStep.next hk70 hm70 hP74).pre hS12).pre hb5⟩
      · by_cases k4 : kind = 4
        · subst k4
          have hdo : doS ⟨4, to, bs, at', n, m⟩ ls = (doubleS ls at').1 := rfl
          rw [hdo]
          refine Ret.of (n := 124) (rs := #[.tmp 6, .tmp 7]) Try.func21 rfl rfl rfl (by simp) ?_
          refine WC.seqR rfl ?_
          refine WL.eex rfl (E.boxX) ?_
          rintro _ w5 ⟨rfl, hB5, hb5⟩
          refine WL.y rfl (Y.assign) ?_
          refine WL.y rfl (Y.assign) ?_
          refine WL.nil ?_
          refine WC.seq ?_
          refine WC.seqR rfl ?_
          refine WL.y rfl (Y.fieldAddr fi55f0 ti3 (by decide) rfl (rfl) _) ?_
          refine WL.y rfl (Y.load1 Try.underlying3 rfl rfl ((show _ = some (Value.int .i64 4) from (hB5.cell 0).trans rfl))) ?_
          refine WL.nil ?_
          refine WC.block ?_
          refine WC.seqR rfl ?_
          refine WL.y rfl (Y.dF (Y.eqi rfl rfl) (by omega)) ?_
          refine WL.y rfl (Y.assign) ?_
          refine WL.nil ?_
          refine WC.condF (rfl) ?_
          refine WC.seqR rfl ?_
          refine WL.y rfl (Y.dF (Y.eqi rfl rfl) (by omega)) ?_
          refine WL.y rfl (Y.assign) ?_
          refine WL.nil ?_
          refine WC.condF (rfl) ?_
          refine WC.seqR rfl ?_
          refine WL.y rfl (Y.dF (Y.eqi rfl rfl) (by omega)) ?_
          refine WL.y rfl (Y.assign) ?_
          refine WL.nil ?_
          refine WC.condF (rfl) ?_
          refine WC.seqR rfl ?_
          refine WL.y rfl (Y.dT (Y.eqi rfl rfl) (by omega)) ?_
          refine WL.y rfl (Y.assign) ?_
          refine WL.nil ?_
          refine WC.condT (rfl) ?_
          refine WC.seq ?_
          refine WC.regionK (M) (fun i => Nat.beq i 8) [(0, .any), (1, .any), (2, .any), (3, .held), (5, .any), (6, .any), (7, .held), (4, .seq), (8, .seq), (9, .any), (10, .any), (11, .any)] mixed (by kernel_rfl) (fun wr14 hS14 hheap => ?_)
          refine RL.any rfl rfl (fun _ => Y.move) ?_
          refine RL.any rfl rfl (fun _ => Y.move) ?_
          refine RL.any rfl rfl (fun _ => Y.fieldAddr fi55f3 ti3 (by decide) rfl (rfl) _) ?_
          refine RL.held rfl rfl (Kept.refl _ _) (fun _ hb9 => Y.load1 Try.underlying3 rfl rfl ((show _ = some (Value.int .i64 at') from ((((hB5.bel hS14).kept hb9 hnM).cell 3).trans rfl)))) ?_
          refine RL.any rfl rfl (fun _ => Y.move) ?_
          refine RL.any rfl rfl (fun _ => Y.fieldAddr fi55f3 ti3 (by decide) rfl (rfl) _) ?_
          refine RL.held rfl rfl (Kept.refl _ _) (fun _ hb9 => Y.load1 Try.underlying3 rfl rfl ((show _ = some (Value.int .i64 at') from ((((hB5.bel hS14).kept hb9 hnM).cell 3).trans rfl)))) ?_
          refine RL.call rfl rfl (C.func go14) (pdouble ((h.bel hb5).bel hS14) (by omega) at') ?_
          rintro _ w82 ⟨rfl, M1, hP82, hk82, hm82⟩
          refine ⟨.inr (fun h => h.trans (hk82)), ?_⟩
          refine RL.call rfl rfl (C.func go39) (pdoubleR hP82 (by omega) at') ?_
          rintro _ w86 ⟨rfl, hP86⟩
          refine ⟨.inl rfl, ?_⟩
          refine RL.any rfl rfl (fun _ => Y.dT (Y.eqi rfl rfl) (rfl)) ?_
          refine RL.any rfl rfl (fun _ => Y.assign) ?_
          refine RL.any rfl rfl (fun _ => Y.assign) ?_
          refine RL.nil (thenQ.normal ?_)
          refine WC.ret (inBlockQ.ret (thenQ.ret (endQ.two (.inr rfl) ?_)))
          exact ⟨bn, rfl, ((PairStep.next hk82 hm82 hP86).pre hS14).pre hb5⟩
        · by_cases k5 : kind = 5
          · subst k5
            have hdo : doS ⟨5, to, bs, at', n, m⟩ ls = (spoilS ls at' n m).1 := rfl
            rw [hdo]
            refine Ret.of (n := 124) (rs := #[.tmp 6, .tmp 7]) Try.func21 rfl rfl rfl (by simp) ?_
            refine WC.seqR rfl ?_
            refine WL.eex rfl (E.boxX) ?_
            rintro _ w5 ⟨rfl, hB5, hb5⟩
            refine WL.y rfl (Y.assign) ?_
            refine WL.y rfl (Y.assign) ?_
            refine WL.nil ?_
            refine WC.seq ?_
            refine WC.seqR rfl ?_
            refine WL.y rfl (Y.fieldAddr fi55f0 ti3 (by decide) rfl (rfl) _) ?_
            refine WL.y rfl (Y.load1 Try.underlying3 rfl rfl ((show _ = some (Value.int .i64 5) from (hB5.cell 0).trans rfl))) ?_
            refine WL.nil ?_
            refine WC.block ?_
            refine WC.seqR rfl ?_
            refine WL.y rfl (Y.dF (Y.eqi rfl rfl) (by omega)) ?_
            refine WL.y rfl (Y.assign) ?_
            refine WL.nil ?_
            refine WC.condF (rfl) ?_
            refine WC.seqR rfl ?_
            refine WL.y rfl (Y.dF (Y.eqi rfl rfl) (by omega)) ?_
            refine WL.y rfl (Y.assign) ?_
            refine WL.nil ?_
            refine WC.condF (rfl) ?_
            refine WC.seqR rfl ?_
            refine WL.y rfl (Y.dF (Y.eqi rfl rfl) (by omega)) ?_
            refine WL.y rfl (Y.assign) ?_
            refine WL.nil ?_
            refine WC.condF (rfl) ?_
            refine WC.seqR rfl ?_
            refine WL.y rfl (Y.dF (Y.eqi rfl rfl) (by omega)) ?_
            refine WL.y rfl (Y.assign) ?_
            refine WL.nil ?_
            refine WC.condF (rfl) ?_
            refine WC.seqR rfl ?_
            refine WL.y rfl (Y.dT (Y.eqi rfl rfl) (by omega)) ?_
            refine WL.y rfl (Y.assign) ?_
            refine WL.nil ?_
            refine WC.condT (rfl) ?_
            refine WC.seq ?_
            refine WC.regionK (M) (fun i => Nat.beq i 16) [(0, .any), (1, .any), (2, .any), (3, .held), (4, .any), (5, .held), (6, .any), (7, .held), (9, .any), (10, .any), (11, .held), (12, .any), (13, .held), (14, .any), (15, .held), (8, .seq), (16, .seq), (17, .any), (18, .any), (19, .any)] mixed (by kernel_rfl) (fun wr16 hS16 hheap => ?_)
            refine RL.any rfl rfl (fun _ => Y.move) ?_
            refine RL.any rfl rfl (fun _ => Y.move) ?_
            refine RL.any rfl rfl (fun _ => Y.fieldAddr fi55f3 ti3 (by decide) rfl (rfl) _) ?_
            refine RL.held rfl rfl (Kept.refl _ _) (fun _ hb9 => Y.load1 Try.underlying3 rfl rfl ((show _ = some (Value.int .i64 at') from ((((hB5.bel hS16).kept hb9 hnM).cell 3).trans rfl)))) ?_
            refine RL.any rfl rfl (fun _ => Y.fieldAddr fi55f4 ti3 (by decide) rfl (rfl) _) ?_
            refine RL.held rfl rfl (Kept.refl _ _) (fun _ hb9 => Y.load1 Try.underlying3 rfl rfl ((show _ = some (Value.int .i64 n) from ((((hB5.bel hS16).kept hb9 hnM).cell 4).trans rfl)))) ?_
            refine RL.any rfl rfl (fun _ => Y.fieldAddr fi55f5 ti5 (by decide) rfl (rfl) _) ?_
            refine RL.held rfl rfl (Kept.refl _ _) (fun _ hb9 => Y.load1 Try.underlying5 rfl rfl ((show _ = some (u8v m) from ((((hB5.bel hS16).kept hb9 hnM).cell 5).trans rfl)))) ?_
            refine RL.any rfl rfl (fun _ => Y.move) ?_
            refine RL.any rfl rfl (fun _ => Y.fieldAddr fi55f3 ti3 (by decide) rfl (rfl) _) ?_
            refine RL.held rfl rfl (Kept.refl _ _) (fun _ hb9 => Y.load1 Try.underlying3 rfl rfl ((show _ = some (Value.int .i64 at') from ((((hB5.bel hS16).kept hb9 hnM).cell 3).trans rfl)))) ?_
            refine RL.any rfl rfl (fun _ => Y.fieldAddr fi55f4 ti3 (by decide) rfl (rfl) _) ?_
            refine RL.held rfl rfl (Kept.refl _ _) (fun _ hb9 => Y.load1 Try.underlying3 rfl rfl ((show _ = some (Value.int .i64 n) from ((((hB5.bel hS16).kept hb9 hnM).cell 4).trans rfl)))) ?_
            refine RL.any rfl rfl (fun _ => Y.fieldAddr fi55f5 ti5 (by decide) rfl (rfl) _) ?_
            refine RL.held rfl rfl (Kept.refl _ _) (fun _ hb9 => Y.load1 Try.underlying5 rfl rfl ((show _ = some (u8v m) from ((((hB5.bel hS16).kept hb9 hnM).cell 5).trans rfl)))) ?_
            refine RL.call rfl rfl (C.func go16) (pspoil ((h.bel hb5).bel hS16) at' n m) ?_
            rintro _ w98 ⟨rfl, M1, hP98, hk98, hm98⟩
            refine ⟨.inr (fun h => h.trans (hk98)), ?_⟩
            refine RL.call rfl rfl (C.func go19) (pspoilR hP98 (by omega) at' n m) ?_
            rintro _ w106 ⟨rfl, hP106⟩
            refine ⟨.inl rfl, ?_⟩
            refine RL.any rfl rfl (fun _ => Y.dT (Y.eqi rfl rfl) (rfl)) ?_
            refine RL.any rfl rfl (fun _ => Y.assign) ?_
            refine RL.any rfl rfl (fun _ => Y.assign) ?_
            refine RL.nil (thenQ.normal ?_)
            refine WC.ret (inBlockQ.ret (thenQ.ret (endQ.two (.inr rfl) ?_)))
            exact ⟨bn, rfl, ((PairStep.next hk98 hm98 hP106).pre hS16).pre hb5⟩
          · have hdo : doS ⟨kind, to, bs, at', n, m⟩ ls = ls := by
              unfold doS
              rw [if_neg k1, if_neg k2, if_neg k3, if_neg k4, if_neg k5]
            rw [hdo]
            by_cases k6 : kind = 6
            · subst k6
              refine Ret.of (n := 124) (rs := #[.tmp 6, .tmp 7]) Try.func21 rfl rfl rfl (by simp) ?_
              refine WC.seqR rfl ?_
              refine WL.eex rfl (E.boxX) ?_
              rintro _ w5 ⟨rfl, hB5, hb5⟩
              refine WL.y rfl (Y.assign) ?_
              refine WL.y rfl (Y.assign) ?_
              refine WL.nil ?_
              refine WC.seq ?_
              refine WC.seqR rfl ?_
              refine WL.y rfl (Y.fieldAddr fi55f0 ti3 (by decide) rfl (rfl) _) ?_
              refine WL.y rfl (Y.load1 Try.underlying3 rfl rfl ((show _ = some (Value.int .i64 6) from (hB5.cell 0).trans rfl))) ?_
              refine WL.nil ?_
              refine WC.block ?_
              refine WC.seqR rfl ?_
              refine WL.y rfl (Y.dF (Y.eqi rfl rfl) (by omega)) ?_
              refine WL.y rfl (Y.assign) ?_
              refine WL.nil ?_
              refine WC.condF (rfl) ?_
              refine WC.seqR rfl ?_
              refine WL.y rfl (Y.dF (Y.eqi rfl rfl) (by omega)) ?_
              refine WL.y rfl (Y.assign) ?_
              refine WL.nil ?_
              refine WC.condF (rfl) ?_
              refine WC.seqR rfl ?_
              refine WL.y rfl (Y.dF (Y.eqi rfl rfl) (by omega)) ?_
              refine WL.y rfl (Y.assign) ?_
              refine WL.nil ?_
              refine WC.condF (rfl) ?_
              refine WC.seqR rfl ?_
              refine WL.y rfl (Y.dF (Y.eqi rfl rfl) (by omega)) ?_
              refine WL.y rfl (Y.assign) ?_
              refine WL.nil ?_
              refine WC.condF (rfl) ?_
              refine WC.seqR rfl ?_
              refine WL.y rfl (Y.dF (Y.eqi rfl rfl) (by omega)) ?_
              refine WL.y rfl (Y.assign) ?_
              refine WL.nil ?_
              refine WC.condF (rfl) ?_
              refine WC.seqR rfl ?_
              refine WL.y rfl (Y.dT (Y.eqi rfl rfl) (by omega)) ?_
              refine WL.y rfl (Y.assign) ?_
              refine WL.nil ?_
              refine WC.condT (rfl) ?_
              refine WC.seqR rfl ?_
              refine WL.y rfl (Y.move) ?_
              refine WL.call rfl (C.func go26) (cop_copy (h.bel hb5) (by omega)) ?_
              rintro _ w111 ⟨b, M1, rfl, hC, hb111, hm111⟩
              refine WL.y rfl (Y.assign) ?_
              refine WL.nil ?_
              refine WC.seq ?_
              refine WC.seqR rfl ?_
              refine WL.y rfl (Y.move) ?_
              refine WL.y rfl (Y.bF (Y.eqpn Try.underlying25 rfl rfl) (rfl)) ?_
              refine WL.nil ?_
              refine WC.condF (rfl) ?_
              refine WC.skip (thenQ.normal ?_)
              refine WC.seqR rfl ?_
              refine WL.y rfl (Y.move) ?_
              refine WL.call rfl (C.func go16) (cop_spoil hC 0 7) ?_
              rintro _ w116 ⟨hC2, hk116⟩
              refine WL.nil ?_
              refine WC.seqR rfl ?_
              refine WL.y rfl (Y.move) ?_
              refine WL.call rfl (C.func go11) (cop_drop hC2) ?_
              rintro _ w118 ⟨hC3, hk118⟩
              refine WL.nil ?_
              refine WC.seqR rfl ?_
              refine WL.y rfl (Y.move) ?_
              refine WL.eex rfl (E.buildSliceX (len := 1) (cs := ([9] : List UInt8).map u8v) Try.underlying32 ti5 (by omega) (by omega) (by kernel_rfl) rfl) ?_
              rintro v120 w120 ⟨-, ho120, hb120, -⟩
              refine WL.call rfl (C.func go10) (cop_send (copy_bel hC3 hb120) 1 v120 [9] (ownsRow_sl ho120) (by decide)) ?_
              rintro _ w121 ⟨hP121, hk121⟩
              refine WL.nil ?_
              refine WC.seqR rfl ?_
              refine WL.y rfl (Y.move) ?_
              refine WL.y rfl (Y.assign) ?_
              refine WL.y rfl (Y.assign) ?_
              refine WL.nil ?_
              refine WC.ret (inBlockQ.ret (thenQ.ret (endQ.two (.inr rfl) ?_)))
              have hkk : Kept M1 w111 w121 := (hk116.trans hk118).trans ((Kept.of_bel hb120).trans hk121)
              refine ⟨b, rfl, PairStep.pre hb5 ⟨M1, hP121, ?_, hm111⟩⟩
              exact (Kept.of_bel (M := M) hb111).trans' hkk (fun k hk hs => (hm111 k hk).elim id (fun h => by omega))
            · refine Ret.of (n := 124) (rs := #[.tmp 6, .tmp 7]) Try.func21 rfl rfl rfl (by simp) ?_
              refine WC.seqR rfl ?_
              refine WL.eex rfl (E.boxX) ?_
              rintro _ w5 ⟨rfl, hB5, hb5⟩
              refine WL.y rfl (Y.assign) ?_
              refine WL.y rfl (Y.assign) ?_
              refine WL.nil ?_
              refine WC.seq ?_
              refine WC.seqR rfl ?_
              refine WL.y rfl (Y.fieldAddr fi55f0 ti3 (by decide) rfl (rfl) _) ?_
              refine WL.y rfl (Y.load1 Try.underlying3 rfl rfl ((show _ = some (Value.int .i64 kind) from (hB5.cell 0).trans rfl))) ?_
              refine WL.nil ?_
              refine WC.block ?_
              refine WC.seqR rfl ?_
              refine WL.y rfl (Y.dF (Y.eqi rfl rfl) (by omega)) ?_
              refine WL.y rfl (Y.assign) ?_
              refine WL.nil ?_
              refine WC.condF (rfl) ?_
              refine WC.seqR rfl ?_
              refine WL.y rfl (Y.dF (Y.eqi rfl rfl) (by omega)) ?_
              refine WL.y rfl (Y.assign) ?_
              refine WL.nil ?_
              refine WC.condF (rfl) ?_
              refine WC.seqR rfl ?_
              refine WL.y rfl (Y.dF (Y.eqi rfl rfl) (by omega)) ?_
              refine WL.y rfl (Y.assign) ?_
              refine WL.nil ?_
              refine WC.condF (rfl) ?_
              refine WC.seqR rfl ?_
              refine WL.y rfl (Y.dF (Y.eqi rfl rfl) (by omega)) ?_
              refine WL.y rfl (Y.assign) ?_
              refine WL.nil ?_
              refine WC.condF (rfl) ?_
              refine WC.seqR rfl ?_
              refine WL.y rfl (Y.dF (Y.eqi rfl rfl) (by omega)) ?_
              refine WL.y rfl (Y.assign) ?_
              refine WL.nil ?_
              refine WC.condF (rfl) ?_
              refine WC.seqR rfl ?_
              refine WL.y rfl (Y.dF (Y.eqi rfl rfl) (by omega)) ?_
              refine WL.y rfl (Y.assign) ?_
              refine WL.nil ?_
              refine WC.condF (rfl) ?_
              refine WC.skip (inBlockQ.normal (thenQ.normal ?_))
              refine WC.seqR rfl ?_
              refine WL.y rfl (Y.move) ?_
              refine WL.y rfl (Y.assign) ?_
              refine WL.y rfl (Y.assign) ?_
              refine WL.nil ?_
              refine WC.ret (endQ.two (.inr rfl) ?_)
              exact ⟨bn, rfl, (PairStep.of_bel (h.bel hb5) (Below.refl _ _)).pre hb5⟩
end Go.Proofs.Ytjlclaimpepgiaa
