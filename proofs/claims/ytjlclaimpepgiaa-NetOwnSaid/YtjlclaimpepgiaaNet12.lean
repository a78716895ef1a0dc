/-
  The laws NetPlays, NetSpoils.
-/
import Derived.Test.YtjlclaimpepgiaaNet11
import Derived.Test.YtjlclaimpepgiaaOpen2
namespace Go.Proofs.Ytjlclaimpepgiaa
open Go Go.RowKit Go.Cx
set_option linter.unusedVariables false
open Crc
theorem PairAt.get {w : World} {M : Nat → Prop} {B bn bw : Nat} {lsN lsR : List LS} {psR : List (LS × Value)} (hm : psR.map Prod.fst = lsR) {j : Nat} (hj : j < lsR.length) : ∃ h : j < psR.length, psR.getD j zeroL = psR[j] ∧ lsR[j] = psR[j].1 := by
  have hjR : j < psR.length := by have := congrArg List.length hm; simp only [List.length_map] at this; omega
  refine ⟨hjR, by simp [hjR], ?_⟩
  subst hm
  simp
theorem asks_ret (w : World) (M : Nat → Prop) (B bn bw : Nat) (ls : List LS) (h : PairAt w M B bn bw ls ls) (i x : Int) :
    Ret Try.prog 22 [.pointer (some ⟨bn, 0, none⟩), .pointer (some ⟨bw, 0, none⟩), .int .i64 i, .int .u64 x].toArray w fun v w' => v = .bool true ∧ Below w.heap.size w w' := by
  by_cases hin : inS ls i
  · have hqq := inS_nat hin
    obtain ⟨j, rfl, hj⟩ := hqq
    refine Ret.of (n := 66) (rs := #[.tmp 8]) Try.func22 rfl rfl rfl (by simp) ?_
    refine WC.seqR rfl ?_
    refine WL.y rfl (Y.assign) ?_
    refine WL.nil ?_
    refine WC.seqR rfl ?_
    refine WL.y rfl (Y.move) ?_
    refine WL.y rfl (Y.move) ?_
    refine WL.call rfl (C.func go15) (pat_in h j hj) ?_
    rintro _ w15 ⟨⟨f15, rfl, ho15⟩, hb15⟩
    have k15 := hb15
    refine WL.y rfl (Y.move) ?_
    refine WL.y rfl (Y.extract rfl rfl) ?_
    refine WL.y rfl (Y.extract rfl rfl) ?_
    refine WL.eex rfl (E.allocX ti36) ?_
    rintro _ w9 ⟨rfl, hB9, hb9⟩
    have k9 := Below.step k15 hb9
    refine WL.eex rfl (E.storeAll (us := encL (ls[j], f15)) ti36 rfl rfl (one_enc ho15.bs.one) hB9 rfl) ?_
    rintro _ w9b ⟨hB9b, hg9⟩
    have hb9b := bel_new hb9 hg9
    have k9b := Below.step k15 hb9b
    refine WL.y rfl (Y.assign) ?_
    refine WL.nil ?_
    refine WC.seqR rfl ?_
    refine WL.eex rfl (E.allocX ti36) ?_
    rintro _ w11 ⟨rfl, hB11, hb11⟩
    have k11 := Below.step k9b hb11
    refine WL.nil ?_
    refine WC.seq ?_
    refine WC.seqR rfl ?_
    refine WL.y rfl (Y.move) ?_
    refine WL.y rfl (Y.move) ?_
    refine WL.call rfl (C.func go37) ((pis ((((h.bel hb15).bel hb9b).bel hb11)) (j : Int)).yes ⟨by omega, by omega⟩) ?_
    rintro _ _ ⟨rfl, rfl⟩
    refine WL.nil ?_
    have hP9 := (h.bel hb15).bel hb9b
    have hqq := hP9.refM
    obtain ⟨vR, psR, hBR9, hSR9, hmR, hlR⟩ := hqq
    have hqq := PairAt.get (w := w) (M := M) (B := B) (bn := bn) (bw := bw) (lsN := ls) hmR hj
    obtain ⟨hjR, hgR, heR⟩ := hqq
    have hlp := (hlR psR[j] (List.getElem_mem hjR)).1
    refine WC.condT (rfl) ?_
    refine WC.region rfl ?_
    refine WL.y rfl (Y.move) ?_
    refine WL.y rfl (Y.nilCheck rfl) ?_
    refine WL.y rfl (Y.fieldAddr fi46f0 ti26 (by decide) rfl (rfl) _) ?_
    refine WL.y rfl (Y.load1 Try.underlying26 rfl rfl ((hBR9.bel hb11).one)) ?_
    refine WL.y rfl (Y.move) ?_
    refine WL.yex rfl (Y.idxF (enc := encL) zeroL encL_len (by decide) Try.underlying26 ti36 (hSR9.sl.bel hb11) rfl (by omega) (by omega)) ?_
    rintro _ ⟨b26, o26, rfl, hc26⟩
    simp only [Int.toNat_natCast, hgR] at hc26
    refine WL.y rfl (Y.loadN Try.underlying36 rfl ti36 rfl (hc26)) ?_
    refine WL.eex rfl (E.storeAll (us := encL psR[j]) ti36 rfl rfl (one_enc hlp.one) hB11 rfl) ?_
    rintro _ w11b ⟨hB11b, hg11⟩
    have hb11b := bel_new hb11 hg11
    have k11b := Below.step k9b hb11b
    have hP11 := hP9.bel hb11b
    have ho11 := (ho15.bel hb9b).bel hb11b
    have hBR11 := hBR9.bel hb11b
    refine WL.nil (thenQ.normal ?_)
    refine WC.seq ?_
    refine WC.regionB (fun i => Nat.beq i 32 || Nat.beq i 35) [(0, .any), (1, .any), (2, .any), (3, .any), (4, .seq), (5, .any), (6, .any), (7, .any), (8, .any), (9, .any), (10, .any), (11, .any), (12, .any), (13, .any), (14, .any), (15, .held), (16, .held), (17, .seq), (18, .any), (19, .any), (20, .any), (22, .any), (23, .any), (24, .any), (25, .held), (26, .any), (21, .seq), (27, .any), (28, .any), (29, .any), (30, .any), (31, .any), (33, .any), (34, .any), (32, .seq), (35, .seq), (36, .any), (37, .any), (38, .any)] mixed (by kernel_rfl) (fun wr5 hS5 hheap => ?_)
    have kr5 := Below.step k11b hS5
    refine RL.any rfl rfl (fun _ => Y.move) ?_
    refine RL.any rfl rfl (fun _ => Y.dT (Y.eqi rfl rfl) (by omega)) ?_
    refine RL.any rfl rfl (fun _ => Y.move) ?_
    refine RL.any rfl rfl (fun _ => Y.move) ?_
    refine RL.call rfl rfl (C.func go37) ((pis (hP11.bel hS5) (j : Int)).yes ⟨by omega, by omega⟩) ?_
    rintro _ _ ⟨rfl, rfl⟩
    refine ⟨.inr id, ?_⟩
    refine RL.any rfl rfl (fun _ => Y.bT (Y.eqb Try.underlying4 rfl rfl) (rfl)) ?_
    refine RL.any rfl rfl (fun _ => Y.move) ?_
    refine RL.any rfl rfl (fun _ => Y.move) ?_
    refine RL.any rfl rfl (fun _ => Y.dT (Y.eqi rfl rfl) (by omega)) ?_
    refine RL.any rfl rfl (fun _ => Y.move) ?_
    refine RL.off rfl rfl ?_
    refine RL.off rfl rfl ?_
    refine RL.any rfl rfl (fun _ => Y.pickT rfl) ?_
    refine RL.any rfl rfl (fun _ => Y.pickT rfl) ?_
    refine RL.any rfl rfl (fun _ => Y.move) ?_
    refine RL.held rfl rfl hS5 (fun _ hb9 => Y.loadN Try.underlying36 rfl ti36 rfl (((hB9b.bel hb11b).bel hb9).cells)) ?_
    refine RL.held rfl rfl hS5 (fun _ hb9 => Y.loadN Try.underlying36 rfl ti36 rfl ((hB11b.bel hb9).cells)) ?_
    refine RL.call rfl rfl (C.func go17) ((sameLetter_ret _ (ls[j], f15) psR[j] (ho11.bs.bel hS5) ((hlp.sl.bel hb11b).bel hS5)).yes heR) ?_
    rintro _ w45 ⟨rfl, hb45⟩
    refine ⟨.inr (fun h => Below.step h hb45), ?_⟩
    have k45 := Below.step kr5 hb45
    refine RL.any rfl rfl (fun _ => Y.pickT rfl) ?_
    refine RL.any rfl rfl (fun _ => Y.move) ?_
    refine RL.any rfl rfl (fun _ => Y.move) ?_
    refine RL.any rfl rfl (fun _ => Y.move) ?_
    refine RL.any rfl rfl (fun _ => Y.nilCheck rfl) ?_
    refine RL.any rfl rfl (fun _ => Y.fieldAddr fi46f0 ti26 (by decide) rfl (rfl) _) ?_
    refine RL.held rfl rfl (Below.step hS5 hb45) (fun _ hb9 => Y.load1 Try.underlying26 rfl rfl (cell_bel hBR11.one hb9)) ?_
    refine RL.any rfl rfl (fun _ => Y.lenSl Try.underlying26 (((hSR9.sl.bel hb11b).bel hS5)) _) ?_
    refine RL.call rfl rfl (C.func go24) (plen ((hP11.bel hS5).bel hb45)) ?_
    rintro _ _ ⟨rfl, rfl⟩
    refine ⟨.inr id, ?_⟩
    refine RL.any rfl rfl (fun _ => Y.dT (Y.eqi rfl rfl) ((by have := congrArg List.length hmR; simp only [List.length_map] at this; omega))) ?_
    refine RL.any rfl rfl (fun _ => Y.pickT rfl) ?_
    refine RL.any rfl rfl (fun _ => Y.move) ?_
    refine RL.any rfl rfl (fun _ => Y.move) ?_
    refine RL.any rfl rfl (fun _ => Y.move) ?_
    refine RL.any rfl rfl (fun _ => Y.move) ?_
    refine RL.any rfl rfl (fun _ => Y.move) ?_
    refine RL.call rfl rfl (C.func go25) (pcount ((hP11.bel hS5).bel hb45) x) ?_
    rintro _ w60 ⟨rfl, hb60⟩
    refine ⟨.inl rfl, ?_⟩
    have k60 := Below.step k45 hb60
    refine RL.call rfl rfl (C.func go40) (pcountR (((hP11.bel hS5).bel hb45).bel hb60) x) ?_
    rintro _ _ ⟨rfl, rfl⟩
    refine ⟨.inl rfl, ?_⟩
    refine RL.any rfl rfl (fun _ => Y.dT (Y.eqi rfl rfl) (rfl)) ?_
    refine RL.any rfl rfl (fun _ => Y.pickT rfl) ?_
    refine RL.any rfl rfl (fun _ => Y.assign) ?_
    refine RL.nil (thenQ.normal ?_)
    refine WC.ret (endQ.one (.inr rfl) ?_)
    exact ⟨rfl, k60⟩
  · skip
    refine Ret.of (n := 66) (rs := #[.tmp 8]) Try.func22 rfl rfl rfl (by simp) ?_
    refine WC.seqR rfl ?_
    refine WL.y rfl (Y.assign) ?_
    refine WL.nil ?_
    refine WC.seqR rfl ?_
    refine WL.y rfl (Y.move) ?_
    refine WL.y rfl (Y.move) ?_
    refine WL.call rfl (C.func go15) (pat_out h i hin) ?_
    rintro _ w15 ⟨rfl, hb15⟩
    have k15 := hb15
    refine WL.y rfl (Y.move) ?_
    refine WL.y rfl (Y.extract rfl rfl) ?_
    refine WL.y rfl (Y.extract rfl rfl) ?_
    refine WL.eex rfl (E.allocX ti36) ?_
    rintro _ w9 ⟨rfl, hB9, hb9⟩
    have k9 := Below.step k15 hb9
    refine WL.eex rfl (E.storeAll (us := encL zeroL) ti36 rfl rfl zeroL_one hB9 rfl) ?_
    rintro _ w9b ⟨hB9b, hg9⟩
    have hb9b := bel_new hb9 hg9
    have k9b := Below.step k15 hb9b
    refine WL.y rfl (Y.assign) ?_
    refine WL.nil ?_
    refine WC.seqR rfl ?_
    refine WL.eex rfl (E.allocX ti36) ?_
    rintro _ w11 ⟨rfl, hB11, hb11⟩
    have k11 := Below.step k9b hb11
    refine WL.nil ?_
    refine WC.seq ?_
    refine WC.seqR rfl ?_
    refine WL.y rfl (Y.move) ?_
    refine WL.y rfl (Y.move) ?_
    refine WL.call rfl (C.func go37) ((pis ((((h.bel hb15).bel hb9b).bel hb11)) i).no hin) ?_
    rintro _ _ ⟨rfl, rfl⟩
    refine WL.nil ?_
    have hP9 := (h.bel hb15).bel hb9b
    have hqq := hP9.refM
    obtain ⟨vR, psR, hBR9, hSR9, hmR, hlR⟩ := hqq
    have hP11 := hP9.bel hb11
    have hBR11 := hBR9.bel hb11
    refine WC.condF (rfl) ?_
    refine WC.skip (thenQ.normal ?_)
    refine WC.seq ?_
    refine WC.regionB (fun i => Nat.beq i 32 || Nat.beq i 35) [(0, .any), (1, .any), (2, .any), (3, .any), (4, .seq), (5, .any), (6, .any), (7, .any), (8, .any), (9, .any), (10, .any), (11, .any), (12, .any), (13, .any), (14, .any), (15, .held), (16, .held), (17, .seq), (18, .any), (19, .any), (20, .any), (22, .any), (23, .any), (24, .any), (25, .held), (26, .any), (21, .seq), (27, .any), (28, .any), (29, .any), (30, .any), (31, .any), (33, .any), (34, .any), (32, .seq), (35, .seq), (36, .any), (37, .any), (38, .any)] mixed (by kernel_rfl) (fun wr5 hS5 hheap => ?_)
    have kr5 := Below.step k11 hS5
    refine RL.any rfl rfl (fun _ => Y.move) ?_
    refine RL.any rfl rfl (fun _ => Y.dF (Y.eqi rfl rfl) (by omega)) ?_
    refine RL.any rfl rfl (fun _ => Y.move) ?_
    refine RL.any rfl rfl (fun _ => Y.move) ?_
    refine RL.call rfl rfl (C.func go37) ((pis (hP11.bel hS5) i).no hin) ?_
    rintro _ _ ⟨rfl, rfl⟩
    refine ⟨.inr id, ?_⟩
    refine RL.any rfl rfl (fun _ => Y.bT (Y.eqb Try.underlying4 rfl rfl) (rfl)) ?_
    refine RL.any rfl rfl (fun _ => Y.move) ?_
    refine RL.any rfl rfl (fun _ => Y.move) ?_
    refine RL.any rfl rfl (fun _ => Y.dF (Y.eqi rfl rfl) (by omega)) ?_
    refine RL.any rfl rfl (fun _ => Y.move) ?_
    refine RL.any rfl rfl (fun _ => Y.move) ?_
    refine RL.any rfl rfl (fun _ => Y.dT (Y.eqi rfl rfl) (by omega)) ?_
    refine RL.any rfl rfl (fun _ => Y.pickF rfl) ?_
    refine RL.any rfl rfl (fun _ => Y.pickT rfl) ?_
    refine RL.any rfl rfl (fun _ => Y.move) ?_
    refine RL.held rfl rfl hS5 (fun _ hb9 => Y.loadN Try.underlying36 rfl ti36 rfl (((hB9b.bel hb11).bel hb9).cells)) ?_
    refine RL.held rfl rfl hS5 (fun _ hb9 => Y.loadN Try.underlying36 rfl ti36 rfl ((show Cells _ _ _ (encL zeroL) from (hB11.bel hb9).cells))) ?_
    refine RL.call rfl rfl (C.func go17) ((sameLetter_ret _ zeroL zeroL SlK.nil SlK.nil).yes rfl) ?_
    rintro _ w45 ⟨rfl, hb45⟩
    refine ⟨.inr (fun h => Below.step h hb45), ?_⟩
    have k45 := Below.step kr5 hb45
    refine RL.any rfl rfl (fun _ => Y.pickT rfl) ?_
    refine RL.any rfl rfl (fun _ => Y.move) ?_
    refine RL.any rfl rfl (fun _ => Y.move) ?_
    refine RL.any rfl rfl (fun _ => Y.move) ?_
    refine RL.any rfl rfl (fun _ => Y.nilCheck rfl) ?_
    refine RL.any rfl rfl (fun _ => Y.fieldAddr fi46f0 ti26 (by decide) rfl (rfl) _) ?_
    refine RL.held rfl rfl (Below.step hS5 hb45) (fun _ hb9 => Y.load1 Try.underlying26 rfl rfl (cell_bel hBR11.one hb9)) ?_
    refine RL.any rfl rfl (fun _ => Y.lenSl Try.underlying26 (((hSR9.sl.bel hb11).bel hS5)) _) ?_
    refine RL.call rfl rfl (C.func go24) (plen ((hP11.bel hS5).bel hb45)) ?_
    rintro _ _ ⟨rfl, rfl⟩
    refine ⟨.inr id, ?_⟩
    refine RL.any rfl rfl (fun _ => Y.dT (Y.eqi rfl rfl) ((by have := congrArg List.length hmR; simp only [List.length_map] at this; omega))) ?_
    refine RL.any rfl rfl (fun _ => Y.pickT rfl) ?_
    refine RL.any rfl rfl (fun _ => Y.move) ?_
    refine RL.any rfl rfl (fun _ => Y.move) ?_
    refine RL.any rfl rfl (fun _ => Y.move) ?_
    refine RL.any rfl rfl (fun _ => Y.move) ?_
    refine RL.any rfl rfl (fun _ => Y.move) ?_
    refine RL.call rfl rfl (C.func go25) (pcount ((hP11.bel hS5).bel hb45) x) ?_
    rintro _ w60 ⟨rfl, hb60⟩
    refine ⟨.inl rfl, ?_⟩
    have k60 := Below.step k45 hb60
    refine RL.call rfl rfl (C.func go40) (pcountR (((hP11.bel hS5).bel hb45).bel hb60) x) ?_
    rintro _ _ ⟨rfl, rfl⟩
    refine ⟨.inl rfl, ?_⟩
    refine RL.any rfl rfl (fun _ => Y.dT (Y.eqi rfl rfl) (rfl)) ?_
    refine RL.any rfl rfl (fun _ => Y.pickT rfl) ?_
    refine RL.any rfl rfl (fun _ => Y.assign) ?_
    refine RL.nil (thenQ.normal ?_)
    refine WC.ret (endQ.one (.inr rfl) ?_)
    exact ⟨rfl, k60⟩
end Go.Proofs.Ytjlclaimpepgiaa
