/-
  The laws NetSpoils, NetOwn.
-/
import Derived.Test.YtjlclaimpepgiaaNet13
namespace Go.Proofs.Ytjlclaimpepgiaa
open Go Go.RowKit Go.Cx
set_option linter.unusedVariables false
open Crc
theorem spoilS_len (ls : List LS) (i at' : Int) (m : UInt8) : (spoilS ls i at' m).1.length = ls.length := by
  unfold spoilS
  split
  · split <;> simp
  · rfl
theorem netSpoils_ret (w : World) (bv : Value) (l : List UInt8) (hs : Bs w bv l) (hl : l.length ≤ 140737488351232) (at' : Int) (hat : (Lit.int .i64 at').wf = true) (n2 : Int) (hn2 : (Lit.int .u8 n2).wf = true) (again : Int) (hag : (Lit.int .i64 again).wf = true) :
    Ret Try.prog 5 [bv, .int .i64 at', .int .u8 n2, .int .i64 again].toArray w fun v w' => v = .bool true ∧ Below w.heap.size w w' := by
  rw [u8_of hn2]
  generalize UInt8.ofNat n2.toNat = m
  refine Ret.of (n := 56) (rs := #[.tmp 8]) Try.func5 rfl rfl rfl (by simp) ?_
  refine WC.seqR rfl ?_
  refine WL.y rfl (Y.assign) ?_
  refine WL.nil ?_
  refine WC.seqR rfl ?_
  refine WL.y rfl (Y.build (cells := #[.slice none 0 0]) (by kernel_rfl) _) ?_
  refine WL.eex rfl (E.boxX) ?_
  rintro _ w14 ⟨rfl, hB14, hb14⟩
  have k14 := hb14
  refine WL.y rfl (Y.build (cells := #[.slice none 0 0]) (by kernel_rfl) _) ?_
  refine WL.eex rfl (E.boxX) ?_
  rintro _ w16 ⟨rfl, hB16, hb16⟩
  have k16 := Below.step k14 hb16
  have kk := k16
  have h14l := hb14.size
  have hqq := pair_new (B := w.heap.size) (hB14.bel hb16) hB16 (Nat.le_refl _) h14l
  obtain ⟨M0, hP0⟩ := hqq
  refine WL.y rfl (Y.assign) ?_
  refine WL.y rfl (Y.assign) ?_
  refine WL.nil ?_
  refine WC.seqR rfl ?_
  refine WL.y rfl (Y.move) ?_
  refine WL.y rfl (Y.move) ?_
  refine WL.call rfl (C.func go13) (rown_ret bv l _ (hs.bel kk) (by omega)) ?_
  rintro v19 w19 ⟨ho19, hb19⟩
  have k19 := Below.step k16 hb19
  refine WL.call rfl (C.func go10) (psend (hP0.bel hb19) (by simp) 1 v19 l ho19.bs (by omega)) ?_
  rintro _ w20 ⟨rfl, M1, hP1, hk1, hm1⟩
  have k20 := k19.trans (hk1.below hP0.from_ k19.size)
  refine WL.nil ?_
  refine WC.seqR rfl ?_
  refine WL.y rfl (Y.move) ?_
  refine WL.y rfl (Y.move) ?_
  refine WL.call rfl (C.func go18) (psendR hP1 (by simp) 1 bv l (hs.bel k20) (by omega)) ?_
  rintro _ w23 ⟨rfl, M2, hP2, hk2, hm2⟩
  have k23 := k20.trans (hk2.below hP1.from_ k20.size)
  refine WL.nil ?_
  refine WC.seqR rfl ?_
  refine WL.y rfl (Y.move) ?_
  refine WL.y rfl (Y.move) ?_
  refine WL.y rfl (Y.move) ?_
  refine WL.call rfl (C.func go16) (pspoil hP2 0 at' m) ?_
  rintro _ w27 ⟨rfl, M3, hP3, hk3, hm3⟩
  have k27 := k23.trans (hk3.below hP2.from_ k23.size)
  refine WL.y rfl (Y.assign) ?_
  refine WL.nil ?_
  refine WC.seqR rfl ?_
  refine WL.y rfl (Y.move) ?_
  refine WL.y rfl (Y.move) ?_
  refine WL.y rfl (Y.move) ?_
  refine WL.call rfl (C.func go16) (pspoil hP3 0 again m) ?_
  rintro _ w31 ⟨rfl, M4, hP4, hk4, hm4⟩
  have k31 := k27.trans (hk4.below hP3.from_ k27.size)
  refine WL.y rfl (Y.assign) ?_
  refine WL.nil ?_
  refine WC.seq ?_
  refine WC.seqR rfl ?_
  refine WL.y rfl (Y.move) ?_
  refine WL.y rfl (Y.move) ?_
  refine WL.y rfl (Y.move) ?_
  refine WL.y rfl (Y.move) ?_
  refine WL.call rfl (C.func go19) (pspoilR hP4 (by simp) 0 at' m) ?_
  rintro _ w36 ⟨rfl, M5, hP5, hk5, hm5⟩
  have k36 := k31.trans (hk5.below hP4.from_ k31.size)
  refine WL.y rfl (Y.dF (Y.nei rfl rfl) ((by simp))) ?_
  refine WL.y rfl (Y.move) ?_
  refine WL.y rfl (Y.move) ?_
  refine WL.y rfl (Y.move) ?_
  refine WL.y rfl (Y.move) ?_
  refine WL.y rfl (Y.move) ?_
  refine WL.call rfl (C.func go19) (pspoilR hP5 (by rw [spoilS_len]; simp) 0 again m) ?_
  rintro _ w43 ⟨rfl, M6, hP6, hk6, hm6⟩
  have k43 := k36.trans (hk6.below hP5.from_ k36.size)
  refine WL.y rfl (Y.dF (Y.nei rfl rfl) ((by simp))) ?_
  refine WL.y rfl (Y.pickF rfl) ?_
  refine WL.nil ?_
  have hqq := hP6.refM
  obtain ⟨vR, psR, hBR, hSR, hmR, hlR⟩ := hqq
  refine WC.condF (rfl) ?_
  refine WC.skip (thenQ.normal ?_)
  refine WC.seq ?_
  refine WC.regionB (fun i => Nat.beq i 6 || Nat.beq i 8) [(0, .any), (2, .any), (3, .any), (4, .any), (5, .held), (1, .seq), (6, .seq), (7, .any), (8, .seq), (9, .any), (10, .any)] mixed (by kernel_rfl) (fun wr8 hS8 hheap => ?_)
  have kr8 := Below.step k43 hS8
  refine RL.any rfl rfl (fun _ => Y.move) ?_
  refine RL.any rfl rfl (fun _ => Y.move) ?_
  refine RL.any rfl rfl (fun _ => Y.nilCheck rfl) ?_
  refine RL.any rfl rfl (fun _ => Y.fieldAddr fi46f0 ti26 (by decide) rfl (rfl) _) ?_
  refine RL.held rfl rfl hS8 (fun _ hb9 => Y.load1 Try.underlying26 rfl rfl (cell_bel hBR.one hb9)) ?_
  refine RL.call rfl rfl (C.func go12) (pall (hP6.bel hS8) (by rw [spoilS_len, spoilS_len]; simp)) ?_
  rintro v47 w47 ⟨⟨qs, hs47, hm47, hq47⟩, hb47⟩
  refine ⟨.inr (fun h => Below.step h hb47), ?_⟩
  have k47 := Below.step kr8 hb47
  refine RL.call rfl rfl (C.func go20) ((sameL_ret _ v47 vR qs psR hs47 ((hSR.sl.bel hS8).bel hb47) hq47 (fun k hk => (((lts_of_getD hlR) k hk).bel hS8).bel hb47)).yes (hm47.trans hmR.symm)) ?_
  rintro _ w52 ⟨rfl, hb52⟩
  refine ⟨.inl rfl, ?_⟩
  have k52 := Below.step k47 hb52
  refine RL.any rfl rfl (fun _ => Y.move) ?_
  refine RL.call rfl rfl (C.func go9) (known_ret _) ?_
  rintro _ w54 ⟨rfl, hb54⟩
  refine ⟨.inl rfl, ?_⟩
  have k54 := Below.step k52 hb54
  refine RL.any rfl rfl (fun _ => Y.pickT rfl) ?_
  refine RL.any rfl rfl (fun _ => Y.assign) ?_
  refine RL.nil (thenQ.normal ?_)
  refine WC.ret (endQ.one (.inr rfl) ?_)
  exact ⟨rfl, k54⟩
theorem own_belLt {w w' : World} {B0 B n k : Nat} {e : TypeId} {v : Value} {xs : List Value} (h : w.ownsRow B0 e k v n xs) (hb : Below B w w') (hlt : ∀ b, v.ownBlock = some b → b < B) : w'.ownsRow B0 e k v n xs := by
  refine ⟨h.1, ?_⟩
  rcases h.2 with h | ⟨b, cap, cur, hv, hB, hbb, r⟩
  · exact .inl h
  · exact .inr ⟨b, cap, cur, hv, hB, (hb.block b (hlt b (by rw [hv]; rfl))).trans hbb, r⟩
theorem netOwn_ret (w : World) (to : Int) (hto : (Lit.int .u64 to).wf = true) (bv : Value) (l : List UInt8) (hs : Bs w bv l) (hl : l.length ≤ 140737488351232) :
    Ret Try.prog 4 [.int .u64 to, bv].toArray w fun v w' => v = .bool true ∧ Below w.heap.size w w' := by
  refine Ret.of (n := 112) (rs := #[.tmp 4]) Try.func4 rfl rfl rfl (by simp) ?_
  refine WC.seqR rfl ?_
  refine WL.y rfl (Y.assign) ?_
  refine WL.nil ?_
  refine WC.seqR rfl ?_
  refine WL.y rfl (Y.move) ?_
  refine WL.call rfl (C.func go13) (rown_ret bv l _ (hs.bel (Below.refl _ _)) (by omega)) ?_
  rintro v16 w16 ⟨ho16, hb16⟩
  have k16 := hb16
  refine WL.y rfl (Y.assign) ?_
  refine WL.nil ?_
  refine WC.seqR rfl ?_
  refine WL.y rfl (Y.build (cells := #[.slice none 0 0]) (by kernel_rfl) _) ?_
  refine WL.eex rfl (E.boxX) ?_
  rintro _ w18 ⟨rfl, hB18, hb18⟩
  have k18 := Below.step k16 hb18
  have hN18 : NetOf w18 w16.heap.size w16.heap.size [] := netOf_new hB18 (Nat.le_refl _)
  refine WL.y rfl (Y.assign) ?_
  refine WL.nil ?_
  refine WC.seqR rfl ?_
  refine WL.y rfl (Y.move) ?_
  refine WL.y rfl (Y.move) ?_
  refine WL.y rfl (Y.move) ?_
  refine WL.call rfl (C.func go10) (osend hN18 (by simp) to v16 l (ho16.bs.bel hb18) (by omega)) ?_
  rintro _ w22 ⟨rfl, ⟨f22, hN22⟩, hq22⟩
  have k22 := k18.trans (hq22.mono k16.size)
  refine WL.nil ?_
  refine WC.seqR rfl ?_
  refine WL.y rfl (Y.move) ?_
  refine WL.call rfl (C.func go14) (odouble_in hN22 (by simp) 0 (by simp)) ?_
  rintro _ w24 ⟨rfl, hN24, hq24⟩
  have k24 := k22.trans (hq24.mono k16.size)
  refine WL.nil ?_
  refine WC.seq ?_
  refine WC.seqR rfl ?_
  refine WL.y rfl (Y.assign) ?_
  refine WL.nil ?_
  refine WC.block ?_
  have hlt16 : ∀ b, v16.ownBlock = some b → b < w16.heap.size := fun b hb => (ho16.lt b hb).2
  have h24 : w24.ownsRow w.heap.size 5 1 v16 l.length (l.map u8v) := own_belLt (own_belLt (ho16.bel hb18) hq22 hlt16) hq24 hlt16
  have h16s := k16.size
  refine WC.loop (fun i => l.length - i) (fun i f ds w' => i ≤ l.length ∧ ds = [] ∧ Below w.heap.size w w' ∧ (∃ m : List UInt8, m.length = l.length ∧ w'.ownsRow w.heap.size 5 1 v16 l.length (m.map u8v)) ∧ NetOf w' w16.heap.size w16.heap.size [(⟨to, l, false⟩, f22), (⟨to, l, false⟩, f22)] ∧ ∃ J, f = ov J [(0, .int .u64 to), (1, bv), (4, .bool false), (5, v16), (6, .pointer (some ⟨w16.heap.size, 0, none⟩)), (7, .int .i64 (i : Int))]) 0 ?_ ?_
  · exact ⟨by omega, rfl, k24, ⟨l, rfl, h24⟩, hN24, _, ov_mk ⟨rfl, rfl, rfl, rfl, rfl, rfl, trivial⟩⟩
  · rintro i _ _ w3 ⟨hi, rfl, hb3, ⟨m, hm, ho3⟩, hN3, J, rfl⟩
    refine WC.seq ?_
    refine WC.seqR rfl ?_
    refine WL.y rfl (Y.move) ?_
    refine WL.y rfl (Y.move) ?_
    refine WL.y rfl (Y.lenSl Try.underlying32 ((ownsRow_sl ho3)) _) ?_
    refine WL.y rfl (Y.lss rfl rfl) ?_
    refine WL.nil ?_
    refine WC.condD rfl (fun hlt => ?_) (fun hlt => ?_)
    · have hil : i < l.length := by omega
      have hqq := own_form ho3 (by omega)
      obtain ⟨b, cap, rfl, hbl, hbh⟩ := hqq
      have hb16l := hlt16 b rfl
      refine WC.skip (thenQ.normal ?_)
      refine WC.seq ?_
      refine WC.block ?_
      refine WC.region rfl ?_
      refine WL.y rfl (Y.move) ?_
      refine WL.y rfl (Y.move) ?_
      refine WL.y rfl (Y.move) ?_
      refine WL.y rfl (Y.move) ?_
      refine WL.y rfl (Y.idxV1 (j := i) Try.underlying32 ti5 rfl rfl rfl (by omega) _) ?_
      refine WL.y rfl (Y.load1 Try.underlying5 rfl rfl ((own_cell ho3 i hil).trans (show _ = some (u8v (m.getD i 0)) by simp [show i < m.length by omega]))) ?_
      refine WL.y rfl (Y.xorU8 (b := 1) rfl rfl) ?_
      refine WL.y rfl (Y.idxV1 (j := i) Try.underlying32 ti5 rfl rfl rfl (by omega) _) ?_
      refine WL.eex rfl (E.storeOwn (u := u8v (m.getD i 0 ^^^ 1)) ti5 rfl rfl rfl ho3 hil) ?_
      rintro _ w38 ⟨ho38, hg38⟩
      refine WL.nil (inBlockQ.normal (thenQ.normal ?_))
      refine WC.region rfl ?_
      refine WL.y rfl (Y.move) ?_
      refine WL.y rfl (Y.add64 rfl rfl (by omega)) ?_
      refine WL.y rfl (Y.assign) ?_
      refine WL.nil (thenQ.normal ?_)
      rw [← List.map_set] at ho38
      exact ⟨i + 1, by omega, by omega, rfl, hb3.trans (below_of_grown hg38 hb3.size (fun k e => by cases e; exact hbl)), ⟨_, by simpa using hm, ho38⟩, hN3.writeLt hg38 hb16l, _, ov_mk ⟨rfl, rfl, rfl, rfl, rfl, rfl, trivial⟩⟩
    · refine WC.exit (thenQ.exit (thenQ.exit (inBlockQ.hit (thenQ.normal ?_))))
      refine WC.seqR rfl ?_
      refine WL.y rfl (Y.move) ?_
      refine WL.call rfl (C.func go15) (oat_in hN3 0 (by simp)) ?_
      rintro _ w41 ⟨⟨f41, rfl, ho41⟩, hb41⟩
      have k41 := Below.step hb3 hb41
      refine WL.y rfl (Y.move) ?_
      refine WL.y rfl (Y.extract rfl rfl) ?_
      refine WL.y rfl (Y.extract rfl rfl) ?_
      refine WL.eex rfl (E.allocX ti36) ?_
      rintro _ w8 ⟨rfl, hB8, hb8⟩
      have k8 := Below.step k41 hb8
      refine WL.eex rfl (E.storeAll (us := encL (⟨to, l, false⟩, f41)) ti36 rfl rfl (one_enc ho41.bs.one) hB8 rfl) ?_
      rintro _ w8b ⟨hB8b, hg8⟩
      have hb8b := bel_new hb8 hg8
      refine WL.y rfl (Y.assign) ?_
      refine WL.nil ?_
      refine WC.seq ?_
      refine WC.seqR rfl ?_
      refine WL.y rfl (Y.assign) ?_
      refine WL.nil ?_
      refine WC.block ?_
      have h41 : w8b.ownsRow w3.heap.size 5 1 f41 l.length (l.map u8v) := ho41.bel hb8b
      have hb3s := hb3.size
      have hlt8 := hB8b.lt
      have hlt41 : ∀ b, f41.ownBlock = some b → b < w41.heap.size := fun b hb => (ho41.lt b hb).2
      have hb41s := hb41.size
      have hbA : Below w3.heap.size w3 w8b := Below.step hb41 hb8b
      refine WC.loop (fun i => l.length - i) (fun i f ds w' => i ≤ l.length ∧ ds = [] ∧ Below w3.heap.size w3 w' ∧ Blk w' w41.heap.size 36 (encL (⟨to, l, false⟩, f41)) ∧ (∃ m : List UInt8, m.length = l.length ∧ w'.ownsRow w3.heap.size 5 1 f41 l.length (m.map u8v)) ∧ ∃ J, f = ov J [(0, .int .u64 to), (1, bv), (4, .bool false), (6, .pointer (some ⟨w16.heap.size, 0, none⟩)), (8, .pointer (some ⟨w41.heap.size, 0, none⟩)), (9, .int .i64 0), (10, .int .i64 (i : Int))]) 0 ?_ ?_
      · exact ⟨by omega, rfl, hbA, hB8b, ⟨l, rfl, h41⟩, _, ov_mk ⟨rfl, rfl, rfl, rfl, rfl, rfl, rfl, trivial⟩⟩
      · rintro i _ _ w4 ⟨hi, rfl, hb4, hB4, ⟨m, hm, ho4⟩, J, rfl⟩
        have kk4 := Below.step hb3 hb4
        refine WC.seq ?_
        refine WC.seqR rfl ?_
        refine WL.y rfl (Y.move) ?_
        refine WL.y rfl (Y.fieldAddr fi36f1 ti32 (by decide) rfl (rfl) _) ?_
        refine WL.y rfl (Y.load1 Try.underlying32 rfl rfl ((show _ = some f41 from (hB4.cell 1).trans rfl))) ?_
        refine WL.y rfl (Y.lenSl Try.underlying32 ((ownsRow_sl ho4)) _) ?_
        refine WL.y rfl (Y.lss rfl rfl) ?_
        refine WL.nil ?_
        refine WC.condD rfl (fun hlt => ?_) (fun hlt => ?_)
        · have hil : i < l.length := by omega
          have hqq := own_form ho4 (by omega)
          obtain ⟨b, cap, rfl, hbl, hbh⟩ := hqq
          have hb41l := hlt41 b rfl
          have hcc := (own_cell ho4 i hil).trans (show _ = some (u8v (m.getD i 0)) by simp [show i < m.length by omega])
          refine WC.skip (thenQ.normal ?_)
          refine WC.seq ?_
          refine WC.block ?_
          refine WC.regionB (fun i => Nat.beq i 10) [(0, .any), (1, .held), (2, .any), (3, .any), (4, .held), (5, .any), (6, .any), (7, .held), (8, .any), (9, .any), (10, .seq)] mixed (by kernel_rfl) (fun wr13 hS13 hheap => ?_)
          have kr13 := Below.step kk4 hS13
          refine RL.any rfl rfl (fun _ => Y.fieldAddr fi36f1 ti32 (by decide) rfl (rfl) _) ?_
          refine RL.held rfl rfl hS13 (fun _ hb9 => Y.load1 Try.underlying32 rfl rfl ((show _ = some (Value.slice (some ⟨b, 0, none⟩) l.length cap) from ((hB4.bel hb9).cell 1).trans rfl))) ?_
          refine RL.any rfl rfl (fun _ => Y.move) ?_
          refine RL.any rfl rfl (fun _ => Y.fieldAddr fi36f1 ti32 (by decide) rfl (rfl) _) ?_
          refine RL.held rfl rfl hS13 (fun _ hb9 => Y.load1 Try.underlying32 rfl rfl ((show _ = some (Value.slice (some ⟨b, 0, none⟩) l.length cap) from ((hB4.bel hb9).cell 1).trans rfl))) ?_
          refine RL.any rfl rfl (fun _ => Y.move) ?_
          refine RL.any rfl rfl (fun _ => Y.idxV1 (j := i) Try.underlying32 ti5 rfl rfl rfl (by omega) _) ?_
          refine RL.held rfl rfl hS13 (fun _ hb9 => Y.load1 Try.underlying5 rfl rfl (cell_bel hcc hb9)) ?_
          refine RL.any rfl rfl (fun _ => Y.xorU8 (b := 2) rfl rfl) ?_
          refine RL.any rfl rfl (fun _ => Y.idxV1 (j := i) Try.underlying32 ti5 rfl rfl rfl (by omega) _) ?_
          refine RL.eex rfl rfl (E.storeOwn (u := u8v (m.getD i 0 ^^^ 2)) ti5 rfl rfl rfl (ownsRow_bel ho4 hS13) hil) ?_ ?_
          · exact fun _ _ _ => .inl rfl
          rintro _ w60 ⟨ho60, hg60⟩
          refine RL.nil (inBlockQ.normal (thenQ.normal ?_))
          refine WC.region rfl ?_
          refine WL.y rfl (Y.move) ?_
          refine WL.y rfl (Y.add64 rfl rfl (by omega)) ?_
          refine WL.y rfl (Y.assign) ?_
          refine WL.nil (thenQ.normal ?_)
          rw [← List.map_set] at ho60
          exact ⟨i + 1, by omega, by omega, rfl, (Below.step hb4 hS13).trans (below_of_grown hg60 (Below.step hb4 hS13).size (fun k e => by cases e; exact hbl)), (hB4.bel hS13).grown hg60 (by omega), ⟨_, by simpa using hm, ho60⟩, _, ov_mk ⟨rfl, rfl, rfl, rfl, rfl, rfl, rfl, trivial⟩⟩
        · have hN4 := hN3.bel hb4
          refine WC.exit (thenQ.exit (thenQ.exit (inBlockQ.hit (thenQ.normal ?_))))
          refine WC.seqR rfl ?_
          refine WL.y rfl (Y.move) ?_
          refine WL.call rfl (C.func go12) (oall hN4 (by simp)) ?_
          rintro v62 w62 ⟨⟨b62, qs, hb62l, ho62, hm62, hq62⟩, hb62⟩
          have k62 := Below.step kk4 hb62
          refine WL.y rfl (Y.assign) ?_
          refine WL.nil ?_
          refine WC.seq ?_
          refine WC.seqR rfl ?_
          refine WL.y rfl (Y.move) ?_
          refine WL.y rfl (Y.dF (Y.nei rfl rfl) (by omega)) ?_
          refine WL.y rfl (Y.move) ?_
          refine WL.y rfl (Y.move) ?_
          refine WL.y rfl (Y.lenSl Try.underlying26 (ho62.sl) _) ?_
          refine WL.y rfl (Y.dF (Y.nei rfl rfl) ((by simp))) ?_
          refine WL.y rfl (Y.pickF rfl) ?_
          refine WL.nil ?_
          have hql : qs.length = 2 := by have := congrArg List.length hm62; simpa using this
          obtain ⟨q0, q1, rfl⟩ : ∃ q0 q1, qs = [q0, q1] := by
            match qs, hql with
            | [q0, q1], _ => exact ⟨_, _, rfl⟩
          have hq0 : q0.1 = ⟨to, l, false⟩ := (List.cons.inj hm62).1
          obtain ⟨⟨_, _, _⟩, fq⟩ := q0
          cases hq0
          have hqq := hq62 _ (List.mem_cons_self ..)
          obtain ⟨B6, hB6l, hoq⟩ := hqq
          have hqq := ho62.form (by simp)
          obtain ⟨o62, c62, rfl, hn62, hc62, hlt62⟩ := hqq
          have hltq : ∀ b, fq.ownBlock = some b → B6 ≤ b := fun b hb => (hoq.lt b hb).1
          have hb4s := hb4.size
          refine WC.condF (rfl) ?_
          refine WC.skip (thenQ.normal ?_)
          refine WC.seq ?_
          refine WC.seqR rfl ?_
          refine WL.y rfl (Y.assign) ?_
          refine WL.nil ?_
          refine WC.block ?_
          refine WC.loop (fun i => l.length - i) (fun i f ds w' => i ≤ l.length ∧ ds = [] ∧ Below w4.heap.size w4 w' ∧ OwnK w' b62 36 3 (.slice (some ⟨b62, o62, none⟩) 2 c62) 2 (flat [(⟨to, l, false⟩, fq), q1]) ∧ (∃ m : List UInt8, m.length = l.length ∧ w'.ownsRow B6 5 1 fq l.length (m.map u8v)) ∧ ∃ J, f = ov J [(0, .int .u64 to), (1, bv), (4, .bool false), (6, .pointer (some ⟨w16.heap.size, 0, none⟩)), (11, .slice (some ⟨b62, o62, none⟩) 2 c62), (12, .int .i64 (i : Int))]) 0 ?_ ?_
          · exact ⟨by omega, rfl, hb62, ho62, ⟨l, rfl, hoq⟩, _, ov_mk ⟨rfl, rfl, rfl, rfl, rfl, rfl, trivial⟩⟩
          · rintro i _ _ w5 ⟨hi, rfl, hb5, hO5, ⟨m, hm, ho5⟩, J, rfl⟩
            have kk5 := Below.step kk4 hb5
            have hc5 := hO5.cells
            have hcf : w5.cell? ⟨b62, o62 + 1, none⟩ = some fq := hc5 1 fq rfl
            refine WC.seq ?_
            refine WC.seqR rfl ?_
            refine WL.y rfl (Y.move) ?_
            refine WL.y rfl (Y.move) ?_
            refine WL.y rfl (Y.idxV Try.underlying26 ti36 rfl rfl (by omega) (by omega) _) ?_
            refine WL.y rfl (Y.fieldAddr fi36f1 ti32 (by decide) rfl (rfl) _) ?_
            refine WL.y rfl (Y.load1 Try.underlying32 rfl rfl (hcf)) ?_
            refine WL.y rfl (Y.lenSl Try.underlying32 ((ownsRow_sl ho5)) _) ?_
            refine WL.y rfl (Y.lss rfl rfl) ?_
            refine WL.nil ?_
            refine WC.condD rfl (fun hlt => ?_) (fun hlt => ?_)
            · have hil : i < l.length := by omega
              have hqq := own_form ho5 (by omega)
              obtain ⟨b, cap, rfl, hbl, hbh⟩ := hqq
              have hcc := (own_cell ho5 i hil).trans (show _ = some (u8v (m.getD i 0)) by simp [show i < m.length by omega])
              refine WC.skip (thenQ.normal ?_)
              refine WC.seq ?_
              refine WC.block ?_
              refine WC.regionB (fun i => Nat.beq i 14) [(0, .any), (1, .any), (2, .any), (3, .held), (4, .any), (5, .any), (6, .any), (7, .any), (8, .held), (9, .any), (10, .any), (11, .held), (12, .any), (13, .any), (14, .seq)] mixed (by kernel_rfl) (fun wr20 hS20 hheap => ?_)
              have kr20 := Below.step kk5 hS20
              refine RL.any rfl rfl (fun _ => Y.move) ?_
              refine RL.any rfl rfl (fun _ => Y.idxV Try.underlying26 ti36 rfl rfl (by omega) (by omega) _) ?_
              refine RL.any rfl rfl (fun _ => Y.fieldAddr fi36f1 ti32 (by decide) rfl (rfl) _) ?_
              refine RL.held rfl rfl hS20 (fun _ hb9 => Y.load1 Try.underlying32 rfl rfl (cell_bel hcf hb9)) ?_
              refine RL.any rfl rfl (fun _ => Y.move) ?_
              refine RL.any rfl rfl (fun _ => Y.move) ?_
              refine RL.any rfl rfl (fun _ => Y.idxV Try.underlying26 ti36 rfl rfl (by omega) (by omega) _) ?_
              refine RL.any rfl rfl (fun _ => Y.fieldAddr fi36f1 ti32 (by decide) rfl (rfl) _) ?_
              refine RL.held rfl rfl hS20 (fun _ hb9 => Y.load1 Try.underlying32 rfl rfl (cell_bel hcf hb9)) ?_
              refine RL.any rfl rfl (fun _ => Y.move) ?_
              refine RL.any rfl rfl (fun _ => Y.idxV1 (j := i) Try.underlying32 ti5 rfl rfl rfl (by omega) _) ?_
              refine RL.held rfl rfl hS20 (fun _ hb9 => Y.load1 Try.underlying5 rfl rfl (cell_bel hcc hb9)) ?_
              refine RL.any rfl rfl (fun _ => Y.xorU8 (b := 4) rfl rfl) ?_
              refine RL.any rfl rfl (fun _ => Y.idxV1 (j := i) Try.underlying32 ti5 rfl rfl rfl (by omega) _) ?_
              refine RL.eex rfl rfl (E.storeOwn (u := u8v (m.getD i 0 ^^^ 4)) ti5 rfl rfl rfl (ownsRow_bel ho5 hS20) hil) ?_ ?_
              · exact fun _ _ _ => .inl rfl
              rintro _ w92 ⟨ho92, hg92⟩
              refine RL.nil (inBlockQ.normal (thenQ.normal ?_))
              refine WC.region rfl ?_
              refine WL.y rfl (Y.move) ?_
              refine WL.y rfl (Y.add64 rfl rfl (by omega)) ?_
              refine WL.y rfl (Y.assign) ?_
              refine WL.nil (thenQ.normal ?_)
              rw [← List.map_set] at ho92
              exact ⟨i + 1, by omega, by omega, rfl, (Below.step hb5 hS20).trans (below_of_grown hg92 (Below.step hb5 hS20).size (fun k e => by cases e; omega)), (hO5.bel hS20).keptR hg92 (.inr (fun e => by simp only [Value.ownBlock, Option.some.injEq] at e; omega)), ⟨_, by simpa using hm, ho92⟩, _, ov_mk ⟨rfl, rfl, rfl, rfl, rfl, rfl, trivial⟩⟩
            · have hN5 := hN4.bel hb5
              refine WC.exit (thenQ.exit (thenQ.exit (inBlockQ.hit (thenQ.normal ?_))))
              refine WC.seqR rfl ?_
              refine WL.y rfl (Y.move) ?_
              refine WL.call rfl (C.func go16) (ospoil_any hN5 0 (by simp) rfl 0 8) ?_
              rintro _ w94 ⟨⟨ps', hN94, hp94⟩, hq94⟩
              have hp1 := hp94 1 (by decide)
              have hpl : 1 < ps'.length := by rcases Nat.lt_or_ge 1 ps'.length with h | h; exact h; rw [List.getElem?_eq_none h] at hp1; cases hp1
              have hpe : ps'[1] = (⟨to, l, false⟩, f22) := by rw [List.getElem?_eq_getElem hpl] at hp1; exact Option.some.inj hp1
              have k94 := kk5.trans (hq94.mono h16s)
              refine WL.nil ?_
              refine WC.seqR rfl ?_
              refine WL.y rfl (Y.move) ?_
              refine WL.call rfl (C.func go15) (oat_in hN94 1 hpl) ?_
              rintro _ w97 ⟨⟨f97, rfl, ho97⟩, hb97⟩
              have k97 := Below.step k94 hb97
              rw [hpe] at ho97
              simp only [hpe]
              refine WL.y rfl (Y.move) ?_
              refine WL.y rfl (Y.extract rfl rfl) ?_
              refine WL.y rfl (Y.extract rfl rfl) ?_
              refine WL.eex rfl (E.allocX ti36) ?_
              rintro _ w13 ⟨rfl, hB13, hb13⟩
              have k13 := Below.step k97 hb13
              refine WL.eex rfl (E.storeAll (us := encL (⟨to, l, false⟩, f97)) ti36 rfl rfl (one_enc ho97.bs.one) hB13 rfl) ?_
              rintro _ w13b ⟨hB13b, hg13⟩
              have hb13b := bel_new hb13 hg13
              have k13b := Below.step k97 hb13b
              refine WL.y rfl (Y.assign) ?_
              refine WL.nil ?_
              refine WC.seqR rfl ?_
              refine WL.y rfl (Y.move) ?_
              refine WL.y rfl (Y.dT (Y.eqi rfl rfl) (by omega)) ?_
              refine WL.y rfl (Y.move) ?_
              refine WL.y rfl (Y.loadN Try.underlying36 rfl ti36 rfl (hB13b.cells)) ?_
              have hqq := bs_form hs
              obtain ⟨ab, cb, rfl⟩ := hqq
              refine WL.y rfl (Y.move) ?_
              refine WL.y rfl (Y.move) ?_
              refine WL.y rfl (Y.build (cells := (encL (⟨to, l, false⟩, .slice ab l.length cb)).toArray) (by kernel_rfl) _) ?_
              refine WL.call rfl (C.func go17) ((sameLetter_ret _ (⟨to, l, false⟩, f97) (⟨to, l, false⟩, .slice ab l.length cb) (ho97.bs.bel hb13b) (hs.bel k13b)).yes rfl) ?_
              rintro _ w107 ⟨rfl, hb107⟩
              have k107 := Below.step k13b hb107
              refine WL.y rfl (Y.pickT rfl) ?_
              refine WL.y rfl (Y.move) ?_
              refine WL.call rfl (C.func go9) (known_ret _) ?_
              rintro _ w110 ⟨rfl, hb110⟩
              have k110 := Below.step k107 hb110
              refine WL.y rfl (Y.pickT rfl) ?_
              refine WL.y rfl (Y.assign) ?_
              refine WL.nil ?_
              refine WC.ret (endQ.one (.inr rfl) ?_)
              exact ⟨rfl, k110⟩
end Go.Proofs.Ytjlclaimpepgiaa
