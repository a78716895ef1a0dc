/-
  CrcOwn.
-/
import Derived.Test.YtkopiibdegdfjaaCrc5
namespace Go.Proofs.Ytkopiibdegdfjaa
open Go Go.RowKit Go.Cx
set_option linter.unusedVariables false
open Crc
theorem blk_get (m : List UInt8) (rest : List Value) (i : Nat) (h : i < m.length) : (m.map u8v ++ rest)[i]? = some (u8v (m.getD i 0)) := by
  rw [List.getElem?_append_left (by simpa using h)]
  simp [h]
theorem blk_set (m : List UInt8) (rest : List Value) (i : Nat) (c : UInt8) (h : i < m.length) : (m.map u8v ++ rest).set i (u8v c) = (m.set i c).map u8v ++ rest := by
  rw [List.set_append_left _ _ (by simpa using h), List.map_set]
def zeros16 : List Value := List.replicate 16 (.int .u8 0)
theorem crcOwn_ret (w : World) (bv : Value) (l : List UInt8) (hs : Bs w bv l) (hl : l.length ≤ 140737488351232) :
    Ret Try.prog 9 [bv].toArray w fun v w' => v = .bool true ∧ Below w.heap.size w w' := by
  have hmx : maxLen = 9223372036854775807 := rfl
  have hz16 : zeros16.length = 16 := rfl
  have hsl := sealed_len l
  refine Ret.of (n := 87) (rs := #[.tmp 2]) Try.func9 rfl rfl rfl (by simp) ?_
  refine WC.seqR rfl ?_
  refine WL.y rfl (Y.assign) ?_
  refine WL.nil ?_
  refine WC.seqR rfl ?_
  refine WL.y rfl (Y.move) ?_
  refine WL.y rfl (Y.lenSl Try.underlying22 (hs) _) ?_
  refine WL.y rfl (Y.move) ?_
  refine WL.y rfl (Y.lenSl Try.underlying22 (hs) _) ?_
  refine WL.y rfl (Y.add64 rfl rfl (by omega)) ?_
  refine WL.eex rfl (E.makeBlk (n := l.length) (c := l.length + 16) Try.underlying22 ti5 rfl rfl rfl rfl (by omega) (by omega) (by omega) (by omega)) ?_
  rintro _ w17 ⟨rfl, hB17, hb17⟩
  have k17 := hb17
  refine WL.y rfl (Y.assign) ?_
  refine WL.nil ?_
  refine WC.seqR rfl ?_
  refine WL.y rfl (Y.move) ?_
  refine WL.y rfl (Y.move) ?_
  refine WL.eex rfl (E.copyBlk (cs := l.map u8v) Try.underlying22 ti5 rfl hB17 (hs.bel hb17) (by simp) (one_u8 l)) ?_
  rintro _ w20 ⟨hB20, hg20⟩
  have hBL : Blk w20 w.heap.size 5 (l.map u8v ++ zeros16) := by have := hB20; rw [List.drop_replicate, Nat.add_sub_cancel_left] at this; exact this
  have hx20 : Bs w20 (.slice (some ⟨w.heap.size, 0, none⟩) l.length (l.length + 16)) l := by have := hBL.sl (n := l.length) (cap := l.length + 16) (by omega) (by omega) (by simp); rwa [List.take_left' (by simp)] at this
  have k20 : Below w.heap.size w w20 := hb17.trans (below_of_grown hg20 hb17.size (fun k e => by cases e; omega))
  refine WL.nil ?_
  refine WC.seqR rfl ?_
  refine WL.y rfl (Y.move) ?_
  refine WL.call rfl (C.func go16) (seal_ret _ l _ hx20 (by omega)) ?_
  rintro v22 w22 ⟨ho22, hb22⟩
  have k22 := Below.step k20 hb22
  refine WL.y rfl (Y.assign) ?_
  refine WL.nil ?_
  refine WC.seq ?_
  refine WC.seqR rfl ?_
  refine WL.y rfl (Y.assign) ?_
  refine WL.nil ?_
  refine WC.block ?_
  have hlt20 : w.heap.size < w20.heap.size := hBL.lt
  refine WC.loop (fun k => l.length - k) (fun k f ds w' => k ≤ l.length ∧ ds = [] ∧ Below w.heap.size w w' ∧ (∃ m : List UInt8, m.length = l.length ∧ Blk w' w.heap.size 5 (m.map u8v ++ zeros16)) ∧ Own w' w20.heap.size v22 (sealed l) ∧ ∃ J, f = ov J [(0, bv), (3, .slice (some ⟨w.heap.size, 0, none⟩) l.length (l.length + 16)), (4, v22), (5, .int .i64 (k : Int))]) 0 ?_ ?_
  · exact ⟨by omega, rfl, k22, ⟨l, rfl, hBL.bel hb22⟩, ho22, _, ov_mk ⟨rfl, rfl, rfl, rfl, trivial⟩⟩
  · rintro k _ _ w3 ⟨hk, rfl, hb3, ⟨m, hm, hBm⟩, ho3, J, rfl⟩
    refine WC.seq ?_
    refine WC.seqR rfl ?_
    refine WL.y rfl (Y.move) ?_
    refine WL.y rfl (Y.move) ?_
    refine WL.y rfl (Y.lenV Try.underlying22 rfl _) ?_
    refine WL.y rfl (Y.lss rfl rfl) ?_
    refine WL.nil ?_
    refine WC.condD rfl (fun hlt => ?_) (fun hlt => ?_)
    · have hkl : k < l.length := by omega
      refine WC.skip (thenQ.normal ?_)
      refine WC.seq ?_
      refine WC.block ?_
      refine WC.region rfl ?_
      refine WL.y rfl (Y.move) ?_
      refine WL.y rfl (Y.move) ?_
      refine WL.y rfl (Y.move) ?_
      refine WL.y rfl (Y.move) ?_
      refine WL.y rfl (Y.idxV1 (j := k) Try.underlying22 ti5 rfl rfl (by omega) (by omega) _) ?_
      refine WL.y rfl (Y.load1 Try.underlying5 rfl rfl ((hBm.cell k).trans (blk_get m _ k (by omega)))) ?_
      refine WL.y rfl (Y.addU8 (b := 1) rfl rfl) ?_
      refine WL.y rfl (Y.idxV1 (j := k) Try.underlying22 ti5 rfl rfl (by omega) (by omega) _) ?_
      refine WL.eex rfl (E.storeX (u := u8v (m.getD k 0 + 1)) ti5 rfl rfl rfl hBm (by simp [zeros16]; omega)) ?_
      rintro _ w36 ⟨hB36, hg36, -⟩
      refine WL.nil (inBlockQ.normal (thenQ.normal ?_))
      refine WC.region rfl ?_
      refine WL.y rfl (Y.move) ?_
      refine WL.y rfl (Y.add64 rfl rfl (by omega)) ?_
      refine WL.y rfl (Y.assign) ?_
      refine WL.nil (thenQ.normal ?_)
      rw [blk_set m _ k _ (by omega)] at hB36
      exact ⟨k + 1, by omega, by omega, rfl, hb3.trans (below_of_grown hg36 hb3.size (fun k e => by cases e; omega)), ⟨_, by simpa using hm, hB36⟩, own_grown ho3 hg36 hlt20, _, ov_mk ⟨rfl, rfl, rfl, rfl, trivial⟩⟩
    · refine WC.exit (thenQ.exit (thenQ.exit (inBlockQ.hit (thenQ.normal ?_))))
      refine WC.seq ?_
      refine WC.seqR rfl ?_
      refine WL.y rfl (Y.move) ?_
      refine WL.y rfl (Y.move) ?_
      refine WL.y rfl (Y.lenV Try.underlying22 rfl _) ?_
      refine WL.y rfl (Y.move) ?_
      refine WL.y rfl (Y.capSl Try.underlying22 rfl _) ?_
      refine WL.y rfl (Y.sliceV (lo := l.length) (hi := l.length + 16) Try.underlying22 ti5 rfl rfl rfl rfl (by omega) (by omega) (by omega) (by omega) _) ?_
      refine WL.y rfl (Y.lenV Try.underlying22 rfl _) ?_
      refine WL.y rfl (Y.move) ?_
      refine WL.nil ?_
      refine WC.block ?_
      refine WC.loop (fun j => 16 - j) (fun j f ds w' => j ≤ 16 ∧ ds = [] ∧ w3 = w' ∧ ∃ J, f = ov J [(0, bv), (4, v22), (42, .slice (some ⟨w.heap.size, l.length, none⟩) 16 16), (43, .int .i64 16), (44, .int .i64 (j : Int))]) 0 ?_ ?_
      · refine ⟨by omega, rfl, rfl, _, ov_mk ⟨rfl, rfl, ?_, ?_, rfl, trivial⟩⟩
        · show Value.slice (some ⟨w.heap.size, 0 + l.length * 1, none⟩) (l.length + 16 - l.length) (l.length + 16 - l.length) = _
          rw [Nat.zero_add, Nat.mul_one, Nat.add_sub_cancel_left]
        · show Value.int .i64 ((l.length + 16 - l.length : Nat) : Int) = _
          rw [Nat.add_sub_cancel_left]; rfl
      · rintro j _ _ _ ⟨hj, rfl, rfl, J, rfl⟩
        refine WC.seqR rfl ?_
        refine WL.y rfl (Y.lss rfl rfl) ?_
        refine WL.nil ?_
        refine WC.seq ?_
        refine WC.condD rfl (fun hjl => ?_) (fun hjl => ?_)
        · have hz : w3.cell? ⟨w.heap.size, l.length + (j : Int).toNat * 1, none⟩ = some (Value.int .u8 0) := by
            rw [hBm.cell, List.getElem?_append_right (by simp; omega)]
            have e9 : l.length + (j : Int).toNat * 1 - (m.map u8v).length = j := by simp [hm]
            rw [e9]
            unfold zeros16
            rw [List.getElem?_replicate, if_pos (by omega)]
          refine WC.skip (thenQ.normal ?_)
          refine WC.seq ?_
          refine WC.block ?_
          refine WC.seqR rfl ?_
          refine WL.y rfl (Y.idxV Try.underlying22 ti5 rfl rfl (by omega) (by omega) _) ?_
          refine WL.y rfl (Y.load1 Try.underlying5 rfl rfl (hz)) ?_
          refine WL.y rfl (Y.assign) ?_
          refine WL.nil ?_
          refine WC.seqR rfl ?_
          refine WL.y rfl (Y.move) ?_
          refine WL.y rfl (Y.dF (Y.nei rfl rfl) (by omega)) ?_
          refine WL.nil ?_
          refine WC.condF (rfl) ?_
          refine WC.skip (inBlockQ.normal (thenQ.normal ?_))
          refine WC.region rfl ?_
          refine WL.y rfl (Y.add64 rfl rfl (by omega)) ?_
          refine WL.y rfl (Y.move) ?_
          refine WL.nil (thenQ.normal ?_)
          exact ⟨j + 1, by omega, by omega, rfl, rfl, _, ov_mk ⟨rfl, rfl, rfl, rfl, rfl, trivial⟩⟩
        · refine WC.exit (thenQ.exit (thenQ.exit (inBlockQ.hit (thenQ.normal ?_))))
          refine WC.seqR rfl ?_
          refine WL.y rfl (Y.move) ?_
          refine WL.call rfl (C.func go11) (own_ret v22 (sealed l) _ ho3.bs (by omega)) ?_
          rintro v52 w52 ⟨ho52, hb52⟩
          have k52 := Below.step hb3 hb52
          refine WL.y rfl (Y.assign) ?_
          refine WL.nil ?_
          refine WC.seqR rfl ?_
          refine WL.y rfl (Y.move) ?_
          refine WL.call rfl (C.func go17) (open_ret v52 (sealed l) _ ho52.bs (by omega)) ?_
          rintro _ w55 ⟨⟨x55, rfl, ho55⟩, hb55⟩
          have k55 := Below.step k52 hb55
          simp only [opened_sealed] at ho55
          refine WL.y rfl (Y.move) ?_
          refine WL.y rfl (Y.extract rfl rfl) ?_
          refine WL.y rfl (Y.extract rfl (congrArg some (congrArg Value.bool (decide_eq_true (seal_isSealed l).1)))) ?_
          refine WL.y rfl (Y.assign) ?_
          refine WL.y rfl (Y.assign) ?_
          refine WL.nil ?_
          refine WC.seq ?_
          refine WC.seqR rfl ?_
          refine WL.y rfl (Y.assign) ?_
          refine WL.nil ?_
          refine WC.block ?_
          obtain ⟨b8, cap8, rfl, hb8, hb8'⟩ := own_form ho52 (by omega)
          refine WC.loop (fun k => (sealed l).length - k) (fun k f ds w' => k ≤ (sealed l).length ∧ ds = [] ∧ Below w.heap.size w w' ∧ (∃ m : List UInt8, m.length = (sealed l).length ∧ w'.ownsRow w3.heap.size 5 1 (.slice (some ⟨b8, 0, none⟩) (sealed l).length cap8) (sealed l).length (m.map u8v)) ∧ Own w' w20.heap.size v22 (sealed l) ∧ Own w' w52.heap.size x55 l ∧ Bs w' bv l ∧ ∃ J, f = ov J [(0, bv), (4, v22), (8, .slice (some ⟨b8, 0, none⟩) (sealed l).length cap8), (9, x55), (10, .bool true), (11, .int .i64 (k : Int))]) 0 ?_ ?_
          · exact ⟨by omega, rfl, k55, ⟨sealed l, rfl, ownsRow_bel ho52 hb55⟩, (ho3.bel hb52).bel hb55, ho55, hs.bel k55, _, ov_mk ⟨rfl, rfl, rfl, rfl, rfl, rfl, trivial⟩⟩
          · rintro k _ _ w4 ⟨hk, rfl, hb4, ⟨m, hm, hom⟩, hos, hox, hs4, J, rfl⟩
            refine WC.seq ?_
            refine WC.seqR rfl ?_
            refine WL.y rfl (Y.move) ?_
            refine WL.y rfl (Y.move) ?_
            refine WL.y rfl (Y.lenV Try.underlying22 rfl _) ?_
            refine WL.y rfl (Y.lss rfl rfl) ?_
            refine WL.nil ?_
            refine WC.condD rfl (fun hlt => ?_) (fun hlt => ?_)
            · have hkl : k < (sealed l).length := by omega
              have hb8w : w.heap.size ≤ b8 := Nat.le_trans hb3.size hb8
              refine WC.skip (thenQ.normal ?_)
              refine WC.seq ?_
              refine WC.block ?_
              refine WC.region rfl ?_
              refine WL.y rfl (Y.move) ?_
              refine WL.y rfl (Y.move) ?_
              refine WL.y rfl (Y.move) ?_
              refine WL.y rfl (Y.move) ?_
              refine WL.y rfl (Y.idxV1 (j := k) Try.underlying22 ti5 rfl rfl (by omega) (by omega) _) ?_
              refine WL.y rfl (Y.load1 Try.underlying5 rfl rfl ((own_cell hom k (by omega)).trans (show _ = some (u8v (m.getD k 0)) by simp [show k < m.length by omega]))) ?_
              refine WL.y rfl (Y.addU8 (b := 1) rfl rfl) ?_
              refine WL.y rfl (Y.idxV1 (j := k) Try.underlying22 ti5 rfl rfl (by omega) (by omega) _) ?_
              refine WL.eex rfl (E.storeOwn (u := u8v (m.getD k 0 + 1)) ti5 rfl rfl rfl hom (by omega)) ?_
              rintro _ w71 ⟨ho71, hg71⟩
              refine WL.nil (inBlockQ.normal (thenQ.normal ?_))
              refine WC.region rfl ?_
              refine WL.y rfl (Y.move) ?_
              refine WL.y rfl (Y.add64 rfl rfl (by omega)) ?_
              refine WL.y rfl (Y.assign) ?_
              refine WL.nil (thenQ.normal ?_)
              rw [← List.map_set] at ho71
              have hb71 : Below w.heap.size w4 w71 := below_of_grown hg71 hb4.size (fun k e => by cases e; omega)
              exact ⟨k + 1, by omega, by omega, rfl, hb4.trans hb71, ⟨_, by simpa using hm, ho71⟩, hos.kept hg71 (.inr fun e => by have := (ho3.lt b8 e); omega), own_grown hox hg71 hb8', (hs.bel (hb4.trans hb71)), _, ov_mk ⟨rfl, rfl, rfl, rfl, rfl, rfl, trivial⟩⟩
            · refine WC.exit (thenQ.exit (thenQ.exit (inBlockQ.hit (thenQ.normal ?_))))
              refine WC.seqR rfl ?_
              refine WL.y rfl (Y.move) ?_
              refine WL.y rfl (Y.move) ?_
              refine WL.y rfl (Y.move) ?_
              refine WL.y rfl (Y.move) ?_
              refine WL.call rfl (C.func go20) (refSeal_ret bv l _ hs4 (by omega)) ?_
              rintro v76 w76 ⟨ho76, hb76⟩
              have k76 := Below.step hb4 hb76
              refine WL.call rfl (C.func go19) ((same_ret v22 v76 (sealed l) (sealed l) _ (hos.bel hb76).bs ho76.bs).yes rfl) ?_
              rintro _ w77 ⟨rfl, hb77⟩
              have k77 := Below.step k76 hb77
              refine WL.y rfl (Y.pickT rfl) ?_
              refine WL.y rfl (Y.move) ?_
              refine WL.y rfl (Y.move) ?_
              refine WL.y rfl (Y.move) ?_
              refine WL.call rfl (C.func go19) ((same_ret x55 bv l l _ ((hox.bel hb76).bel hb77).bs (hs.bel k77)).yes rfl) ?_
              rintro _ w82 ⟨rfl, hb82⟩
              have k82 := Below.step k77 hb82
              refine WL.y rfl (Y.pickT rfl) ?_
              refine WL.y rfl (Y.move) ?_
              refine WL.call rfl (C.func go15) (known_ret _) ?_
              rintro _ w85 ⟨rfl, hb85⟩
              have k85 := Below.step k82 hb85
              refine WL.y rfl (Y.pickT rfl) ?_
              refine WL.y rfl (Y.assign) ?_
              refine WL.nil ?_
              refine WC.ret (endQ.one (.inr rfl) ?_)
              exact ⟨rfl, k85⟩
end Go.Proofs.Ytkopiibdegdfjaa
