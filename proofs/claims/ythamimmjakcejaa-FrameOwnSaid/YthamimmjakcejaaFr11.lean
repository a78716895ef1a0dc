/-
  The law FrameOwn.
-/
import Derived.Test.YthamimmjakcejaaFr10
namespace Go.Proofs.Ythamimmjakcejaa
open Go Go.RowKit Go.Cx
set_option linter.unusedVariables false
open Crc
theorem own_len {w : World} {B : Nat} {v : Value} {m : List UInt8} {n : Nat} (h : Own w B v m) (hn : m.length = n) : w.ownsRow B 5 1 v n (m.map u8v) := by subst hn; exact h
theorem frameOwn_ret (w : World) (n : Int) (hn : (Lit.int .u8 n).wf = true) (bv : Value) (l : List UInt8) (hs : Bs w bv l) (hl : l.length ≤ 140737488351232) :
    Ret Try.prog 9 [.int .u8 n, bv].toArray w fun v w' => v = .bool true ∧ Below w.heap.size w w' := by
  rw [u8_of hn]
  generalize UInt8.ofNat n.toNat = k
  have hsl : (sealed (k :: l)).length = l.length + 5 := by rw [sealed_len, List.length_cons]
  by_cases hk : k = 0
  · subst hk
    refine Ret.of (n := 106) (rs := #[.tmp 4]) Try.func9 rfl rfl rfl (by simp) ?_
    refine WC.seqR rfl ?_
    refine WL.y rfl (Y.assign) ?_
    refine WL.nil ?_
    refine WC.seq ?_
    refine WC.seqR rfl ?_
    refine WL.y rfl (Y.move) ?_
    refine WL.y rfl (Y.dT (Y.eqi rfl rfl) (by simp)) ?_
    refine WL.nil ?_
    refine WC.condT (rfl) ?_
    refine WC.seqR rfl ?_
    refine WL.call rfl (C.func go14) (known_ret _) ?_
    rintro _ w19 ⟨rfl, hb19⟩
    have k19 := hb19
    refine WL.y rfl (Y.assign) ?_
    refine WL.nil ?_
    refine WC.ret (thenQ.ret (endQ.one (.inr rfl) ?_))
    exact ⟨rfl, k19⟩
  · have hk' := u8_ne hk
    have hop := openOf_frame hk l
    have hbo := bodyOf_same hk l
    generalize hS : sealed (k :: l) = S at *
    refine Ret.of (n := 106) (rs := #[.tmp 4]) Try.func9 rfl rfl rfl (by simp) ?_
    refine WC.seqR rfl ?_
    refine WL.y rfl (Y.assign) ?_
    refine WL.nil ?_
    refine WC.seq ?_
    refine WC.seqR rfl ?_
    refine WL.y rfl (Y.move) ?_
    refine WL.y rfl (Y.dF (Y.eqi rfl rfl) (by omega)) ?_
    refine WL.nil ?_
    refine WC.condF (rfl) ?_
    refine WC.skip (thenQ.normal ?_)
    refine WC.seqR rfl ?_
    refine WL.y rfl (Y.move) ?_
    refine WL.call rfl (C.func go11) (own_ret bv l _ (hs.bel (Below.refl _ _)) (by omega)) ?_
    rintro v21 w21 ⟨ho21, hb21⟩
    have k21 := hb21
    refine WL.y rfl (Y.assign) ?_
    refine WL.nil ?_
    refine WC.seqR rfl ?_
    refine WL.y rfl (Y.move) ?_
    refine WL.y rfl (Y.move) ?_
    refine WL.call rfl (C.func go10) (frame_is hk _ v21 l ho21.bs (by omega)) ?_
    rintro _ w25 ⟨⟨x25, rfl, ho25⟩, hb25⟩
    have k25 := Below.step k21 hb25
    refine WL.y rfl (Y.move) ?_
    refine WL.y rfl (Y.extract rfl rfl) ?_
    refine WL.y rfl (Y.extract rfl rfl) ?_
    refine WL.y rfl (Y.assign) ?_
    refine WL.y rfl (Y.assign) ?_
    refine WL.nil ?_
    refine WC.seq ?_
    refine WC.seqR rfl ?_
    refine WL.y rfl (Y.assign) ?_
    refine WL.nil ?_
    refine WC.block ?_
    have k25' := k25
    rw [hS] at ho25
    have h21 : w25.ownsRow w.heap.size 5 1 v21 l.length (l.map u8v) := ho21.bel hb25
    have hb21s := hb21.size
    refine WC.loop (fun i => l.length - i) (fun i f ds w' => i ≤ l.length ∧ ds = [] ∧ Below w.heap.size w w' ∧ (∃ m : List UInt8, m.length = l.length ∧ w'.ownsRow w.heap.size 5 1 v21 l.length (m.map u8v)) ∧ Own w' w21.heap.size x25 S ∧ ∃ J, f = ov J [(0, u8v k), (1, bv), (4, .bool false), (5, v21), (6, x25), (7, .int .i64 0), (8, .int .i64 (i : Int))]) 0 ?_ ?_
    · exact ⟨by omega, rfl, k25', ⟨l, rfl, h21⟩, ho25, _, ov_mk ⟨rfl, rfl, rfl, rfl, rfl, rfl, rfl, trivial⟩⟩
    · rintro i _ _ w3 ⟨hi, rfl, hb3, ⟨m, hm, ho3⟩, hf3, J, rfl⟩
      have hs21 := ho21.bs.one
      refine WC.seq ?_
      refine WC.seqR rfl ?_
      refine WL.y rfl (Y.move) ?_
      refine WL.y rfl (Y.move) ?_
      refine WL.y rfl (Y.lenSl Try.underlying22 ((ownsRow_sl ho3)) _) ?_
      refine WL.y rfl (Y.lss rfl rfl) ?_
      refine WL.nil ?_
      refine WC.condD rfl (fun hlt => ?_) (fun hlt => ?_)
      · have hil : i < l.length := by omega
        obtain ⟨b, cap, rfl, hbl, hbh⟩ := own_form ho3 (by omega)
        have hb21l : b < w21.heap.size := (ho21.lt b rfl).2
        refine WC.skip (thenQ.normal ?_)
        refine WC.seq ?_
        refine WC.block ?_
        refine WC.region rfl ?_
        refine WL.y rfl (Y.move) ?_
        refine WL.y rfl (Y.move) ?_
        refine WL.y rfl (Y.move) ?_
        refine WL.y rfl (Y.move) ?_
        refine WL.y rfl (Y.idxV1 (j := i) Try.underlying22 ti5 rfl rfl rfl (by omega) _) ?_
        refine WL.y rfl (Y.load1 Try.underlying5 rfl rfl ((own_cell ho3 i hil).trans (show _ = some (u8v (m.getD i 0)) by simp [show i < m.length by omega]))) ?_
        refine WL.y rfl (Y.addU8 (b := 1) rfl rfl) ?_
        refine WL.y rfl (Y.idxV1 (j := i) Try.underlying22 ti5 rfl rfl rfl (by omega) _) ?_
        refine WL.eex rfl (E.storeOwn (u := u8v (m.getD i 0 + 1)) ti5 rfl rfl rfl ho3 hil) ?_
        rintro _ w41 ⟨ho41, hg41⟩
        refine WL.nil (inBlockQ.normal (thenQ.normal ?_))
        refine WC.region rfl ?_
        refine WL.y rfl (Y.move) ?_
        refine WL.y rfl (Y.add64 rfl rfl (by omega)) ?_
        refine WL.y rfl (Y.assign) ?_
        refine WL.nil (thenQ.normal ?_)
        rw [← List.map_set] at ho41
        exact ⟨i + 1, by omega, by omega, rfl, hb3.trans (below_of_grown hg41 hb3.size (fun k e => by cases e; exact hbl)), ⟨_, by simpa using hm, ho41⟩, own_grown hf3 hg41 hb21l, _, ov_mk ⟨rfl, rfl, rfl, rfl, rfl, rfl, rfl, trivial⟩⟩
      · refine WC.exit (thenQ.exit (thenQ.exit (inBlockQ.hit (thenQ.normal ?_))))
        refine WC.seqR rfl ?_
        refine WL.y rfl (Y.move) ?_
        refine WL.call rfl (C.func go11) (own_ret x25 S _ hf3.bs (by omega)) ?_
        rintro v43 w43 ⟨ho43, hb43⟩
        have k43 := Below.step hb3 hb43
        refine WL.y rfl (Y.assign) ?_
        refine WL.nil ?_
        refine WC.seqR rfl ?_
        refine WL.y rfl (Y.move) ?_
        refine WL.call rfl (C.func go16) (open_is _ v43 S ho43.bs (by omega) hop) ?_
        rintro _ w46 ⟨⟨x46, rfl, h46, ho46⟩, hb46⟩
        have k46 := Below.step k43 hb46
        refine WL.y rfl (Y.move) ?_
        refine WL.y rfl (Y.extract rfl rfl) ?_
        refine WL.y rfl (Y.extract rfl rfl) ?_
        refine WL.y rfl (Y.extract rfl rfl) ?_
        refine WL.y rfl (Y.assign) ?_
        refine WL.y rfl (Y.assign) ?_
        refine WL.y rfl (Y.assign) ?_
        refine WL.nil ?_
        refine WC.seqR rfl ?_
        refine WL.y rfl (Y.move) ?_
        refine WL.y rfl (Y.move) ?_
        refine WL.call rfl (C.func go18) (body_is _ v43 S (ho43.bel hb46).bs (by omega) hbo) ?_
        rintro _ w53 ⟨⟨x53, rfl, ho53⟩, hb53⟩
        have k53 := Below.step k46 hb53
        refine WL.y rfl (Y.move) ?_
        refine WL.y rfl (Y.extract rfl rfl) ?_
        refine WL.y rfl (Y.extract rfl rfl) ?_
        refine WL.y rfl (Y.assign) ?_
        refine WL.y rfl (Y.assign) ?_
        refine WL.nil ?_
        refine WC.seq ?_
        refine WC.seqR rfl ?_
        refine WL.y rfl (Y.assign) ?_
        refine WL.nil ?_
        refine WC.block ?_
        have k53' := k53
        have hb43s := hb43.size
        have hb46s := hb46.size
        have hb3s := hb3.size
        have h43 : w53.ownsRow w3.heap.size 5 1 v43 S.length (S.map u8v) := (ho43.bel hb46).bel hb53
        have hy53 : OB w53 w43.heap.size x46 l := ho46.bel hb53
        refine WC.loop (fun i => S.length - i) (fun i f ds w' => i ≤ S.length ∧ ds = [] ∧ Below w.heap.size w w' ∧ (∃ m : List UInt8, m.length = S.length ∧ w'.ownsRow w3.heap.size 5 1 v43 S.length (m.map u8v)) ∧ OB w' w43.heap.size x46 l ∧ OB w' w46.heap.size x53 l ∧ ∃ J, f = ov J [(0, u8v k), (1, bv), (4, .bool false), (7, .int .i64 0), (9, v43), (11, x46), (12, .int .i64 0), (13, x53), (14, .int .i64 0), (15, .int .i64 (i : Int))]) 0 ?_ ?_
        · exact ⟨by omega, rfl, k53', ⟨S, rfl, h43⟩, hy53, ho53, _, ov_mk ⟨rfl, rfl, rfl, rfl, rfl, rfl, rfl, rfl, rfl, rfl, trivial⟩⟩
        · rintro i _ _ w4 ⟨hi, rfl, hb4, ⟨m, hm, ho4⟩, hy4, hz4, J, rfl⟩
          refine WC.seq ?_
          refine WC.seqR rfl ?_
          refine WL.y rfl (Y.move) ?_
          refine WL.y rfl (Y.move) ?_
          refine WL.y rfl (Y.lenSl Try.underlying22 ((ownsRow_sl ho4)) _) ?_
          refine WL.y rfl (Y.lss rfl rfl) ?_
          refine WL.nil ?_
          refine WC.condD rfl (fun hlt => ?_) (fun hlt => ?_)
          · have hil : i < S.length := by omega
            obtain ⟨b, cap, rfl, hbl, hbh⟩ := own_form ho4 (by omega)
            have hb43l : b < w43.heap.size := (ho43.lt b rfl).2
            refine WC.skip (thenQ.normal ?_)
            refine WC.seq ?_
            refine WC.block ?_
            refine WC.region rfl ?_
            refine WL.y rfl (Y.move) ?_
            refine WL.y rfl (Y.move) ?_
            refine WL.y rfl (Y.move) ?_
            refine WL.y rfl (Y.move) ?_
            refine WL.y rfl (Y.idxV1 (j := i) Try.underlying22 ti5 rfl rfl rfl (by omega) _) ?_
            refine WL.y rfl (Y.load1 Try.underlying5 rfl rfl ((own_cell ho4 i hil).trans (show _ = some (u8v (m.getD i 0)) by simp [show i < m.length by omega]))) ?_
            refine WL.y rfl (Y.addU8 (b := 1) rfl rfl) ?_
            refine WL.y rfl (Y.idxV1 (j := i) Try.underlying22 ti5 rfl rfl rfl (by omega) _) ?_
            refine WL.eex rfl (E.storeOwn (u := u8v (m.getD i 0 + 1)) ti5 rfl rfl rfl ho4 hil) ?_
            rintro _ w69 ⟨ho69, hg69⟩
            refine WL.nil (inBlockQ.normal (thenQ.normal ?_))
            refine WC.region rfl ?_
            refine WL.y rfl (Y.move) ?_
            refine WL.y rfl (Y.add64 rfl rfl (by omega)) ?_
            refine WL.y rfl (Y.assign) ?_
            refine WL.nil (thenQ.normal ?_)
            rw [← List.map_set] at ho69
            exact ⟨i + 1, by omega, by omega, rfl, hb4.trans (below_of_grown hg69 hb4.size (fun k e => by cases e; omega)), ⟨_, by simpa using hm, ho69⟩, OB.grownLt hy4 hg69 hb43l, OB.grownLt hz4 hg69 (by omega), _, ov_mk ⟨rfl, rfl, rfl, rfl, rfl, rfl, rfl, rfl, rfl, rfl, trivial⟩⟩
          · refine WC.exit (thenQ.exit (thenQ.exit (inBlockQ.hit (thenQ.normal ?_))))
            refine WC.seq ?_
            refine WC.seqR rfl ?_
            refine WL.y rfl (Y.move) ?_
            refine WL.y rfl (Y.move) ?_
            refine WL.call rfl (C.func go13) ((same_ret x46 bv l l _ hy4.bs (hs.bel hb4)).yes rfl) ?_
            rintro _ w72 ⟨rfl, hb72⟩
            have k72 := Below.step hb4 hb72
            refine WL.y rfl (Y.not rfl) ?_
            refine WL.nil ?_
            refine WC.condF (rfl) ?_
            refine WC.skip (thenQ.normal ?_)
            refine WC.seq ?_
            refine WC.seqR rfl ?_
            refine WL.y rfl (Y.assign) ?_
            refine WL.nil ?_
            refine WC.block ?_
            have k72' := k72
            have hy72 : OB w72 w43.heap.size x46 l := hy4.bel hb72
            have hz72 : OB w72 w46.heap.size x53 l := hz4.bel hb72
            refine WC.loop (fun i => l.length - i) (fun i f ds w' => i ≤ l.length ∧ ds = [] ∧ Below w.heap.size w w' ∧ (∃ m : List UInt8, m.length = l.length ∧ OB w' w43.heap.size x46 m) ∧ OB w' w46.heap.size x53 l ∧ ∃ J, f = ov J [(0, u8v k), (1, bv), (4, .bool false), (7, .int .i64 0), (11, x46), (12, .int .i64 0), (13, x53), (14, .int .i64 0), (16, .int .i64 (i : Int))]) 0 ?_ ?_
            · exact ⟨by omega, rfl, k72', ⟨l, rfl, hy72⟩, hz72, _, ov_mk ⟨rfl, rfl, rfl, rfl, rfl, rfl, rfl, rfl, rfl, trivial⟩⟩
            · rintro i _ _ w5 ⟨hi, rfl, hb5, ⟨m, hm, hy5⟩, hz5, J, rfl⟩
              refine WC.seq ?_
              refine WC.seqR rfl ?_
              refine WL.y rfl (Y.move) ?_
              refine WL.y rfl (Y.move) ?_
              refine WL.y rfl (Y.lenSl Try.underlying22 (hy5.bs) _) ?_
              refine WL.y rfl (Y.lss rfl rfl) ?_
              refine WL.nil ?_
              rw [hm]
              refine WC.condD rfl (fun hlt => ?_) (fun hlt => ?_)
              · have hil : i < l.length := by omega
                have hmm : (m.map u8v).length = m.length := List.length_map _
                obtain ⟨b0, o0, c0, e0, -, hb46l⟩ := OwnS.form ho46 (by simp; omega)
                obtain ⟨b, o, cap, e1, hbl, hbh⟩ := OwnS.form hy5 (by omega)
                have e2 := e0.symm.trans e1
                simp only [Value.slice.injEq, Option.some.injEq, Addr.mk.injEq] at e2
                obtain ⟨⟨rfl, -, -⟩, -, -⟩ := e2
                subst e1
                refine WC.skip (thenQ.normal ?_)
                refine WC.seq ?_
                refine WC.block ?_
                refine WC.region rfl ?_
                refine WL.y rfl (Y.move) ?_
                refine WL.y rfl (Y.move) ?_
                refine WL.y rfl (Y.move) ?_
                refine WL.y rfl (Y.move) ?_
                refine WL.y rfl (Y.idxO (j := i) (k := o + i) Try.underlying22 ti5 rfl rfl rfl (by omega) rfl _) ?_
                refine WL.y rfl (Y.load1 Try.underlying5 rfl rfl ((OwnS.cell hy5 i (by omega)).trans (show _ = some (u8v (m.getD i 0)) by simp [show i < m.length by omega]))) ?_
                refine WL.y rfl (Y.addU8 (b := 1) rfl rfl) ?_
                refine WL.y rfl (Y.idxO (j := i) (k := o + i) Try.underlying22 ti5 rfl rfl rfl (by omega) rfl _) ?_
                refine WL.eex rfl (E.storeS (j := i) (u := u8v (m.getD i 0 + 1)) ti5 rfl rfl rfl hy5 (by omega) rfl) ?_
                rintro _ w87 ⟨ho87, hg87⟩
                refine WL.nil (inBlockQ.normal (thenQ.normal ?_))
                refine WC.region rfl ?_
                refine WL.y rfl (Y.move) ?_
                refine WL.y rfl (Y.add64 rfl rfl (by omega)) ?_
                refine WL.y rfl (Y.assign) ?_
                refine WL.nil (thenQ.normal ?_)
                rw [← List.map_set] at ho87
                exact ⟨i + 1, by omega, by omega, rfl, hb5.trans (below_of_grown hg87 hb5.size (fun k e => by cases e; omega)), ⟨_, by simpa using hm, ho87⟩, OB.grownLt hz5 hg87 hb46l, _, ov_mk ⟨rfl, rfl, rfl, rfl, rfl, rfl, rfl, rfl, rfl, trivial⟩⟩
              · refine WC.exit (thenQ.exit (thenQ.exit (inBlockQ.hit (thenQ.normal ?_))))
                refine WC.seqR rfl ?_
                refine WL.y rfl (Y.move) ?_
                refine WL.y rfl (Y.dT (Y.eqi rfl rfl) (by omega)) ?_
                refine WL.y rfl (Y.move) ?_
                refine WL.y rfl (Y.move) ?_
                refine WL.y rfl (Y.dT (Y.eqi rfl rfl) (by omega)) ?_
                refine WL.y rfl (Y.pickT rfl) ?_
                refine WL.y rfl (Y.move) ?_
                refine WL.y rfl (Y.move) ?_
                refine WL.y rfl (Y.dT (Y.eqi rfl rfl) (by omega)) ?_
                refine WL.y rfl (Y.pickT rfl) ?_
                refine WL.y rfl (Y.move) ?_
                refine WL.y rfl (Y.move) ?_
                refine WL.y rfl (Y.move) ?_
                refine WL.call rfl (C.func go13) ((same_ret x53 bv l l _ hz5.bs (hs.bel hb5)).yes rfl) ?_
                rintro _ w101 ⟨rfl, hb101⟩
                have k101 := Below.step hb5 hb101
                refine WL.y rfl (Y.pickT rfl) ?_
                refine WL.y rfl (Y.move) ?_
                refine WL.call rfl (C.func go14) (known_ret _) ?_
                rintro _ w104 ⟨rfl, hb104⟩
                have k104 := Below.step k101 hb104
                refine WL.y rfl (Y.pickT rfl) ?_
                refine WL.y rfl (Y.assign) ?_
                refine WL.nil ?_
                refine WC.ret (endQ.one (.inr rfl) ?_)
                exact ⟨rfl, k104⟩
end Go.Proofs.Ythamimmjakcejaa
