/-
  value, ref02: Member: walks.
-/
import Derived.Test.YthcppegkpkgnpaaDoorVal19
namespace Go.Proofs.YthcppegkpkgnpaaDoor
open Go Go.RowKit Go.Cx
set_option linter.unusedVariables false
set_option maxHeartbeats 8000000
def memF (key : List UInt8) : List (List UInt8) → List V → V × Int
  | k :: ks, x :: xs => if k = key then (x, 0) else memF key ks xs
  | _, _ => (V.nil, 12)
/-- the value of a key, and an error -/
def memV (v : V) (key : List UInt8) : V × Int := if v.k = 6 then memF key v.ks v.vs else (V.nil, 9)
theorem memF_step (key : List UInt8) (ks : List (List UInt8)) (l : List V) (j : Nat) (h : j < l.length) (hk : j < ks.length) : memF key (ks.drop j) (l.drop j) = if ks[j] = key then (l[j], 0) else memF key (ks.drop (j + 1)) (l.drop (j + 1)) := by
  rw [List.drop_eq_getElem_cons h, List.drop_eq_getElem_cons hk, memF]
theorem memF_end (key : List UInt8) (ks : List (List UInt8)) (l : List V) : memF key ks (l.drop l.length) = (V.nil, 12) := by
  rw [List.drop_length]
  cases ks <;> rfl
theorem nil_one : ∀ u ∈ vcell V.nil (.slice none 0 0) (.slice none 0 0), One u = true := one_vcell rfl rfl
theorem member_ret (v : V) (key : List UInt8) (w : World) (c : List Value) (hv : VAt w v c) : Ret Tryd.prog 16 [.agg c.toArray, strv key].toArray w fun r w' => ∃ c', r = .tuple #[.agg c'.toArray, .int .i64 (memV v key).2] ∧ VW w' (fun b => w.heap.size ≤ b) (memV v key).1 c' ∧ Below w.heap.size w w' := by
  have hcl := hv.len
  cases hv with
  | @mk _ lv ov lc oc ok h1 h2 hs h3 h4 ho =>
  have hoo := ok.o
  have okk := ok.ks
  refine Ret.of (n := 28) (rs := #[.cell 4 26, .tmp 5]) Tryd.func16 rfl rfl rfl (by simp) ?_
  refine WC.seqR rfl ?_
  refine WL.eex rfl (E.boxX) ?_
  rintro _ w2 ⟨rfl, hB2, hb2⟩
  refine WL.eex rfl (E.allocX ti26) ?_
  rintro _ w4 ⟨rfl, hB4, hb4⟩
  refine WL.y rfl (Y.assign) ?_
  refine WL.nil ?_
  refine WC.seq ?_
  have hx : Blk w4 w.heap.size 26 (vcell v lv ov) := (show Blk _ _ _ (vcell v lv ov) from hB2).bel hb4
  have hy : Blk w4 w2.heap.size 26 (vcell V.nil (.slice none 0 0) (.slice none 0 0)) := hB4
  have l2 := (show Blk w2 _ _ _ from hB2).lt
  have l4 := hy.lt
  have k4 : Below w.heap.size w w4 := Below.step hb2 hb4
  clear hB2 hB4
  by_cases k6 : v.k = 6
  · have hm : memV v key = memF key v.ks v.vs := if_pos k6
    rw [hm]
    refine WC.seqR rfl ?_
    refine WL.y rfl (Y.fieldAddr fi26f0 ti23 (by decide) rfl (rfl) _) ?_
    refine WL.y rfl (Y.load1 Tryd.underlying23 rfl rfl (hx.cell 0)) ?_
    refine WL.y rfl (Y.dF (Y.nei rfl rfl) (by omega)) ?_
    refine WL.nil ?_
    refine WC.condF (rfl) ?_
    refine WC.skip (thenQ.normal ?_)
    refine WC.seq ?_
    refine WC.seqR rfl ?_
    refine WL.y rfl (Y.fieldAddr fi26f5 ti22 (by decide) rfl (rfl) _) ?_
    refine WL.y rfl (Y.load1 Tryd.underlying22 rfl rfl (hx.cell 5)) ?_
    refine WL.y rfl (Y.lenSl Tryd.underlying22 (ho.bel k4) _) ?_
    refine WL.y rfl (Y.move) ?_
    refine WL.nil ?_
    refine WC.block ?_
    refine WC.loop (fun j => v.vs.length - j) (fun j f ds w' => j ≤ v.vs.length ∧ ds = [] ∧ Below w.heap.size w w' ∧ w4.heap.size ≤ w'.heap.size ∧ Blk w' w2.heap.size 26 (vcell V.nil (.slice none 0 0) (.slice none 0 0)) ∧ memF key v.ks v.vs = memF key (v.ks.drop j) (v.vs.drop j) ∧ ∃ J, f = Go.Cx.ov J [(1, strv key), (4, .pointer (some ⟨w2.heap.size, 0, none⟩)), (13, ov), (14, .int .i64 (v.vs.length : Int)), (15, .int .i64 (j : Int))]) 0 ?_ ?_
    · exact ⟨by omega, rfl, k4, Nat.le_refl _, hy, rfl, _, ov_mk ⟨rfl, rfl, rfl, rfl, rfl, trivial⟩⟩
    · clear hx hy
      rintro j _ _ wL ⟨hj, rfl, kL, sL, hy, ha, J, rfl⟩
      refine WC.seqR rfl ?_
      refine WL.y rfl (Y.lss rfl rfl) ?_
      refine WL.nil ?_
      refine WC.seq ?_
      refine WC.condD rfl (fun h0 => ?_) (fun h0 => ?_)
      · have hjl : j < v.vs.length := by omega
        have hjc : j < oc.length := by omega
        have hjk : j < v.ks.length := by omega
        have hst := memF_step key v.ks v.vs j hjl hjk
        have hml : (strv v.ks[j] :: oc[j].c).length = 7 := by rw [List.length_cons, oc[j].h]
        have hmo : ∀ u ∈ strv v.ks[j] :: oc[j].c, One u = true := one_strv (h4 j hjl hjc).one
        refine WC.skip (thenQ.normal ?_)
        refine WC.seq ?_
        refine WC.block ?_
        refine WC.seqR rfl ?_
        refine WL.yex rfl (Y.idx Tryd.underlying22 ti38 (by decide) (ho.bel kL) rfl (by omega) (by omega)) ?_
        rintro _ ⟨b17, o17, rfl, hc17⟩
        refine WL.y rfl (Y.loadK Tryd.underlying38 rfl ti38 (hml) rfl (mem_cells hjk hjc hc17)) ?_
        refine WL.eex rfl (E.allocX ti38) ?_
        rintro _ w7 ⟨rfl, hB7, hb7⟩
        refine WL.eex rfl (E.storeAllK (us := strv v.ks[j] :: oc[j].c) ti38 hml rfl rfl hmo hB7 rfl) ?_
        rintro _ w7s ⟨hB7', hg7⟩
        have b7 : Below wL.heap.size wL w7s := Below.stepG hb7 hg7 (Nat.le_refl _)
        have hv7 := ((h4 j hjl hjc).bel kL).bel b7
        have hy7 := hy.bel b7
        refine WL.nil ?_
        refine WC.seqR rfl ?_
        refine WL.y rfl (Y.fieldAddr fi38f0 ti9 (by decide) rfl (rfl) _) ?_
        refine WL.y rfl (Y.load1 Tryd.underlying9 rfl rfl (hB7'.cell 0)) ?_
        refine WL.y rfl (Y.move) ?_
        refine WL.y rfl (Y.eqS rfl rfl) ?_
        refine WL.nil ?_
        refine WC.condD rfl (fun e0 => ?_) (fun e0 => ?_)
        · rw [if_pos e0] at hst
          have he := ha.trans hst
          refine WC.seqR rfl ?_
          refine WL.y rfl (Y.fieldAddr fi38f1 ti26 (by decide) rfl (rfl) _) ?_
          refine WL.y rfl (Y.loadK Tryd.underlying26 rfl ti26 (oc[j].h) rfl (Cells.tl hB7'.cells)) ?_
          refine WL.call rfl (C.func go29) (copy_ret _ _ _ hv7) ?_
          rintro _ w25 ⟨c25, rfl, h25, hb25⟩
          refine WL.eex rfl (E.storeAllK (us := c25) ti26 h25.len rfl rfl h25.one (hy7.bel hb25) rfl) ?_
          rintro _ w26 ⟨hB26, hg26⟩
          refine WL.y rfl (Y.assign) ?_
          refine WL.nil ?_
          refine WC.ret (inBlockQ.ret (thenQ.ret (thenQ.ret (inBlockQ.ret (thenQ.ret ?_)))))
          have s7 := b7.size
          have s25 := hb25.size
          have k26 : Below w.heap.size w w26 := Below.stepG (Below.step (Below.step kL b7) hb25) hg26 (by have := hb2.size; omega)
          have A26 := VW.kept (Kept.of_grown (M := fun b => b = w2.heap.size) hg26 rfl) (fun b h1 h2 => by omega) h25
          rw [he]
          exact endQ.cell2 Tryd.underlying26 rfl (by rw [h25.len]; exact ti26) (.inr rfl) rfl hB26.cells ⟨c25, rfl, A26.mono (fun b _ h => by have := hb2.size; omega), k26⟩
        · rw [if_neg e0] at hst
          refine WC.skip (inBlockQ.normal (thenQ.normal ?_))
          refine WC.region rfl ?_
          refine WL.y rfl (Y.add64 rfl rfl (by omega)) ?_
          refine WL.y rfl (Y.move) ?_
          refine WL.nil (thenQ.normal ?_)
          have s7 := b7.size
          exact ⟨j + 1, by omega, by omega, rfl, Below.step kL b7, by omega, hy7, ha.trans hst, _, ov_mk ⟨rfl, rfl, rfl, rfl, rfl, trivial⟩⟩
      · have hje : j = v.vs.length := by omega
        have hee := memF_end key (v.ks.drop j) v.vs
        subst hje
        have he := ha.trans hee
        refine WC.exit (thenQ.exit (thenQ.exit (inBlockQ.hit (thenQ.normal ?_))))
        refine WC.seqR rfl ?_
        refine WL.y rfl (Y.build (cells := (vcell V.nil (.slice none 0 0) (.slice none 0 0)).toArray) (by kernel_rfl) _) ?_
        refine WL.eex rfl (E.storeAllK (us := vcell V.nil (.slice none 0 0) (.slice none 0 0)) ti26 rfl rfl rfl nil_one hy rfl) ?_
        rintro _ w26 ⟨hB26, hg26⟩
        refine WL.y rfl (Y.assign) ?_
        refine WL.nil ?_
        refine WC.ret ?_
        have k26 : Below w.heap.size w w26 := Below.stepG kL hg26 (by have := hb2.size; omega)
        rw [he]
        exact endQ.cell2 Tryd.underlying26 rfl ti26 (.inr rfl) rfl hB26.cells ⟨_, rfl, VW.nil, k26⟩
  · have hm : memV v key = (V.nil, 9) := if_neg k6
    rw [hm]
    skip
    refine WC.seqR rfl ?_
    refine WL.y rfl (Y.fieldAddr fi26f0 ti23 (by decide) rfl (rfl) _) ?_
    refine WL.y rfl (Y.load1 Tryd.underlying23 rfl rfl (hx.cell 0)) ?_
    refine WL.y rfl (Y.dT (Y.nei rfl rfl) (by omega)) ?_
    refine WL.nil ?_
    refine WC.condT (rfl) ?_
    refine WC.seqR rfl ?_
    refine WL.y rfl (Y.build (cells := (vcell V.nil (.slice none 0 0) (.slice none 0 0)).toArray) (by kernel_rfl) _) ?_
    refine WL.eex rfl (E.storeAllK (us := vcell V.nil (.slice none 0 0) (.slice none 0 0)) ti26 rfl rfl rfl nil_one hy rfl) ?_
    rintro _ w26 ⟨hB26, hg26⟩
    refine WL.y rfl (Y.assign) ?_
    refine WL.nil ?_
    refine WC.ret (thenQ.ret ?_)
    have k26 : Below w.heap.size w w26 := Below.stepG k4 hg26 (by have := hb2.size; omega)
    exact endQ.cell2 Tryd.underlying26 rfl ti26 (.inr rfl) rfl hB26.cells ⟨_, rfl, VW.nil, k26⟩
theorem rmember_ret (v : V) (key : List UInt8) (w : World) (c : List Value) (hv : VAt w v c) : Ret Tryd.prog 30 [.agg c.toArray, strv key].toArray w fun r w' => ∃ c', r = .tuple #[.agg c'.toArray, .int .i64 (memV v key).2] ∧ VAt w' (memV v key).1 c' ∧ Below w.heap.size w w' := by
  have hcl := hv.len
  cases hv with
  | @mk _ lv ov lc oc ok h1 h2 hs h3 h4 ho =>
  have hoo := ok.o
  have okk := ok.ks
  refine Ret.of (n := 33) (rs := #[.cell 4 26, .tmp 5]) Tryd.func30 rfl rfl rfl (by simp) ?_
  refine WC.seqR rfl ?_
  refine WL.eex rfl (E.boxX) ?_
  rintro _ w2 ⟨rfl, hB2, hb2⟩
  refine WL.eex rfl (E.allocX ti26) ?_
  rintro _ w4 ⟨rfl, hB4, hb4⟩
  refine WL.y rfl (Y.assign) ?_
  refine WL.nil ?_
  refine WC.seq ?_
  have hx : Blk w4 w.heap.size 26 (vcell v lv ov) := (show Blk _ _ _ (vcell v lv ov) from hB2).bel hb4
  have hy : Blk w4 w2.heap.size 26 (vcell V.nil (.slice none 0 0) (.slice none 0 0)) := hB4
  have l2 := (show Blk w2 _ _ _ from hB2).lt
  have l4 := hy.lt
  have k4 : Below w.heap.size w w4 := Below.step hb2 hb4
  clear hB2 hB4
  by_cases k6 : v.k = 6
  · have hm : memV v key = memF key v.ks v.vs := if_pos k6
    rw [hm]
    refine WC.seqR rfl ?_
    refine WL.y rfl (Y.fieldAddr fi26f0 ti23 (by decide) rfl (rfl) _) ?_
    refine WL.y rfl (Y.load1 Tryd.underlying23 rfl rfl (hx.cell 0)) ?_
    refine WL.y rfl (Y.dF (Y.nei rfl rfl) (by omega)) ?_
    refine WL.nil ?_
    refine WC.condF (rfl) ?_
    refine WC.skip (thenQ.normal ?_)
    refine WC.seq ?_
    refine WC.seqR rfl ?_
    refine WL.y rfl (Y.assign) ?_
    refine WL.nil ?_
    refine WC.block ?_
    refine WC.loop (fun j => v.vs.length - j) (fun j f ds w' => j ≤ v.vs.length ∧ ds = [] ∧ w' = w4 ∧ memF key v.ks v.vs = memF key (v.ks.drop j) (v.vs.drop j) ∧ ∃ J, f = Go.Cx.ov J [(1, strv key), (2, .pointer (some ⟨w.heap.size, 0, none⟩)), (4, .pointer (some ⟨w2.heap.size, 0, none⟩)), (6, .int .i64 (j : Int))]) 0 ?_ ?_
    · exact ⟨by omega, rfl, rfl, rfl, _, ov_mk ⟨rfl, rfl, rfl, rfl, trivial⟩⟩
    · rintro j _ _ wL ⟨hj, rfl, rfl, ha, J, rfl⟩
      refine WC.seq ?_
      refine WC.seqR rfl ?_
      refine WL.y rfl (Y.move) ?_
      refine WL.y rfl (Y.fieldAddr fi26f5 ti22 (by decide) rfl (rfl) _) ?_
      refine WL.y rfl (Y.load1 Tryd.underlying22 rfl rfl (hx.cell 5)) ?_
      refine WL.y rfl (Y.lenSl Tryd.underlying22 (ho.bel k4) _) ?_
      refine WL.y rfl (Y.lss rfl rfl) ?_
      refine WL.nil ?_
      refine WC.condD rfl (fun h0 => ?_) (fun h0 => ?_)
      · have hjl : j < v.vs.length := by omega
        have hjc : j < oc.length := by omega
        have hjk : j < v.ks.length := by omega
        have hst := memF_step key v.ks v.vs j hjl hjk
        refine WC.skip (thenQ.normal ?_)
        refine WC.seq ?_
        refine WC.block ?_
        refine WC.seqR rfl ?_
        refine WL.y rfl (Y.fieldAddr fi26f5 ti22 (by decide) rfl (rfl) _) ?_
        refine WL.y rfl (Y.load1 Tryd.underlying22 rfl rfl (hx.cell 5)) ?_
        refine WL.y rfl (Y.move) ?_
        refine WL.yex rfl (Y.idx Tryd.underlying22 ti38 (by decide) (ho.bel k4) rfl (by omega) (by omega)) ?_
        rintro _ ⟨b21, o21, rfl, hc21⟩
        refine WL.y rfl (Y.fieldAddr fi38f0 ti9 (by decide) rfl (rfl) _) ?_
        refine WL.y rfl (Y.load1 Tryd.underlying9 rfl rfl (Cells.hd (mem_cells hjk hjc hc21))) ?_
        refine WL.y rfl (Y.move) ?_
        refine WL.y rfl (Y.eqS rfl rfl) ?_
        refine WL.nil ?_
        refine WC.condD rfl (fun e0 => ?_) (fun e0 => ?_)
        · rw [if_pos e0] at hst
          have he := ha.trans hst
          have hvj := (h4 j hjl hjc).bel k4
          refine WC.seqR rfl ?_
          refine WL.y rfl (Y.fieldAddr fi26f5 ti22 (by decide) rfl (rfl) _) ?_
          refine WL.y rfl (Y.load1 Tryd.underlying22 rfl rfl (hx.cell 5)) ?_
          refine WL.y rfl (Y.move) ?_
          refine WL.yex rfl (Y.idx Tryd.underlying22 ti38 (by decide) (ho.bel k4) rfl (by omega) (by omega)) ?_
          rintro _ ⟨b29, o29, rfl, hc29⟩
          refine WL.y rfl (Y.fieldAddr fi38f1 ti26 (by decide) rfl (rfl) _) ?_
          refine WL.y rfl (Y.loadK Tryd.underlying26 rfl ti26 (oc[j].h) rfl (Cells.tl (mem_cells hjk hjc hc29))) ?_
          refine WL.eex rfl (E.storeAllK (us := oc[j].c) ti26 hvj.len rfl rfl hvj.one hy rfl) ?_
          rintro _ w26 ⟨hB26, hg26⟩
          refine WL.y rfl (Y.assign) ?_
          refine WL.nil ?_
          refine WC.ret (inBlockQ.ret (thenQ.ret (thenQ.ret (inBlockQ.ret (thenQ.ret ?_)))))
          have k26 : Below w.heap.size w w26 := Below.stepG k4 hg26 (by have := hb2.size; omega)
          rw [he]
          exact endQ.cell2 Tryd.underlying26 rfl (by rw [hvj.len]; exact ti26) (.inr rfl) rfl hB26.cells ⟨_, rfl, (h4 j hjl hjc).bel k26, k26⟩
        · rw [if_neg e0] at hst
          refine WC.skip (inBlockQ.normal (thenQ.normal ?_))
          refine WC.region rfl ?_
          refine WL.y rfl (Y.move) ?_
          refine WL.y rfl (Y.add64 rfl rfl (by omega)) ?_
          refine WL.y rfl (Y.assign) ?_
          refine WL.nil (thenQ.normal ?_)
          exact ⟨j + 1, by omega, by omega, rfl, rfl, ha.trans hst, _, ov_mk ⟨rfl, rfl, rfl, rfl, trivial⟩⟩
      · have hje : j = v.vs.length := by omega
        have hee := memF_end key (v.ks.drop j) v.vs
        subst hje
        have he := ha.trans hee
        refine WC.exit (thenQ.exit (thenQ.exit (inBlockQ.hit (thenQ.normal ?_))))
        refine WC.seqR rfl ?_
        refine WL.y rfl (Y.build (cells := (vcell V.nil (.slice none 0 0) (.slice none 0 0)).toArray) (by kernel_rfl) _) ?_
        refine WL.eex rfl (E.storeAllK (us := vcell V.nil (.slice none 0 0) (.slice none 0 0)) ti26 rfl rfl rfl nil_one hy rfl) ?_
        rintro _ w26 ⟨hB26, hg26⟩
        refine WL.y rfl (Y.assign) ?_
        refine WL.nil ?_
        refine WC.ret ?_
        have k26 : Below w.heap.size w w26 := Below.stepG k4 hg26 (by have := hb2.size; omega)
        rw [he]
        exact endQ.cell2 Tryd.underlying26 rfl ti26 (.inr rfl) rfl hB26.cells ⟨_, rfl, (VW.nil (M := fun _ => True)).at, k26⟩
  · have hm : memV v key = (V.nil, 9) := if_neg k6
    rw [hm]
    skip
    refine WC.seqR rfl ?_
    refine WL.y rfl (Y.fieldAddr fi26f0 ti23 (by decide) rfl (rfl) _) ?_
    refine WL.y rfl (Y.load1 Tryd.underlying23 rfl rfl (hx.cell 0)) ?_
    refine WL.y rfl (Y.dT (Y.nei rfl rfl) (by omega)) ?_
    refine WL.nil ?_
    refine WC.condT (rfl) ?_
    refine WC.seqR rfl ?_
    refine WL.y rfl (Y.build (cells := (vcell V.nil (.slice none 0 0) (.slice none 0 0)).toArray) (by kernel_rfl) _) ?_
    refine WL.eex rfl (E.storeAllK (us := vcell V.nil (.slice none 0 0) (.slice none 0 0)) ti26 rfl rfl rfl nil_one hy rfl) ?_
    rintro _ w26 ⟨hB26, hg26⟩
    refine WL.y rfl (Y.assign) ?_
    refine WL.nil ?_
    refine WC.ret (thenQ.ret ?_)
    have k26 : Below w.heap.size w w26 := Below.stepG k4 hg26 (by have := hb2.size; omega)
    exact endQ.cell2 Tryd.underlying26 rfl ti26 (.inr rfl) rfl hB26.cells ⟨_, rfl, (VW.nil (M := fun _ => True)).at, k26⟩
end Go.Proofs.YthcppegkpkgnpaaDoor
