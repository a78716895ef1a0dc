/-
  value: Copy: walk.
-/
import Derived.Test.YthcppegkpkgnpaaDoorVal18
import Derived.Test.YthcppegkpkgnpaaDoorBase10
namespace Go.Proofs.YthcppegkpkgnpaaDoor
open Go Go.RowKit Go.Cx
set_option linter.unusedVariables false
set_option maxHeartbeats 8000000
def zC : VC := ⟨vcell V.nil (.slice none 0 0) (.slice none 0 0), rfl⟩
def zM : List UInt8 × VC := ([], zC)
/-- f copies v -/
def CopyOf (f : Nat) (v : V) : Prop := ∀ (w : World) (c : List Value), VAt w v c → Ret Tryd.prog f [.agg c.toArray].toArray w fun r w' => ∃ c', r = .agg c'.toArray ∧ VW w' (fun b => w.heap.size ≤ b) v c' ∧ Below w.heap.size w w'
theorem one_vcell {v : V} {a b : Value} (ha : One a = true) (hb : One b = true) : ∀ u ∈ vcell v a b, One u = true := by
  intro u hu
  simp only [vcell, List.mem_cons, List.mem_nil_iff, or_false] at hu
  rcases hu with rfl | rfl | rfl | rfl | rfl | rfl
  · rfl
  · rfl
  · rfl
  · rfl
  · exact ha
  · exact hb
theorem zip_set : ∀ {ks : List (List UInt8)} {oc : List VC} {j : Nat} {c : VC} (h1 : j < ks.length), (ks.zip oc).set j (ks[j], c) = ks.zip (oc.set j c)
  | [], _, _, _, h => absurd h (by simp)
  | _ :: _, [], _, _, _ => by simp
  | k :: ks, o :: oc, 0, c, _ => rfl
  | k :: ks, o :: oc, j + 1, c, h => by
    have := zip_set (ks := ks) (oc := oc) (j := j) (c := c) (by simpa using h)
    simp only [List.zip_cons_cons, List.set_cons_succ, List.getElem_cons_succ]
    rw [this]
theorem copy_ret (v : V) : CopyOf 29 v := by
  induction v using V.ind with
  | h v ih1 ih2 =>
    intro w c hv
    have hcl := hv.len
    have hone := hv.one
    cases hv with
    | @mk _ lv ov lc oc ok h1 h2 hs h3 h4 ho =>
    have hol := ok.l
    have hoo := ok.o
    have hmx : maxLen = 9223372036854775807 := rfl
    refine Ret.of (n := 64) (rs := #[.cell 2 26]) Tryd.func29 rfl rfl rfl (by simp) ?_
    refine WC.seqR rfl ?_
    refine WL.eex rfl (E.boxX) ?_
    rintro _ w1 ⟨rfl, hB1, hb1⟩
    have k1 := hb1
    refine WL.eex rfl (E.allocX ti26) ?_
    rintro _ w2 ⟨rfl, hB2, hb2⟩
    have k2 := Below.step k1 hb2
    refine WL.nil ?_
    refine WC.seqR rfl ?_
    refine WL.y rfl (Y.loadK Tryd.underlying26 rfl ti26 (hcl) rfl ((show Blk _ _ _ (vcell v lv ov) from hB1.bel hb2).cells)) ?_
    refine WL.eex rfl (E.allocX ti26) ?_
    rintro _ w3 ⟨rfl, hB3, hb3⟩
    have k3 := Below.step k2 hb3
    refine WL.eex rfl (E.storeAllK (us := vcell v lv ov) ti26 hcl rfl rfl hone hB3 rfl) ?_
    rintro _ wA ⟨hA, hgA⟩
    have kA : Below w.heap.size w wA := Below.stepG k3 hgA (by have := hb1.size; have := hb2.size; omega)
    refine WL.nil ?_
    refine WC.seqR rfl ?_
    refine WL.y rfl (Y.fieldAddr fi26f4 ti24 (by decide) rfl (rfl) _) ?_
    refine WL.eex rfl (E.storeX (u := .slice none 0 0) ti24 rfl rfl rfl hA (by simp [vcell])) ?_
    rintro _ wB ⟨hB, hgB, -⟩
    have kB : Below w.heap.size w wB := Below.stepG kA hgB (by have := hb1.size; have := hb2.size; omega)
    refine WL.y rfl (Y.fieldAddr fi26f5 ti22 (by decide) rfl (rfl) _) ?_
    refine WL.eex rfl (E.storeX (u := .slice none 0 0) ti22 rfl rfl rfl hB (by simp [vcell])) ?_
    rintro _ wC ⟨hC, hgC, -⟩
    have kC : Below w.heap.size w wC := Below.stepG kB hgC (by have := hb1.size; have := hb2.size; omega)
    refine WL.nil ?_
    refine WC.seq ?_
    have s1 := hb1.size
    have s2 := hb2.size
    have s3 := hb3.size
    have sA := hgA.size
    have sB := hgB.size
    have sC := hgC.size
    have hx1 : Blk wC w.heap.size 26 (vcell v lv ov) := (((((show Blk _ _ _ (vcell v lv ov) from hB1).bel hb2).bel hb3).grown hgA (by have := hB1.lt; omega)).grown hgB (by have := hB1.lt; omega)).grown hgC (by have := hB1.lt; omega)
    have l1 := (show Blk w1 _ _ _ from hB1).lt
    have l2 := (show Blk w2 _ _ _ from hB2).lt
    have l3 := (show Blk w3 _ _ _ from hB3).lt
    have hx2 : ∃ us, us.length = 6 ∧ Blk wC w1.heap.size 26 us := ⟨_, rfl, ((((show Blk _ _ _ (vcell V.nil (.slice none 0 0) (.slice none 0 0)) from hB2).bel hb3).grown hgA (by omega)).grown hgB (by omega)).grown hgC (by omega)⟩
    have hx3 : Blk wC w2.heap.size 26 (vcell v (.slice none 0 0) (.slice none 0 0)) := hC
    obtain ⟨us, hus, hx2⟩ := hx2
    clear hB1 hB2 hB3 hA hB hC hgA hgB hgC hone
    have e1 : w1.heap.size ≠ w2.heap.size := by omega
    have e2 : w.heap.size ≠ w2.heap.size := by omega
    have e3 : w.heap.size ≠ w1.heap.size := by omega
    refine WC.seqR rfl ?_
    refine WL.y rfl (Y.fieldAddr fi26f4 ti24 (by decide) rfl (rfl) _) ?_
    refine WL.y rfl (Y.load1 Tryd.underlying24 rfl rfl (hx1.cell 4)) ?_
    refine WL.y rfl (Y.lenSl Tryd.underlying24 (hs.bel kC) _) ?_
    refine WL.y rfl (Y.gtr rfl rfl) ?_
    refine WL.nil ?_
    refine WC.cut (fun f ds w' => ds = [] ∧ Below w.heap.size w w' ∧ wC.heap.size ≤ w'.heap.size ∧ Blk w' w.heap.size 26 (vcell v lv ov) ∧ Blk w' w1.heap.size 26 us ∧ ∃ lv' J, Blk w' w2.heap.size 26 (vcell v lv' (.slice none 0 0)) ∧ LW w' (fun b => w3.heap.size ≤ b) v.l lv' ∧ f = Go.Cx.ov J [(1, .pointer (some ⟨w.heap.size, 0, none⟩)), (2, .pointer (some ⟨w1.heap.size, 0, none⟩)), (3, .pointer (some ⟨w2.heap.size, 0, none⟩))]) ?_ ?_
    · skip
      refine WC.condD rfl (fun h0 => ?_) (fun h0 => ?_)
      · refine WC.seqR rfl ?_
        refine WL.y rfl (Y.fieldAddr fi26f4 ti24 (by decide) rfl (rfl) _) ?_
        refine WL.y rfl (Y.load1 Tryd.underlying24 rfl rfl (hx1.cell 4)) ?_
        refine WL.y rfl (Y.lenSl Tryd.underlying24 (hs.bel kC) _) ?_
        refine WL.eex rfl (E.makeK (enc := VC.c) (n := v.l.length) zC VC.h (by decide) rfl Tryd.underlying24 ti26 rfl rfl rfl (by omega) (by omega)) ?_
        rintro _ w18 ⟨rfl, ho18, hb18⟩
        refine WL.y rfl (Y.fieldAddr fi26f4 ti24 (by decide) rfl (rfl) _) ?_
        refine WL.eex rfl (E.storeX (u := .slice (some ⟨wC.heap.size, 0, none⟩) v.l.length v.l.length) ti24 rfl rfl rfl (hx3.bel hb18) (by simp [vcell])) ?_
        rintro _ wD ⟨hD, hgD, -⟩
        have s18 := hb18.size
        have sD := hgD.size
        have q3 := hx3.lt
        have kD : Below w.heap.size w wD := Below.stepG (Below.step kC hb18) hgD (by omega)
        have hx1D := (hx1.bel hb18).grown hgD e2
        have hx2D := (hx2.bel hb18).grown hgD e1
        have hoD : OwnK wD wC.heap.size 26 6 (.slice (some ⟨wC.heap.size, 0, none⟩) v.l.length v.l.length) v.l.length ((List.replicate v.l.length zC).flatMap VC.c) := ho18.kept (Kept.of_grown (M := fun b => b = w2.heap.size) hgD rfl) (by omega)
        refine WL.nil ?_
        refine WC.seqR rfl ?_
        refine WL.y rfl (Y.fieldAddr fi26f4 ti24 (by decide) rfl (rfl) _) ?_
        refine WL.y rfl (Y.load1 Tryd.underlying24 rfl rfl (hx1D.cell 4)) ?_
        refine WL.y rfl (Y.lenSl Tryd.underlying24 (hs.bel kD) _) ?_
        refine WL.y rfl (Y.move) ?_
        refine WL.nil ?_
        refine WC.block ?_
        have r18 : wC.heap.size < w18.heap.size := by
          have hqq := ho18.form (by omega)
          obtain ⟨_, _, _, _, _, h⟩ := hqq
          exact h
        refine WC.loop (fun j => v.l.length - j) (fun j f ds w' => j ≤ v.l.length ∧ ds = [] ∧ Below w.heap.size w w' ∧ wD.heap.size ≤ w'.heap.size ∧ (Blk w' w.heap.size 26 (vcell v lv ov) ∧ Blk w' w1.heap.size 26 us ∧ Blk w' w2.heap.size 26 (vcell v (.slice (some ⟨wC.heap.size, 0, none⟩) v.l.length v.l.length) (.slice none 0 0))) ∧ (∃ lc' : List VC, lc'.length = v.l.length ∧ OwnK w' wC.heap.size 26 6 (.slice (some ⟨wC.heap.size, 0, none⟩) v.l.length v.l.length) v.l.length (lc'.flatMap VC.c) ∧ ∀ i, i < j → ∀ h' : i < lc'.length, ∀ h : i < v.l.length, VW w' (fun b => wD.heap.size ≤ b) v.l[i] lc'[i].c) ∧ ∃ J, f = Go.Cx.ov J [(1, .pointer (some ⟨w.heap.size, 0, none⟩)), (2, .pointer (some ⟨w1.heap.size, 0, none⟩)), (3, .pointer (some ⟨w2.heap.size, 0, none⟩)), (21, lv), (22, .int .i64 (v.l.length : Int)), (23, .int .i64 (j : Int))]) 0 ?_ ?_
        · exact ⟨by omega, rfl, kD, Nat.le_refl _, ⟨hx1D, hx2D, hD⟩, ⟨_, List.length_replicate, hoD, fun i hi => absurd hi (by omega)⟩, _, ov_mk ⟨rfl, rfl, rfl, rfl, rfl, rfl, trivial⟩⟩
        · clear hx1 hx2 hx3 hx1D hx2D hD hoD ho18
          rintro j _ _ wL ⟨hj, rfl, kL, sL, ⟨hx1, hx2, hx3⟩, ⟨lc', n1, n2, n3⟩, J, rfl⟩
          refine WC.seqR rfl ?_
          refine WL.y rfl (Y.lss rfl rfl) ?_
          refine WL.nil ?_
          refine WC.seq ?_
          refine WC.condD rfl (fun h5 => ?_) (fun h5 => ?_)
          · have hjl : j < v.l.length := by omega
            have hjc : j < lc.length := by omega
            have hjn : j < lc'.length := by omega
            refine WC.skip (thenQ.normal ?_)
            refine WC.seq ?_
            refine WC.block ?_
            refine WC.seqR rfl ?_
            refine WL.y rfl (Y.move) ?_
            refine WL.yex rfl (Y.idx Tryd.underlying24 ti26 (by decide) (hs.bel kL) rfl (by omega) (by omega)) ?_
            rintro _ ⟨b26, o26, rfl, hc26⟩
            refine WL.y rfl (Y.loadK Tryd.underlying26 rfl ti26 (lc[j].h) rfl (elem_cells hjc hc26)) ?_
            refine WL.eex rfl (E.allocX ti26) ?_
            rintro _ w5 ⟨rfl, hB5, hb5⟩
            refine WL.y rfl (Y.assign) ?_
            refine WL.eex rfl (E.storeAllK (us := lc[j].c) ti26 lc[j].h rfl rfl (h2 j hjl hjc).one hB5 rfl) ?_
            rintro _ w5s ⟨hB5', hg5⟩
            have b5 : Below wL.heap.size wL w5s := Below.stepG hb5 hg5 (Nat.le_refl _)
            have hv5 := ((h2 j hjl hjc).bel kL).bel b5
            refine WL.nil ?_
            refine WC.regionB (fun i => Nat.beq i 6) [(0, .any), (1, .held), (2, .any), (3, .held), (4, .seq), (5, .any), (6, .seq)] mixed (by kernel_rfl) (fun w8 hS8 hheap => ?_)
            refine RL.any rfl rfl (fun _ => Y.fieldAddr fi26f4 ti24 (by decide) rfl (rfl) _) ?_
            refine RL.held rfl rfl hS8 (fun _ hb9 => Y.load1 Tryd.underlying24 rfl rfl (cell_bel ((hx3.bel b5).cell 4) hb9)) ?_
            refine RL.any rfl rfl (fun _ => Y.move) ?_
            refine RL.held rfl rfl hS8 (fun _ hb9 => Y.loadK Tryd.underlying26 rfl ti26 (lc[j].h) rfl (Cells.bel hB5'.cells hb9)) ?_
            refine RL.call rfl rfl (C.func go29) (ih1 _ (List.getElem_mem hjl) _ _ (hv5.bel hS8)) ?_
            rintro _ w32 ⟨c32, rfl, hw32, hb32⟩
            refine ⟨.inr (fun h => Below.step h hb32), ?_⟩
            have bb : Below wL.heap.size wL w32 := Below.step (Below.step b5 hS8) hb32
            refine RL.any rfl rfl (fun _ => Y.idxV Tryd.underlying24 ti26 rfl rfl (by omega) (by omega) _) ?_
            refine RL.eex rfl rfl (E.storeK (i := j) (us := c32) ti26 rfl rfl hw32.len hw32.one (n2.bel bb) hjl (by rw [Int.toNat_natCast])) ?_ ?_
            · exact fun _ _ _ => .inl rfl
            rintro _ w33 ⟨ho33, hg33⟩
            refine RL.nil (inBlockQ.normal (thenQ.normal ?_))
            refine WC.region rfl ?_
            refine WL.y rfl (Y.add64 rfl rfl (by omega)) ?_
            refine WL.y rfl (Y.move) ?_
            refine WL.nil (thenQ.normal ?_)
            have hfs := flat_set VC.h lc' j ⟨c32, hw32.len⟩ hjn
            have b5s := b5.size
            have S8s := hS8.size
            have b32s := hb32.size
            have g33s := hg33.size
            have kM : Kept (fun b => b = wC.heap.size) w32 w33 := Kept.of_grown hg33 rfl
            exact ⟨j + 1, by omega, by omega, rfl, Below.stepG (Below.step kL bb) hg33 (by omega), by omega, ⟨(hx1.bel bb).grown hg33 (by omega), (hx2.bel bb).grown hg33 (by omega), (hx3.bel bb).grown hg33 (by omega)⟩, ⟨lc'.set j ⟨c32, hw32.len⟩, by rw [List.length_set]; exact n1, by rw [← hfs]; exact ho33, set_done (P := fun i x => ∀ h : i < v.l.length, VW w33 (fun b => wD.heap.size ≤ b) v.l[i] x.c) (fun i hi h' h => VW.kept kM (fun b h1 h2 => by omega) ((n3 i hi h' h).bel bb)) (fun h => VW.kept kM (fun b h1 h2 => by omega) (hw32.mono (fun b _ h => by omega)))⟩, _, ov_mk ⟨rfl, rfl, rfl, rfl, rfl, rfl, trivial⟩⟩
          · have hje : j = v.l.length := by omega
            refine WC.exit (thenQ.exit (thenQ.exit (inBlockQ.hit (thenQ.normal ?_))))
            exact ⟨rfl, kL, by omega, hx1, hx2, _, _, hx3, ⟨wC.heap.size, lc', n1, .inr (by omega), n2, fun i h h' => (n3 i (by omega) h' h).mono (fun b _ h => by omega)⟩, ov_mk ⟨rfl, rfl, rfl, trivial⟩⟩
      · have hl0 : v.l = [] := List.eq_nil_of_length_eq_zero (by omega)
        refine WC.skip (thenQ.normal ?_)
        exact ⟨rfl, kC, Nat.le_refl _, hx1, hx2, _, _, hx3, by rw [hl0]; exact LW.nil, ov_mk ⟨rfl, rfl, rfl, trivial⟩⟩
    · clear hx1 hx2 hx3 kC
      rintro _ _ wE ⟨rfl, kE, sE, hx1, hx2, lv', J, hx3, hL, rfl⟩
      refine WC.seq ?_
      refine WC.seqR rfl ?_
      refine WL.y rfl (Y.fieldAddr fi26f5 ti22 (by decide) rfl (rfl) _) ?_
      refine WL.y rfl (Y.load1 Tryd.underlying22 rfl rfl (hx1.cell 5)) ?_
      refine WL.y rfl (Y.lenSl Tryd.underlying22 (ho.bel kE) _) ?_
      refine WL.y rfl (Y.gtr rfl rfl) ?_
      refine WL.nil ?_
      refine WC.cut (fun f ds w' => ds = [] ∧ Below w.heap.size w w' ∧ wE.heap.size ≤ w'.heap.size ∧ Blk w' w.heap.size 26 (vcell v lv ov) ∧ Blk w' w1.heap.size 26 us ∧ LW w' (fun b => w3.heap.size ≤ b) v.l lv' ∧ ∃ ov' J, Blk w' w2.heap.size 26 (vcell v lv' ov') ∧ MW w' (fun b => w3.heap.size ≤ b) v.ks v.vs ov' ∧ f = Go.Cx.ov J [(1, .pointer (some ⟨w.heap.size, 0, none⟩)), (2, .pointer (some ⟨w1.heap.size, 0, none⟩)), (3, .pointer (some ⟨w2.heap.size, 0, none⟩))]) ?_ ?_
      · skip
        refine WC.condD rfl (fun h0 => ?_) (fun h0 => ?_)
        · refine WC.seqR rfl ?_
          refine WL.y rfl (Y.fieldAddr fi26f5 ti22 (by decide) rfl (rfl) _) ?_
          refine WL.y rfl (Y.load1 Tryd.underlying22 rfl rfl (hx1.cell 5)) ?_
          refine WL.y rfl (Y.lenSl Tryd.underlying22 (ho.bel kE) _) ?_
          refine WL.eex rfl (E.makeK (enc := mc) (n := v.vs.length) zM mc_len (by decide) rfl Tryd.underlying22 ti38 rfl rfl rfl (by omega) (by omega)) ?_
          rintro _ w42 ⟨rfl, ho42, hb42⟩
          refine WL.y rfl (Y.fieldAddr fi26f5 ti22 (by decide) rfl (rfl) _) ?_
          refine WL.eex rfl (E.storeX (u := .slice (some ⟨wE.heap.size, 0, none⟩) v.vs.length v.vs.length) ti22 rfl rfl rfl (hx3.bel hb42) (by simp [vcell])) ?_
          rintro _ wF ⟨hF, hgF, -⟩
          have s42 := hb42.size
          have sF := hgF.size
          have q3 := hx3.lt
          have kF : Below w.heap.size w wF := Below.stepG (Below.step kE hb42) hgF (by omega)
          have hx1F := (hx1.bel hb42).grown hgF e2
          have hx2F := (hx2.bel hb42).grown hgF e1
          have hLF : LW wF (fun b => w3.heap.size ≤ b) v.l lv' := LW.kept (Kept.of_grown (M := fun b => b = w2.heap.size) hgF rfl) (fun b h1 h2 => by omega) (hL.bel hb42)
          have hoF : OwnK wF wE.heap.size 38 7 (.slice (some ⟨wE.heap.size, 0, none⟩) v.vs.length v.vs.length) v.vs.length ((List.replicate v.vs.length zM).flatMap mc) := ho42.kept (Kept.of_grown (M := fun b => b = w2.heap.size) hgF rfl) (by omega)
          refine WL.nil ?_
          refine WC.seqR rfl ?_
          refine WL.y rfl (Y.fieldAddr fi26f5 ti22 (by decide) rfl (rfl) _) ?_
          refine WL.y rfl (Y.load1 Tryd.underlying22 rfl rfl (hx1F.cell 5)) ?_
          refine WL.y rfl (Y.lenSl Tryd.underlying22 (ho.bel kF) _) ?_
          refine WL.y rfl (Y.move) ?_
          refine WL.nil ?_
          refine WC.block ?_
          have r42 : wE.heap.size < w42.heap.size := by
            have hqq := ho42.form (by omega)
            obtain ⟨_, _, _, _, _, h⟩ := hqq
            exact h
          refine WC.loop (fun j => v.vs.length - j) (fun j f ds w' => j ≤ v.vs.length ∧ ds = [] ∧ Below w.heap.size w w' ∧ wF.heap.size ≤ w'.heap.size ∧ (Blk w' w.heap.size 26 (vcell v lv ov) ∧ Blk w' w1.heap.size 26 us ∧ Blk w' w2.heap.size 26 (vcell v lv' (.slice (some ⟨wE.heap.size, 0, none⟩) v.vs.length v.vs.length)) ∧ LW w' (fun b => w3.heap.size ≤ b ∧ b < wE.heap.size) v.l lv') ∧ (∃ oc' : List (List UInt8 × VC), oc'.length = v.vs.length ∧ OwnK w' wE.heap.size 38 7 (.slice (some ⟨wE.heap.size, 0, none⟩) v.vs.length v.vs.length) v.vs.length (oc'.flatMap mc) ∧ ∀ i, i < j → ∀ h' : i < oc'.length, ∀ (h : i < v.vs.length) (hk : i < v.ks.length), oc'[i].1 = v.ks[i] ∧ VW w' (fun b => wF.heap.size ≤ b) v.vs[i] oc'[i].2.c) ∧ ∃ J, f = Go.Cx.ov J [(1, .pointer (some ⟨w.heap.size, 0, none⟩)), (2, .pointer (some ⟨w1.heap.size, 0, none⟩)), (3, .pointer (some ⟨w2.heap.size, 0, none⟩)), (45, ov), (46, .int .i64 (v.vs.length : Int)), (47, .int .i64 (j : Int))]) 0 ?_ ?_
          · exact ⟨by omega, rfl, kF, Nat.le_refl _, ⟨hx1F, hx2F, hF, LW.kept (Kept.of_grown (M := fun b => b = w2.heap.size) hgF rfl) (fun b h1 h2 => by omega) ((hL.mono (fun b h1 h2 => ⟨h2, h1⟩)).bel hb42)⟩, ⟨_, List.length_replicate, hoF, fun i hi => absurd hi (by omega)⟩, _, ov_mk ⟨rfl, rfl, rfl, rfl, rfl, rfl, trivial⟩⟩
          · clear hx1 hx2 hx3 hx1F hx2F hF hoF ho42 hL hLF
            rintro j _ _ wL ⟨hj, rfl, kL, sL, ⟨hx1, hx2, hx3, hL⟩, ⟨oc', n1, n2, n3⟩, J, rfl⟩
            have okk := ok.ks
            refine WC.seqR rfl ?_
            refine WL.y rfl (Y.lss rfl rfl) ?_
            refine WL.nil ?_
            refine WC.seq ?_
            refine WC.condD rfl (fun h5 => ?_) (fun h5 => ?_)
            · have hjl : j < v.vs.length := by omega
              have hjk : j < v.ks.length := by omega
              have hjc : j < oc.length := by omega
              have hjn : j < oc'.length := by omega
              have hml : (strv v.ks[j] :: oc[j].c).length = 7 := by rw [List.length_cons, oc[j].h]
              have hmo : ∀ u ∈ strv v.ks[j] :: oc[j].c, One u = true := one_strv (h4 j hjl hjc).one
              refine WC.skip (thenQ.normal ?_)
              refine WC.seq ?_
              refine WC.block ?_
              refine WC.seqR rfl ?_
              refine WL.y rfl (Y.move) ?_
              refine WL.yex rfl (Y.idx Tryd.underlying22 ti38 (by decide) (ho.bel kL) rfl (by omega) (by omega)) ?_
              rintro _ ⟨b50, o50, rfl, hc50⟩
              refine WL.y rfl (Y.loadK Tryd.underlying38 rfl ti38 (hml) rfl (mem_cells hjk hjc hc50)) ?_
              refine WL.eex rfl (E.allocX ti38) ?_
              rintro _ w7 ⟨rfl, hB7, hb7⟩
              refine WL.y rfl (Y.assign) ?_
              refine WL.eex rfl (E.storeAllK (us := strv v.ks[j] :: oc[j].c) ti38 hml rfl rfl hmo hB7 rfl) ?_
              rintro _ w7s ⟨hB7', hg7⟩
              have b7 : Below wL.heap.size wL w7s := Below.stepG hb7 hg7 (Nat.le_refl _)
              have hv7 := ((h4 j hjl hjc).bel kL).bel b7
              refine WL.nil ?_
              refine WC.regionB (fun i => Nat.beq i 10) [(0, .any), (1, .held), (2, .any), (3, .any), (4, .held), (5, .any), (6, .held), (7, .seq), (8, .any), (9, .any), (10, .seq)] mixed (by kernel_rfl) (fun w15 hS15 hheap => ?_)
              refine RL.any rfl rfl (fun _ => Y.fieldAddr fi26f5 ti22 (by decide) rfl (rfl) _) ?_
              refine RL.held rfl rfl hS15 (fun _ hb9 => Y.load1 Tryd.underlying22 rfl rfl (cell_bel ((hx3.bel b7).cell 5) hb9)) ?_
              refine RL.any rfl rfl (fun _ => Y.move) ?_
              refine RL.any rfl rfl (fun _ => Y.fieldAddr fi38f0 ti9 (by decide) rfl (rfl) _) ?_
              refine RL.held rfl rfl hS15 (fun _ hb9 => Y.load1 Tryd.underlying9 rfl rfl (cell_bel (hB7'.cell 0) hb9)) ?_
              refine RL.any rfl rfl (fun _ => Y.fieldAddr fi38f1 ti26 (by decide) rfl (rfl) _) ?_
              refine RL.held rfl rfl hS15 (fun _ hb9 => Y.loadK Tryd.underlying26 rfl ti26 (oc[j].h) rfl (Cells.bel (Cells.tl hB7'.cells) hb9)) ?_
              refine RL.call rfl rfl (C.func go29) (ih2 _ (List.getElem_mem hjl) _ _ (hv7.bel hS15)) ?_
              rintro _ w59 ⟨c59, rfl, hw59, hb59⟩
              refine ⟨.inr (fun h => Below.step h hb59), ?_⟩
              have bb : Below wL.heap.size wL w59 := Below.step (Below.step b7 hS15) hb59
              have hqq := six hw59.len
              obtain ⟨p0, p1, p2, p3, p4, p5, rfl⟩ := hqq
              refine RL.any rfl rfl (fun _ => Y.build (cells := (strv v.ks[j] :: [p0, p1, p2, p3, p4, p5]).toArray) (by kernel_rfl) _) ?_
              refine RL.any rfl rfl (fun _ => Y.idxV Tryd.underlying22 ti38 rfl rfl (by omega) (by omega) _) ?_
              refine RL.eex rfl rfl (E.storeK (i := j) (us := strv v.ks[j] :: [p0, p1, p2, p3, p4, p5]) ti38 rfl rfl rfl (one_strv hw59.one) (n2.bel bb) hjl (by rw [Int.toNat_natCast])) ?_ ?_
              · exact fun _ _ _ => .inl rfl
              rintro _ w60 ⟨ho60, hg60⟩
              refine RL.nil (inBlockQ.normal (thenQ.normal ?_))
              refine WC.region rfl ?_
              refine WL.y rfl (Y.add64 rfl rfl (by omega)) ?_
              refine WL.y rfl (Y.move) ?_
              refine WL.nil (thenQ.normal ?_)
              have hfs := flat_set mc_len oc' j (v.ks[j], ⟨[p0, p1, p2, p3, p4, p5], rfl⟩) hjn
              have b7s := b7.size
              have S15s := hS15.size
              have b59s := hb59.size
              have g60s := hg60.size
              have kM : Kept (fun b => b = wE.heap.size) w59 w60 := Kept.of_grown hg60 rfl
              exact ⟨j + 1, by omega, by omega, rfl, Below.stepG (Below.step kL bb) hg60 (by omega), by omega, ⟨(hx1.bel bb).grown hg60 (by omega), (hx2.bel bb).grown hg60 (by omega), (hx3.bel bb).grown hg60 (by omega), LW.kept kM (fun b h1 h2 => by omega) (hL.bel bb)⟩, ⟨oc'.set j (v.ks[j], ⟨[p0, p1, p2, p3, p4, p5], rfl⟩), by rw [List.length_set]; exact n1, by rw [← hfs]; exact ho60, set_done (P := fun i x => ∀ (h : i < v.vs.length) (hk : i < v.ks.length), x.1 = v.ks[i] ∧ VW w60 (fun b => wF.heap.size ≤ b) v.vs[i] x.2.c) (fun i hi h' h hk => ⟨(n3 i hi h' h hk).1, VW.kept kM (fun b h1 h2 => by omega) ((n3 i hi h' h hk).2.bel bb)⟩) (fun h hk => ⟨rfl, VW.kept kM (fun b h1 h2 => by omega) (hw59.mono (fun b _ h => by omega))⟩)⟩, _, ov_mk ⟨rfl, rfl, rfl, rfl, rfl, rfl, trivial⟩⟩
            · have hje : j = v.vs.length := by omega
              have hzz : oc' = v.ks.zip (oc'.map Prod.snd) := by
                apply List.ext_getElem
                · rw [List.length_zip, List.length_map]; omega
                · intro i h1 h2
                  rw [List.getElem_zip, List.getElem_map]
                  have := (n3 i (by omega) h1 (by omega) (by omega)).1
                  rw [← this]
              refine WC.exit (thenQ.exit (thenQ.exit (inBlockQ.hit (thenQ.normal ?_))))
              exact ⟨rfl, kL, by omega, hx1, hx2, hL.mono (fun b _ h => h.1), _, _, hx3, ⟨wE.heap.size, oc'.map Prod.snd, by rw [List.length_map]; exact n1, .inr (by omega), by rw [hzz] at n2; exact n2, fun i h h' => by rw [List.getElem_map]; exact (n3 i (by omega) (by omega) h (by omega)).2.mono (fun b _ h => by omega)⟩, ov_mk ⟨rfl, rfl, rfl, trivial⟩⟩
        · have hl0 : v.vs = [] := List.eq_nil_of_length_eq_zero (by omega)
          have hk0 : v.ks = [] := List.eq_nil_of_length_eq_zero (by have := ok.ks; omega)
          refine WC.skip (thenQ.normal ?_)
          exact ⟨rfl, kE, Nat.le_refl _, hx1, hx2, hL, _, _, hx3, by rw [hl0, hk0]; exact MW.nil, ov_mk ⟨rfl, rfl, rfl, trivial⟩⟩
      · clear hx1 hx2 hx3 hL
        rintro _ _ wG ⟨rfl, kG, sG, hx1, hx2, hL, ov', J2, hx3, hM, rfl⟩
        refine WC.seqR rfl ?_
        refine WL.y rfl (Y.loadK Tryd.underlying26 rfl ti26 (rfl) rfl (hx3.cells)) ?_
        refine WL.eex rfl (E.storeAllK (us := vcell v lv' ov') ti26 rfl rfl rfl (one_vcell hL.one hM.one) hx2 hus) ?_
        rintro _ wH ⟨hH, hgH⟩
        refine WL.nil ?_
        refine WC.ret ?_
        have kH : Below w.heap.size w wH := Below.stepG kG hgH (by omega)
        have kM : Kept (fun b => b = w1.heap.size) wG wH := Kept.of_grown hgH rfl
        have hw : VW wH (fun b => w3.heap.size ≤ b) v (vcell v lv' ov') := VW.of ok (LW.kept kM (fun b h1 h2 => by omega) hL) (MW.kept kM (fun b h1 h2 => by omega) hM)
        exact endQ.cellN Tryd.underlying26 rfl ti26 (.inr rfl) rfl hH.cells ⟨_, rfl, hw.mono (fun b _ h => by omega), kH⟩
end Go.Proofs.YthcppegkpkgnpaaDoor
