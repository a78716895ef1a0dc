/-
  value.Object: walk.
-/
import Derived.Test.YthcppegkpkgnpaaDoorObj1
namespace Go.Proofs.YthcppegkpkgnpaaDoor
open Go Go.RowKit Go.Cx
set_option linter.unusedVariables false
set_option maxHeartbeats 8000000
set_option maxRecDepth 20000
open Go.Sort
def errO : Option (List KV) → Int
  | none => 8
  | some _ => 0
def valO : Option (List KV) → V
  | none => V.nil
  | some qs => .mk 6 false 0 [] [] (qs.map Prod.fst) (qs.map Prod.snd)
/-- an object of members, or an error -/
def ObjR (o : Option (List KV)) (w : World) (r : Value) (w' : World) : Prop := ∃ c', r = .tuple #[.agg c'.toArray, .int .i64 (errO o)] ∧ VW w' (fun b => w.heap.size ≤ b) (valO o) c' ∧ Below w.heap.size w w'
/-- members in memory -/
def MsAt (w : World) (r : Value) (l : List MR) : Prop := SlK w 7 r l.length (l.flatMap mr) ∧ (∀ m ∈ l, m.key.length ≤ 140737488351232 ∧ VAt w m.v m.c.c) ∧ l.length ≤ 1353245080300
theorem MsAt.bel {w w' : World} {r : Value} {l : List MR} (h : MsAt w r l) (hb : Below w.heap.size w w') : MsAt w' r l := ⟨h.1.bel hb, fun m hm => ⟨(h.2.1 m hm).1, (h.2.1 m hm).2.bel hb⟩, h.2.2⟩
theorem mkI {P : Program} {f : Fr} {w : World} {d : Option Tmp} {ty : TypeId} {pos : String} {aft : Array Edge} {g : Option (Nat × Bool)} {x : Operand} {t e : TypeId} {v : Value} (ht : P.underlying t = some (.slice e)) (hx : ev f x = v) : Y P ⟨d, .makeInterface t x, ty, pos, aft, g⟩ f w (.iface t v) := by
  simp [Y, execOp, Instr.makeInterface, run_underlying ht, Sem.run_bind, hx, Result.andThen]
theorem mr_ones (l : List MR) : ∀ u ∈ l.flatMap mr, One u = true := by
  intro u hu
  have hqq := List.mem_flatMap.1 hu
  obtain ⟨m, _, hu⟩ := hqq
  rcases List.mem_cons.1 hu with rfl | hu
  · rfl
  · exact m.one u hu
theorem mcells_mr : ∀ l : List MR, mcells (l.map MR.key) (l.map MR.c) = l.flatMap mr
  | [] => rfl
  | m :: l => by
    have := mcells_mr l
    unfold mcells at *
    rw [List.map_cons, List.map_cons, List.zip_cons_cons, List.flatMap_cons, List.flatMap_cons, this]
    rfl
theorem clonem_ret (w : World) (v : Value) (l : List MR) (hs : SlK w 7 v l.length (l.flatMap mr)) (hl : l.length ≤ 1353245080300) :
    Ret Tryd.prog 31 [v].toArray w fun v' w' => (∃ b, w.heap.size ≤ b ∧ OwnK w' b 38 7 v' l.length (l.flatMap mr)) ∧ Below w.heap.size w w' := by
  have hmx : maxLen = 9223372036854775807 := rfl
  have hs' := hs
  have hqq := hs'
  obtain ⟨hl2, hm, a, cap, rfl, hn, hcm, hc⟩ := hqq
  cases a with
  | none =>
    have h0 : l = [] := by
      cases l with
      | nil => rfl
      | cons p ps => obtain ⟨b, o, ha, _⟩ := hc 0 (strv p.key) rfl; cases ha
    subst h0
    refine Ret.of (n := 8) (rs := #[.tmp 2]) Tryd.func31 rfl rfl rfl (by simp) ?_
    refine WC.seqR rfl ?_
    refine WL.y rfl (Y.assign) ?_
    refine WL.nil ?_
    refine WC.seq ?_
    refine WC.seqR rfl ?_
    refine WL.y rfl (Y.move) ?_
    refine WL.y rfl (Y.eqsn Tryd.underlying22 rfl rfl) ?_
    refine WL.nil ?_
    refine WC.condT (rfl) ?_
    refine WC.seqR rfl ?_
    refine WL.y rfl (Y.assign) ?_
    refine WL.nil ?_
    refine WC.ret (thenQ.ret (endQ.one (.inr rfl) ?_))
    exact ⟨⟨w.heap.size, Nat.le_refl _, OwnK.nil⟩, Below.refl _ _⟩
  | some a =>
    refine Ret.of (n := 8) (rs := #[.tmp 2]) Tryd.func31 rfl rfl rfl (by simp) ?_
    refine WC.seqR rfl ?_
    refine WL.y rfl (Y.assign) ?_
    refine WL.nil ?_
    refine WC.seq ?_
    refine WC.seqR rfl ?_
    refine WL.y rfl (Y.move) ?_
    refine WL.y rfl (Y.eqsn Tryd.underlying22 rfl rfl) ?_
    refine WL.nil ?_
    refine WC.condF (rfl) ?_
    refine WC.skip (thenQ.normal ?_)
    refine WC.seqR rfl ?_
    refine WL.eex rfl (E.build0 Tryd.underlying22 ti38) ?_
    rintro v5 w5 ⟨ho5, hb5⟩
    refine WL.y rfl (Y.move) ?_
    refine WL.eex rfl (E.append Tryd.underlying22 ti38 rfl (by decide) ho5 (hs.bel hb5) (mr_ones l) (by omega) (by omega) hb5.size) ?_
    rintro v7 w7 ⟨ho7, hb7, -⟩
    refine WL.y rfl (Y.assign) ?_
    refine WL.nil ?_
    refine WC.ret (endQ.one (.inr rfl) ?_)
    rw [Nat.zero_add, List.nil_append] at ho7
    have hqq := OwnK.of_own ho7
    obtain ⟨b, hb, hO⟩ := hqq
    exact ⟨⟨b, hb, hO⟩, hb5.trans hb7⟩
/-- sort.Slice, of whatever length -/
theorem slice_any {w : World} {X bl : Nat} {s : Value} {l : List MR} (hB : Blk w X 22 [s]) (ho : OwnK w bl 38 7 s l.length (l.flatMap mr)) (hlen : l.length ≤ 1353245080300) (hne : X ≠ bl) : Ret Tryd.prog 32 [.iface 22 s, .func (.func 33) #[] #[.pointer (some ⟨X, 0, none⟩)]].toArray w fun _ w' => ∃ l2 : List MR, l2.Perm l ∧ (∀ i j (hi : i < l2.length) (hj : j < l2.length), i < j → ¬ l2[j].key < l2[i].key) ∧ SlK w' 7 s l2.length (l2.flatMap mr) ∧ Kept (fun x => x = bl) w w' := by
  have hsl := ho.sl
  by_cases h2 : 2 ≤ l.length
  · have hqq := ho.form (by omega)
    obtain ⟨o, cap, rfl, _, _, _⟩ := hqq
    refine (slice_ret hB ho hne h2 hlen).mono ?_
    rintro _ w' ⟨l2, h3, h4, h5, h6⟩
    exact ⟨l2, h3, h4, by rw [h3.length_eq]; exact h5, h6⟩
  · have hqq := ho.sl
    obtain ⟨_, _, a, cap, rfl, _⟩ := hqq
    refine (slice_tiny (p := a) (n := l.length) (cap := cap) (by omega) _ _ _).mono ?_
    intro _ w' hb
    exact ⟨l, List.Perm.refl _, fun i j hi hj hij => by omega, hsl.bel hb, Kept.of_bel hb⟩
theorem vat_obj {w : World} {s : Value} {l : List MR} (h : MsAt w s l) : VAt w (valO (some (l.map pr))) (vcell (valO (some (l.map pr))) (.slice none 0 0) s) := by
  have e1 : (l.map pr).map Prod.fst = l.map MR.key := by rw [List.map_map]; rfl
  have e2 : (l.map pr).map Prod.snd = l.map MR.v := by rw [List.map_map]; rfl
  obtain ⟨h1, h2, h3⟩ := h
  refine VAt.mk (lc := []) (oc := l.map MR.c) ⟨by simp [valO, V.k], by simp [valO, V.i], by simp [valO, V.t], by simp [valO, V.l], ?_, ?_, ?_⟩ rfl (fun j h => absurd h (by simp [valO, V.l])) SlK.nil ?_ ?_ ?_
  · show ((l.map pr).map Prod.snd).length ≤ _
    rw [List.length_map, List.length_map]; exact h3
  · show ((l.map pr).map Prod.fst).length = ((l.map pr).map Prod.snd).length
    simp
  · show ∀ x ∈ (l.map pr).map Prod.fst, _
    rw [e1]
    intro x hx
    have hqq := List.mem_map.1 hx
    obtain ⟨m, hm, rfl⟩ := hqq
    exact (h2 m hm).1
  · show (l.map MR.c).length = ((l.map pr).map Prod.snd).length
    rw [List.length_map, List.length_map, List.length_map]
  · intro j hj hj'
    have hjl : j < l.length := by rw [List.length_map] at hj'; exact hj'
    have key : ∀ (j : Nat) (h1 : j < ((l.map pr).map Prod.snd).length) (h2 : j < l.length), ((l.map pr).map Prod.snd)[j] = l[j].v := by
      intro j h1 h2
      simp [pr]
    have ev : (valO (some (l.map pr))).vs[j] = l[j].v := key j hj hjl
    rw [ev, List.getElem_map]
    exact (h2 _ (List.getElem_mem hjl)).2
  · show SlK w 7 s ((l.map pr).map Prod.snd).length (mcells ((l.map pr).map Prod.fst) (l.map MR.c))
    rw [e1, mcells_mr, List.length_map, List.length_map]
    exact h1
theorem not_nodup {l : List MR} {i : Nat} (h : i + 1 < l.length) (e : l[i + 1].key = l[i].key) : ¬ ((l.map pr).map Prod.fst).Nodup := by
  intro hn
  have e1 : (l.map pr).map Prod.fst = l.map MR.key := by rw [List.map_map]; rfl
  rw [e1] at hn
  have h1 := List.pairwise_iff_getElem.1 hn i (i + 1) (by rw [List.length_map]; omega) (by rw [List.length_map]; omega) (by omega)
  rw [List.getElem_map, List.getElem_map] at h1
  exact h1 e.symm
theorem object_ret (w : World) (s : Value) (l : List MR) (h : MsAt w s l) : Ret Tryd.prog 12 [s].toArray w (ObjR (rObj (l.map pr)) w) := by
  have hlen := h.2.2
  refine Ret.of (n := 34) (rs := #[.cell 2 26, .tmp 3]) Tryd.func12 rfl rfl rfl (by simp) ?_
  refine WC.seqR rfl ?_
  refine WL.eex rfl (E.allocX ti26) ?_
  rintro _ w2 ⟨rfl, hB2, hb2⟩
  refine WL.y rfl (Y.assign) ?_
  refine WL.nil ?_
  refine WC.seqR rfl ?_
  refine WL.y rfl (Y.move) ?_
  refine WL.call rfl (C.func go31) (clonem_ret _ _ l (h.1.bel hb2) hlen) ?_
  rintro v7 w7 ⟨⟨bl, hbl, ho7⟩, hb7⟩
  refine WL.eex rfl (E.allocX ti22) ?_
  rintro _ w4 ⟨rfl, hB4, hb4⟩
  refine WL.eex rfl (E.storeX (u := v7) ti22 rfl rfl ho7.sl.one hB4 Nat.one_pos) ?_
  rintro _ w4s ⟨hX, hg4, -⟩
  refine WL.nil ?_
  have hZ : Blk w2 w.heap.size 26 (vcell V.nil (.slice none 0 0) (.slice none 0 0)) := hB2
  have lZ := hZ.lt
  have s2 := hb2.size
  have s7 := hb7.size
  have s4 := hb4.size
  have s4s := hg4.size
  have lX : w7.heap.size < w4.heap.size := (show Blk w4 _ _ _ from hB4).lt
  have b4 : Below w7.heap.size w7 w4s := Below.stepG hb4 hg4 (Nat.le_refl _)
  have hZ4 := (hZ.bel hb7).bel b4
  have k4 : Below w.heap.size w w4s := Below.step (Below.step hb2 hb7) b4
  have ho4 := ho7.bel b4
  have hne : l.length ≠ 0 → w7.heap.size ≠ bl := by
    intro h0
    have hqq := ho7.form (by omega)
    obtain ⟨_, _, _, _, _, hlt⟩ := hqq
    omega
  obtain ⟨bl2, hbl2, ho4, hne⟩ : ∃ bl2, w2.heap.size ≤ bl2 ∧ OwnK w4s bl2 38 7 v7 l.length (l.flatMap mr) ∧ w7.heap.size ≠ bl2 := by
    by_cases h0 : l.length = 0
    · have e : l = [] := List.eq_nil_of_length_eq_zero h0
      subst e
      by_cases h1 : w7.heap.size = bl
      · rcases ho4.2 with ⟨hv, hn⟩ | ⟨o, cap, cur, hv, hb, hr⟩
        · exact ⟨w7.heap.size + 1, by omega, ⟨ho4.1, .inl ⟨hv, hn⟩⟩, by omega⟩
        · rcases ho7.2 with ⟨hv7, _⟩ | ⟨_, _, _, hv7, hb', _⟩
          · rw [hv] at hv7; cases hv7
          · have := (Array.getElem?_eq_some_iff.1 hb').1
            omega
      · exact ⟨bl, hbl, ho4, h1⟩
    · exact ⟨bl, hbl, ho4, hne h0⟩
  clear hB2 hB4 hbl ho7 hg4
  have hqq := ho4.sl
  obtain ⟨-, -, av, cv, rfl, -⟩ := hqq
  refine WC.seqR rfl ?_
  refine WL.y rfl (Y.load1 Tryd.underlying22 rfl rfl (hX.cell 0)) ?_
  refine WL.y rfl (mkI Tryd.underlying22 rfl) ?_
  refine WL.y rfl (Y.makeFunc) ?_
  refine WL.call rfl (C.func go32) (slice_any hX ho4 hlen hne) ?_
  rintro _ w11 ⟨l2, hp, hso, hs2, k11⟩
  refine WL.nil ?_
  refine WC.seq ?_
  refine WC.seqR rfl ?_
  refine WL.y rfl (Y.assign) ?_
  refine WL.nil ?_
  refine WC.block ?_
  have hX11 := hX.kept k11 hne
  have hZ11 := hZ4.kept k11 (by omega)
  have k11' : Below w.heap.size w w11 := Below.kept k4 k11 (fun b hb => by omega) (Nat.le_refl _)
  have hl2 := hp.length_eq
  have hM : MsAt w11 (.slice av l.length cv) l2 := ⟨hs2, fun m hm => ⟨(h.2.1 m (hp.mem_iff.1 hm)).1, (h.2.1 m (hp.mem_iff.1 hm)).2.bel k11'⟩, by omega⟩
  have s11 := k11.size
  refine WC.loop (fun i => l2.length + 1 - i) (fun i f ds w' => 1 ≤ i ∧ i ≤ l2.length + 1 ∧ (∀ j (hj : j + 1 < l2.length), j + 1 < i → l2[j + 1].key ≠ l2[j].key) ∧ ds = [] ∧ Below w11.heap.size w11 w' ∧ ∃ J, f = Go.Cx.ov J [(2, .pointer (some ⟨w.heap.size, 0, none⟩)), (3, .int .i64 0), (4, .pointer (some ⟨w7.heap.size, 0, none⟩)), (5, .int .i64 (i : Int))]) 1 ?_ ?_
  · exact ⟨Nat.le_refl _, by omega, fun j hj h => by omega, rfl, Below.refl _ _, _, ov_mk ⟨rfl, rfl, rfl, rfl, trivial⟩⟩
  · rintro i _ _ wL ⟨hi1, hi2, hdis, rfl, kL, J, rfl⟩
    have hXL := hX11.bel kL
    have hZL := hZ11.bel kL
    have hML := hM.bel kL
    have e1 : ((i : Int) - 1) = ((i - 1 : Nat) : Int) := by omega
    refine WC.seq ?_
    refine WC.seqR rfl ?_
    refine WL.y rfl (Y.move) ?_
    refine WL.y rfl (Y.load1 Tryd.underlying22 rfl rfl (hXL.cell 0)) ?_
    refine WL.y rfl (Y.lenSl Tryd.underlying22 (hML.1) _) ?_
    refine WL.y rfl (Y.lss rfl rfl) ?_
    refine WL.nil ?_
    refine WC.condD rfl (fun h0 => ?_) (fun h0 => ?_)
    · have hil : i < l2.length := by omega
      have him : i - 1 < l2.length := by omega
      refine WC.skip (thenQ.normal ?_)
      refine WC.seq ?_
      refine WC.block ?_
      refine WC.seq ?_
      refine WC.regionB (fun _ => false) [(0, .held), (1, .any), (2, .any), (3, .any), (4, .held), (5, .held), (6, .any), (7, .any), (8, .any), (9, .any), (10, .held), (11, .any)] mixed (by kernel_rfl) (fun wS hS hheap => ?_)
      refine RL.held rfl rfl hS (fun _ hb9 => Y.load1 Tryd.underlying22 rfl rfl (cell_bel (hXL.cell 0) hb9)) ?_
      refine RL.any rfl rfl (fun _ => Y.move) ?_
      refine RL.yex rfl rfl (Y.idx Tryd.underlying22 ti38 (by decide) (hML.1) rfl (by omega) (by omega)) ?_
      rintro _ ⟨b20, o20, rfl, hc20⟩
      refine RL.any rfl rfl (fun _ => Y.fieldAddr fi38f0 ti9 (by decide) rfl (rfl) _) ?_
      refine RL.held rfl rfl hS (fun _ hb9 => Y.load1 Tryd.underlying9 rfl rfl (cell_bel (Cells.hd (mem_mr hil hc20)) hb9)) ?_
      refine RL.held rfl rfl hS (fun _ hb9 => Y.load1 Tryd.underlying22 rfl rfl (cell_bel (hXL.cell 0) hb9)) ?_
      refine RL.any rfl rfl (fun _ => Y.move) ?_
      refine RL.any rfl rfl (fun _ => Y.sub64 rfl rfl (by omega)) ?_
      refine RL.yex rfl rfl (Y.idx Tryd.underlying22 ti38 (by decide) (hML.1) rfl (by omega) (by omega)) ?_
      rintro _ ⟨b26, o26, rfl, hc26⟩
      refine RL.any rfl rfl (fun _ => Y.fieldAddr fi38f0 ti9 (by decide) rfl (rfl) _) ?_
      refine RL.held rfl rfl hS (fun _ hb9 => Y.load1 Tryd.underlying9 rfl rfl (cell_bel (Cells.hd (mem_mr him (by rw [e1] at hc26; exact hc26))) hb9)) ?_
      refine RL.any rfl rfl (fun _ => Y.eqS rfl rfl) ?_
      refine RL.nil (thenQ.normal ?_)
      refine WC.condD rfl (fun h1 => ?_) (fun h1 => ?_)
      · have hdup : rObj (l.map pr) = none := by
          refine rObj_dup (fun hn => ?_)
          have h2 := ((hp.map pr).map Prod.fst).nodup_iff.2 hn
          obtain ⟨q, rfl⟩ : ∃ q, i = q + 1 := ⟨i - 1, by omega⟩
          exact not_nodup (l := l2) hil h1 h2
        rw [hdup]
        have hZS := hZL.bel hS
        refine WC.seqR rfl ?_
        refine WL.y rfl (Y.build (cells := (vcell V.nil (.slice none 0 0) (.slice none 0 0)).toArray) (by kernel_rfl) _) ?_
        refine WL.eex rfl (E.storeAllK (us := vcell V.nil (.slice none 0 0) (.slice none 0 0)) ti26 rfl rfl rfl nil_one hZS rfl) ?_
        rintro _ wZ ⟨hBZ, hgZ⟩
        refine WL.y rfl (Y.assign) ?_
        refine WL.nil ?_
        refine WC.ret (inBlockQ.ret (thenQ.ret (thenQ.ret (inBlockQ.ret (thenQ.ret ?_)))))
        have kZ : Below w.heap.size w wZ := Below.stepG (Below.step (Below.step k11' kL) hS) hgZ (Nat.le_refl _)
        exact endQ.cell2 Tryd.underlying26 rfl ti26 (.inr rfl) rfl hBZ.cells ⟨_, rfl, VW.nil, kZ⟩
      · refine WC.skip (inBlockQ.normal (thenQ.normal ?_))
        refine WC.region rfl ?_
        refine WL.y rfl (Y.move) ?_
        refine WL.y rfl (Y.add64 rfl rfl (by omega)) ?_
        refine WL.y rfl (Y.assign) ?_
        refine WL.nil (thenQ.normal ?_)
        refine ⟨i + 1, by omega, by omega, by omega, fun j hj hji => ?_, rfl, Below.step kL hS, _, ov_mk ⟨rfl, rfl, rfl, rfl, trivial⟩⟩
        by_cases e : j + 1 = i
        · obtain rfl : i = j + 1 := e.symm
          exact h1
        · exact hdis j hj (by omega)
    · have hasc : Asc (l2.map pr) := asc_of hso (fun j hj => hdis j hj (by omega))
      have hob : rObj (l.map pr) = some (l2.map pr) := rObj_of hasc (hp.map pr)
      rw [hob]
      have hvat := vat_obj hML
      refine WC.exit (thenQ.exit (thenQ.exit (inBlockQ.hit (thenQ.normal ?_))))
      refine WC.seqR rfl ?_
      refine WL.y rfl (Y.load1 Tryd.underlying22 rfl rfl (hXL.cell 0)) ?_
      refine WL.y rfl (Y.build (cells := #[.int .i64 6, .bool false, .int .i64 0, strv [], .slice none 0 0, .slice av l.length cv]) (by kernel_rfl) _) ?_
      refine WL.call rfl (C.func go29) (copy_ret _ _ _ hvat) ?_
      rintro _ w33 ⟨c33, rfl, h33, hb33⟩
      refine WL.eex rfl (E.storeAllK (us := c33) ti26 h33.len rfl rfl h33.one (hZL.bel hb33) rfl) ?_
      rintro _ wZ ⟨hBZ, hgZ⟩
      refine WL.y rfl (Y.assign) ?_
      refine WL.nil ?_
      refine WC.ret ?_
      have kD : Below w.heap.size w w33 := Below.step (Below.step k11' kL) hb33
      have kZ : Below w.heap.size w wZ := Below.stepG kD hgZ (Nat.le_refl _)
      have sL := kL.size
      have A33 := VW.kept (Kept.of_grown (M := fun b => b = w.heap.size) hgZ rfl) (fun b h1 h2 => by omega) h33
      exact endQ.cell2 Tryd.underlying26 rfl (by rw [h33.len]; exact ti26) (.inr rfl) rfl hBZ.cells ⟨c33, rfl, A33.mono (fun b _ h => by omega), kZ⟩
end Go.Proofs.YthcppegkpkgnpaaDoor
