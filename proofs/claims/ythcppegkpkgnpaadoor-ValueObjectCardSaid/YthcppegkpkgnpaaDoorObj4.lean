/-
  The law ValueObject: walk; members as an argument: as the form reads them.
-/
import Derived.Test.YthcppegkpkgnpaaDoorObj3
import Derived.Test.YthcppegkpkgnpaaDoorVal15
namespace Go.Proofs.YthcppegkpkgnpaaDoor
open Go Go.RowKit Go.Cx
set_option linter.unusedVariables false
set_option maxHeartbeats 8000000
set_option maxRecDepth 20000
def MArg (w : World) (l : List MR) (a : Value) : Prop := MsAt w a l
section
variable {H : Type} {enc : TypeId × Value → H} {W : World} {b0 base : Nat} {spare : Nat → Bool} {held : Bool} {v : Value} {d : DataW H} {p : List MemPlace} {r : Reach}
theorem open_mem : ∀ (fuel : Nat) (cs : List Value) (x : DataW H × List MemPlace), DataW.trod enc Tryd.prog W base spare held fuel 38 cs = some x → Sz Tryd.prog 38 x.1 → ∃ m : MR, cs = mr m ∧ m.key.length ≤ 140737488351232 ∧ VAt W m.v m.c.c := by
  intro n cs x hx hs
  have k3 : Tryd.prog.cellsOf 9 = 1 := by kernel_rfl
  have k6 : Tryd.prog.cellsOf 26 = 6 := by kernel_rfl
  have hl7 : cs.length = 7 := (open_len Tryd.underlying38 hx).trans (by kernel_rfl)
  have hqq := open_field fi38f0 hx hs
  obtain ⟨q0, y0, -, t0, s0⟩ := hqq
  have hqq := open_field fi38f1 hx hs
  obtain ⟨q1, y1, b1, t1, s1⟩ := hqq
  rw [k3] at t0
  rw [k6] at t1
  match cs, hl7 with
  | a :: cs, hl =>
    simp only [List.length_cons] at hl
    simp only [List.drop_zero, List.drop_succ_cons, List.take_succ_cons, List.take_zero] at t0 t1
    rw [List.take_of_length_le (by omega)] at t1
    have hqq := open_string_in Tryd.underlying9 t0 s0
    obtain ⟨s, es, hs0⟩ := hqq
    have hqq := open_vat _ _ _ t1 s1
    obtain ⟨v, hv⟩ := hqq
    have es := cons1 es
    subst es
    exact ⟨⟨s, ⟨cs, hv.len⟩, v, hv.one⟩, rfl, hs0, hv⟩
set_option maxRecDepth 100000 in
theorem openT22 (hval : Value.okWide Tryd.prog W r b0 22 v) (h : DataW.Trod enc Tryd.prog W base spare held 22 v d p) (hsz : Sz Tryd.prog 22 d) : ∃ x : List MR, MArg W x v := by
  have hqq := Go.WideShapes.okWide_slice Tryd.underlying22 hval
  obtain ⟨a, len, cap, rfl⟩ := hqq
  obtain ⟨fuel, hf⟩ := h
  have hqq := open_slice_of (α := MR) (encE := mr) (Good := fun m => m.key.length ≤ 140737488351232 ∧ VAt W m.v m.c.c) Tryd.underlying22 (show Tryd.prog.cellsOf 38 = 7 by kernel_rfl) (by decide) mr_len (fun n hn cs x hx hs => open_mem n cs x hx hs) hf hsz
  obtain ⟨v', l, e, hs, hg, hz⟩ := hqq
  have e1 : Value.slice a len cap = v' := cons1 e
  have b5 : Tryd.prog.bytesOf 38 = 104 := by kernel_rfl
  have hr : reachBytes = 140737488351232 := rfl
  rw [b5] at hz
  rw [e1]
  exact ⟨l, hs, hg, by omega⟩
end
/-- a value of members alone -/
def VO0 (qs : List KV) : V := .mk 0 false 0 [] [] (qs.map Prod.fst) (qs.map Prod.snd)
theorem vat_own {w : World} {s : Value} {l : List MR} (h : MsAt w s l) : VAt w (VO0 (l.map pr)) (vcell (VO0 (l.map pr)) (.slice none 0 0) s) := by
  have e1 : (l.map pr).map Prod.fst = l.map MR.key := by rw [List.map_map]; rfl
  have e2 : (l.map pr).map Prod.snd = l.map MR.v := by rw [List.map_map]; rfl
  obtain ⟨h1, h2, h3⟩ := h
  refine VAt.mk (lc := []) (oc := l.map MR.c) ⟨by simp [VO0, V.k], by simp [VO0, V.i], by simp [VO0, V.t], by simp [VO0, V.l], ?_, ?_, ?_⟩ rfl (fun j h => absurd h (by simp [VO0, V.l])) SlK.nil ?_ ?_ ?_
  · show ((l.map pr).map Prod.snd).length ≤ _
    rw [List.length_map, List.length_map]; exact h3
  · show ((l.map pr).map Prod.fst).length = ((l.map pr).map Prod.snd).length
    simp
  · show ∀ x ∈ (l.map pr).map Prod.fst, _
    rw [e1]
    intro x hx
    have hqq := List.mem_map.1 hx
    obtain ⟨m, hm, rfl⟩ := hqq
    exact (h2 m hm).1
  · show (l.map MR.c).length = ((l.map pr).map Prod.snd).length
    rw [List.length_map, List.length_map, List.length_map]
  · intro j hj hj'
    have hjl : j < l.length := by rw [List.length_map] at hj'; exact hj'
    have key : ∀ (j : Nat) (h1 : j < ((l.map pr).map Prod.snd).length) (h2 : j < l.length), ((l.map pr).map Prod.snd)[j] = l[j].v := by
      intro j h1 h2
      simp [pr]
    have ev : (VO0 (l.map pr)).vs[j] = l[j].v := key j hj hjl
    rw [ev, List.getElem_map]
    exact (h2 _ (List.getElem_mem hjl)).2
  · show SlK w 7 s ((l.map pr).map Prod.snd).length (mcells ((l.map pr).map Prod.fst) (l.map MR.c))
    rw [e1, mcells_mr, List.length_map, List.length_map]
    exact h1
theorem mk_ms {w : World} : ∀ (qs : List KV) (oc : List VC), oc.length = qs.length → (∀ j (h : j < qs.length) (h' : j < oc.length), VAt w qs[j].2 oc[j].c) → ∃ l : List MR, l.map pr = qs ∧ l.map MR.c = oc ∧ ∀ m ∈ l, VAt w m.v m.c.c
  | [], [], _, _ => ⟨[], rfl, rfl, fun m hm => absurd hm (by simp)⟩
  | q :: qs, c :: oc, hl, h => by
    have hqq := mk_ms qs oc (by simpa using hl) (fun j hj hj' => h (j + 1) (by simpa using hj) (by simpa using hj'))
    obtain ⟨l, h1, h2, h3⟩ := hqq
    have h0 := h 0 (by simp) (by simp)
    have h0' : VAt w q.2 c.c := h0
    refine ⟨⟨q.1, c, q.2, h0'.one⟩ :: l, by rw [List.map_cons, h1]; rfl, by rw [List.map_cons, h2], fun m hm => ?_⟩
    rcases List.mem_cons.1 hm with rfl | hm
    · exact h0'
    · exact h3 m hm
/-- the members of a copy -/
theorem ms_of {w : World} {M : Nat → Prop} {qs : List KV} {c : List Value} (h : VW w M (VO0 qs) c) : ∃ ov l, c[5]? = some ov ∧ Go.Cx.One ov = true ∧ MsAt w ov l ∧ l.map pr = qs ∧ VW w M (VO0 qs) (vcell (VO0 qs) (.slice none 0 0) ov) := by
  have hqq := h.parts
  obtain ⟨lv, ov, hl, hm, ok, rfl⟩ := hqq
  have hone := hm.one
  have hvw : VW w M (VO0 qs) (vcell (VO0 qs) (.slice none 0 0) ov) := VW.of ok LW.nil hm
  obtain ⟨bo, oc, h1, h2, h3, h4⟩ := hm
  have key : ∀ (j : Nat) (h1 : j < (VO0 qs).vs.length) (h2 : j < qs.length), (VO0 qs).vs[j] = qs[j].2 := by
    intro j h1 h2
    have : ∀ (h1 : j < (qs.map Prod.snd).length), (qs.map Prod.snd)[j] = qs[j].2 := fun h1 => by simp
    exact this h1
  have hvl : (VO0 qs).vs.length = qs.length := by show (qs.map Prod.snd).length = _; simp
  obtain ⟨l, e1, e2, e3⟩ := mk_ms (w := w) qs oc (by omega) (fun j hj hj' => by
    rw [← key j (by omega) hj]
    exact (h4 j (by omega) hj').at)
  have hll : l.length = qs.length := by rw [← e1, List.length_map]
  refine ⟨ov, l, rfl, hone, ⟨?_, fun m hm => ⟨?_, e3 m hm⟩, ?_⟩, e1, hvw⟩
  · have h5 := h3.sl
    have e4 : (VO0 qs).ks = l.map MR.key := by
      show qs.map Prod.fst = _
      rw [← e1, List.map_map]; rfl
    rw [e4, ← e2, mcells_mr, hvl, ← hll] at h5
    exact h5
  · refine ok.kt m.key ?_
    show m.key ∈ qs.map Prod.fst
    rw [← e1, List.map_map]
    exact List.mem_map.2 ⟨m, hm, rfl⟩
  · have := ok.o
    omega
theorem memF_has {k : List UInt8} {v : V} : ∀ {qs : List KV}, Asc qs → (k, v) ∈ qs → memF k (qs.map Prod.fst) (qs.map Prod.snd) = (v, 0)
  | [], _, h => by simp at h
  | q :: qs, ha, h => by
    unfold Asc at ha
    rw [List.pairwise_cons] at ha
    rw [List.map_cons, List.map_cons, memF]
    rcases List.mem_cons.1 h with rfl | h
    · rw [if_pos rfl]
    · rw [if_neg (fun e => by have := ha.1 _ h; rw [e] at this; exact List.lt_irrefl _ this)]
      exact memF_has ha.2 h
theorem memM_ret {qs : List KV} (k : List UInt8) (v : V) (ha : Asc qs) (hm : (k, v) ∈ qs) (w : World) (c : List Value) (hv : VAt w (valO (some qs)) c) : Ret Tryd.prog 16 [.agg c.toArray, strv k].toArray w fun r w' => ∃ c', r = .tuple #[.agg c'.toArray, .int .i64 0] ∧ VW w' (fun b => w.heap.size ≤ b) v c' ∧ Below w.heap.size w w' := by
  have e : memV (valO (some qs)) k = (v, 0) := by
    unfold memV
    exact (if_pos rfl).trans (memF_has ha hm)
  have h1 := member_ret (valO (some qs)) k w c hv
  rw [e] at h1
  exact h1
theorem object_retE {w : World} {s : Value} {l : List MR} {o : Option (List KV)} (h : MsAt w s l) (e : rObj (l.map pr) = o) : Ret Tryd.prog 12 [s].toArray w (ObjR o w) := e ▸ object_ret w s l h
theorem robject_retE {w : World} {s : Value} {l : List MR} {o : Option (List KV)} (h : MsAt w s l) (e : rObj (l.map pr) = o) : Ret Tryd.prog 13 [s].toArray w (ObjR o w) := e ▸ robject_ret w s l h
theorem valueObject_ret (w : World) (a : Value) (l : List MR) (hx : MArg w l a) (hT : Tabs w) : Ret Tryd.prog 3 [a].toArray w fun r w' => r = .bool true ∧ Below w.heap.size w w' := by
  have hm : MsAt w a l := hx
  have hlen := hm.2.2
  have hqq := hm.1
  obtain ⟨-, -, av, cv, rfl, -⟩ := hqq
  have hvo := vat_own hm
  obtain ⟨o, ho⟩ : ∃ x, rObj (l.map pr) = x := ⟨_, rfl⟩
  refine Ret.of (n := 71) (rs := #[.tmp 2]) Tryd.func3 rfl rfl rfl (by simp) ?_
  refine WC.seqR rfl ?_
  refine WL.y rfl (Y.assign) ?_
  refine WL.nil ?_
  refine WC.seqR rfl ?_
  refine WL.y rfl (Y.move) ?_
  refine WL.y rfl (Y.build (cells := (vcell (VO0 (l.map pr)) (.slice none 0 0) (.slice av l.length cv)).toArray) (by kernel_rfl) _) ?_
  refine WL.call rfl (C.func go11) (rcopy_ret _ _ _ hvo) ?_
  rintro _ w14 ⟨c14, rfl, h14, hb14⟩
  have hms := ms_of h14
  obtain ⟨ov, l1, e5, hov, hM1, el1, hW1⟩ := hms
  refine WL.y rfl (Y.field1 fi26f5 Tryd.underlying22 rfl rfl (by simpa using e5) _) ?_
  refine WL.y rfl (Y.assign) ?_
  refine WL.nil ?_
  have hqq := hM1.1
  obtain ⟨-, -, a1, c1, rfl, -⟩ := hqq
  have ho1 : rObj (l1.map pr) = o := by rw [el1]; exact ho
  have hWm := hW1.mono (M' := fun b => w.heap.size ≤ b ∧ b < w14.heap.size) (fun b hb h => ⟨h, hb⟩)
  clear hW1 h14
  refine WC.seqR rfl ?_
  refine WL.y rfl (Y.move) ?_
  refine WL.call rfl (C.func go12) (object_retE hM1 ho1) ?_
  rintro _ w18 ⟨c18, rfl, h18, hb18⟩
  refine WL.y rfl (Y.move) ?_
  refine WL.y rfl (Y.extract rfl rfl) ?_
  refine WL.y rfl (Y.extract rfl rfl) ?_
  refine WL.eex rfl (E.allocX ti26) ?_
  rintro _ w4 ⟨rfl, hB4, hb4⟩
  refine WL.eex rfl (E.storeAllK (us := c18) ti26 h18.len rfl rfl h18.one hB4 rfl) ?_
  rintro _ w4s ⟨hB4', hg4⟩
  refine WL.y rfl (Y.assign) ?_
  refine WL.nil ?_
  have l4 := (show Blk w4 _ _ _ from hB4).lt
  have s14 := hb14.size
  have s18 := hb18.size
  have s4 := hb4.size
  have t4 := hg4.size
  have b4 : Below w14.heap.size w14 w4s := Below.step hb18 (Below.stepG hb4 hg4 (Nat.le_refl _))
  have k4 : Below w.heap.size w w4s := Below.step hb14 b4
  have A18 : VW w4s (fun b => w14.heap.size ≤ b ∧ b < w18.heap.size) (valO o) c18 := VW.kept (Kept.of_grown (M := fun b => b = w18.heap.size) hg4 rfl) (fun b h1 h2 => by omega) ((h18.mono (fun b h1 h2 => ⟨h2, h1⟩)).bel hb4)
  have W4 := hWm.bel b4
  clear hB4 h18 hWm
  refine WC.seqR rfl ?_
  refine WL.y rfl (Y.move) ?_
  refine WL.call rfl (C.func go13) (robject_retE (hm.bel k4) ho) ?_
  rintro _ w23 ⟨c23, rfl, h23, hb23⟩
  refine WL.y rfl (Y.move) ?_
  refine WL.y rfl (Y.extract rfl rfl) ?_
  refine WL.y rfl (Y.extract rfl rfl) ?_
  refine WL.eex rfl (E.allocX ti26) ?_
  rintro _ w6 ⟨rfl, hB6, hb6⟩
  refine WL.eex rfl (E.storeAllK (us := c23) ti26 h23.len rfl rfl h23.one hB6 rfl) ?_
  rintro _ w6s ⟨hB6', hg6⟩
  refine WL.y rfl (Y.assign) ?_
  refine WL.nil ?_
  have l6 := (show Blk w6 _ _ _ from hB6).lt
  have s23 := hb23.size
  have s6 := hb6.size
  have t6 := hg6.size
  have b6 : Below w4s.heap.size w4s w6s := Below.step hb23 (Below.stepG hb6 hg6 (Nat.le_refl _))
  have k6 : Below w.heap.size w w6s := Below.step k4 b6
  have A18' := A18.bel b6
  have W6 := W4.bel b6
  have B4' := hB4'.bel b6
  have A23 : VW w6s (fun b => w4s.heap.size ≤ b ∧ b < w23.heap.size) (valO o) c23 := VW.kept (Kept.of_grown (M := fun b => b = w23.heap.size) hg6 rfl) (fun b h1 h2 => by omega) ((h23.mono (fun b h1 h2 => ⟨h2, h1⟩)).bel hb6)
  clear hB6 h23 A18 W4 hB4'
  refine WC.seqR rfl ?_
  refine WL.y rfl (Y.move) ?_
  refine WL.y rfl (Y.build (cells := (vcell (VO0 (l.map pr)) (.slice none 0 0) (.slice a1 l1.length c1)).toArray) (by kernel_rfl) _) ?_
  refine WL.eex rfl (E.allocX ti26) ?_
  rintro _ w8 ⟨rfl, hB8, hb8⟩
  refine WL.eex rfl (E.storeAllK (us := vcell (VO0 (l.map pr)) (.slice none 0 0) (.slice a1 l1.length c1)) ti26 rfl rfl rfl (one_vcell rfl rfl) hB8 rfl) ?_
  rintro _ w8s ⟨hB8', hg8⟩
  refine WL.nil ?_
  have l8 := (show Blk w8 _ _ _ from hB8).lt
  have s8 := hb8.size
  have t8 := hg8.size
  have b8 : Below w6s.heap.size w6s w8s := Below.stepG hb8 hg8 (Nat.le_refl _)
  have k8 : Below w.heap.size w w8s := Below.step k6 b8
  have A18'' := A18'.bel b8
  have W8 := W6.bel b8
  have B4'' := B4'.bel b8
  have A23' := A23.bel b8
  have B6'' := hB6'.bel b8
  clear hB8 A18' W6 B4' A23 hB6'
  refine WC.seqR rfl ?_
  refine WL.call rfl (C.func go14) (spoilt_ret hB8' W8) ?_
  rintro _ w28 k28
  refine WL.nil ?_
  refine WC.seq ?_
  have k28' : Below w.heap.size w w28 := Below.kept k8 k28.kept (fun b h => h.1) (Nat.le_refl _)
  have s28 := k28.kept.size
  have D18 := VW.kept k28.kept (fun b h1 h2 => by omega) A18''
  have D23 := VW.kept k28.kept (fun b h1 h2 => by omega) A23'
  have D4 : Blk w28 w18.heap.size 26 c18 := B4''.kept k28.kept (by omega)
  have D6 : Blk w28 w23.heap.size 26 c23 := B6''.kept k28.kept (by omega)
  clear A18'' A23' B4'' B6'' W8 hB8' k8
  refine WC.seqR rfl ?_
  refine WL.y rfl (Y.move) ?_
  refine WL.y rfl (Y.move) ?_
  refine WL.y rfl (Y.dF (Y.nei rfl rfl) (fun h => h rfl)) ?_
  refine WL.y rfl (Y.move) ?_
  refine WL.y rfl (Y.loadK Tryd.underlying26 rfl ti26 (D18.len) rfl (D4.cells)) ?_
  refine WL.y rfl (Y.loadK Tryd.underlying26 rfl ti26 (D23.len) rfl (D6.cells)) ?_
  refine WL.call rfl (C.func go15) (requalT_ret _ _ _ _ D18.at D23.at) ?_
  rintro _ w35 ⟨rfl, hb35⟩
  refine WL.y rfl (Y.bF (Y.not rfl) (rfl)) ?_
  refine WL.y rfl (Y.pickF rfl) ?_
  refine WL.nil ?_
  refine WC.condF (rfl) ?_
  refine WC.skip (thenQ.normal ?_)
  refine WC.seq ?_
  refine WC.seqR rfl ?_
  refine WL.y rfl (Y.assign) ?_
  refine WL.nil ?_
  refine WC.block ?_
  have k35 := Below.step k28' hb35
  have hm35 := hm.bel k35
  have E18 := D18.at.bel hb35
  have E4 := D4.bel hb35
  have hn4 : w18.heap.size < w35.heap.size := E4.lt
  clear D18 D23 D4 D6 k28 k28' hb35
  cases o with
  | none =>
    refine WC.loop (fun _ : Unit => 0) (fun _ f ds w' => ds = [] ∧ w35 = w' ∧ ∃ J, f = Go.Cx.ov J [(0, .slice av l.length cv), (7, .int .i64 8), (9, .int .i64 0)]) () ?_ ?_
    · exact ⟨rfl, rfl, _, ov_mk ⟨rfl, rfl, rfl, trivial⟩⟩
    · rintro _ _ _ _ ⟨rfl, rfl, J, rfl⟩
      refine WC.seq ?_
      by_cases c0 : 0 < l.length
      · refine WC.seqR rfl ?_
        refine WL.y rfl (Y.move) ?_
        refine WL.y rfl (Y.move) ?_
        refine WL.y rfl (Y.lenSl Tryd.underlying22 (hm35.1) _) ?_
        refine WL.y rfl (Y.dT (Y.lss rfl rfl) (by omega)) ?_
        refine WL.y rfl (Y.move) ?_
        refine WL.y rfl (Y.move) ?_
        refine WL.y rfl (Y.dF (Y.eqi rfl rfl) (by decide)) ?_
        refine WL.y rfl (Y.pickT rfl) ?_
        refine WL.nil ?_
        refine WC.condF (rfl) ?_
        refine WC.exit (thenQ.exit (thenQ.exit (inBlockQ.hit (thenQ.normal ?_))))
        refine WC.seqR rfl ?_
        refine WL.call rfl (C.func go17) (known_ret _ (hT.bel k35)) ?_
        rintro _ w70 ⟨rfl, hb70⟩
        refine WL.y rfl (Y.assign) ?_
        refine WL.nil ?_
        refine WC.ret (endQ.one (.inr rfl) ?_)
        exact ⟨rfl, Below.step k35 hb70⟩
      · skip
        skip
        refine WC.seqR rfl ?_
        refine WL.y rfl (Y.move) ?_
        refine WL.y rfl (Y.move) ?_
        refine WL.y rfl (Y.lenSl Tryd.underlying22 (hm35.1) _) ?_
        refine WL.y rfl (Y.dF (Y.lss rfl rfl) (by omega)) ?_
        refine WL.y rfl (Y.move) ?_
        refine WL.off rfl ?_
        refine WL.off rfl ?_
        refine WL.y rfl (Y.pickF rfl) ?_
        refine WL.nil ?_
        refine WC.condF (rfl) ?_
        refine WC.exit (thenQ.exit (thenQ.exit (inBlockQ.hit (thenQ.normal ?_))))
        refine WC.seqR rfl ?_
        refine WL.call rfl (C.func go17) (known_ret _ (hT.bel k35)) ?_
        rintro _ w70 ⟨rfl, hb70⟩
        refine WL.y rfl (Y.assign) ?_
        refine WL.nil ?_
        refine WC.ret (endQ.one (.inr rfl) ?_)
        exact ⟨rfl, Below.step k35 hb70⟩
  | some qs =>
    have hqq := rObj_some _ _ ho
    obtain ⟨hasc, hperm⟩ := hqq
    skip
    refine WC.loop (fun i => l.length - i) (fun i f ds w' => i ≤ l.length ∧ ds = [] ∧ Below w35.heap.size w35 w' ∧ ∃ J, f = Go.Cx.ov J [(0, .slice av l.length cv), (4, .pointer (some ⟨w18.heap.size, 0, none⟩)), (7, .int .i64 0), (9, .int .i64 (i : Int))]) 0 ?_ ?_
    · exact ⟨Nat.zero_le _, rfl, Below.refl _ _, _, ov_mk ⟨rfl, rfl, rfl, rfl, trivial⟩⟩
    · rintro i _ _ wL ⟨hi, rfl, kL, J, rfl⟩
      have hmL := hm35.bel kL
      have EL := E18.bel kL
      have E4L := E4.bel kL
      refine WC.seq ?_
      by_cases c0 : i < l.length
      · have hmem : (l[i].key, l[i].v) ∈ qs := hperm.mem_iff.2 (List.mem_map.2 ⟨l[i], List.getElem_mem c0, rfl⟩)
        have hvi := (hmL.2.1 _ (List.getElem_mem c0)).2
        refine WC.seqR rfl ?_
        refine WL.y rfl (Y.move) ?_
        refine WL.y rfl (Y.move) ?_
        refine WL.y rfl (Y.lenSl Tryd.underlying22 (hmL.1) _) ?_
        refine WL.y rfl (Y.dT (Y.lss rfl rfl) (by omega)) ?_
        refine WL.y rfl (Y.move) ?_
        refine WL.y rfl (Y.move) ?_
        refine WL.y rfl (Y.dT (Y.eqi rfl rfl) (rfl)) ?_
        refine WL.y rfl (Y.pickT rfl) ?_
        refine WL.nil ?_
        refine WC.condT (rfl) ?_
        refine WC.skip (thenQ.normal ?_)
        refine WC.seq ?_
        refine WC.block ?_
        refine WC.seq ?_
        refine WC.cut (fun f ds w' => ds = [] ∧ Below wL.heap.size wL w' ∧ ∃ c10 bX J, VAt w' l[i].v c10 ∧ Blk w' bX 26 c10 ∧ f = Go.Cx.ov J [(0, .slice av l.length cv), (4, .pointer (some ⟨w18.heap.size, 0, none⟩)), (7, .int .i64 0), (9, .int .i64 (i : Int)), (10, .pointer (some ⟨bX, 0, none⟩)), (11, .int .i64 0)]) ?_ ?_
        · refine WC.regionTB (fun i => Nat.beq i 6 || Nat.beq i 11) (.one 0 .held (.one 1 .any (.one 2 .any (.one 3 .any (.one 4 .any (.one 5 .held (.two 6 10 (.one 7 .any (.one 8 .any (.one 9 .any (.one 10 .seq (.one 11 .seq (.one 12 .any .nil)))))) (.one 6 .seq (.one 7 .any (.one 8 .any (.one 9 .any (.one 11 .seq (.one 12 .any .nil))))))))))))) mixed (by kernel_rfl) (fun w11 hS11 hheap => ?_)
          refine RT.held rfl rfl hS11 (fun _ hb9 => Y.loadK Tryd.underlying26 rfl ti26 (EL.len) rfl (Cells.bel E4L.cells hb9)) ?_
          refine RT.any rfl rfl (fun _ => Y.move) ?_
          refine RT.any rfl rfl (fun _ => Y.move) ?_
          refine RT.yex rfl rfl (Y.idx Tryd.underlying22 ti38 (by decide) (hmL.1) rfl (by omega) (by omega)) ?_
          rintro _ ⟨b52, o52, rfl, hc52⟩
          refine RT.any rfl rfl (fun _ => Y.fieldAddr fi38f0 ti9 (by decide) rfl (rfl) _) ?_
          refine RT.held rfl rfl hS11 (fun _ hb9 => Y.load1 Tryd.underlying9 rfl rfl (cell_bel (Cells.hd (mem_mr c0 hc52)) hb9)) ?_
          refine RT.two ?_ ?_
          · refine RT.call rfl rfl (C.func go16) (memM_ret _ _ hasc hmem _ _ (by first | exact EL.bel (Below.step hS11 hb10) | exact EL.bel hS11)) ?_
            rintro _ w55 ⟨c55, rfl, h55, hb55⟩
            refine ⟨.inl rfl, ?_⟩
            refine RT.any rfl rfl (fun _ => Y.move) ?_
            refine RT.any rfl rfl (fun _ => Y.extract rfl rfl) ?_
            refine RT.any rfl rfl (fun _ => Y.extract rfl rfl) ?_
            refine RT.eex rfl rfl (E.allocX ti26) ?_ ?_
            · exact fun _ _ h9 => .inr (fun h => Below.step h h9.2.2)
            rintro _ w10 ⟨rfl, hB10, hb10⟩
            refine RT.eex rfl rfl (E.storeAllK (us := c55) ti26 h55.len rfl rfl h55.one (by first | exact hB10.bel hb55 | exact hB10) rfl) ?_ ?_
            · exact fun _ _ _ => .inl rfl
            rintro _ w10s ⟨hB10', hg10⟩
            refine RT.any rfl rfl (fun _ => Y.assign) ?_
            refine RT.nil (thenQ.normal ?_)
            exact ⟨rfl, (by first | exact Below.stepG (Below.step (Below.step hS11 hb55) hb10) hg10 (Nat.le_trans hS11.size hb55.size) | exact Below.stepG (Below.step (Below.step hS11 hb10) hb55) hg10 hS11.size), c55, _, _, (by first | exact (VW.kept (Kept.of_grown (M := fun b => b = w55.heap.size) hg10 rfl) (fun b h1 h2 => by omega) ((h55.mono (M' := fun b => w11.heap.size ≤ b ∧ b < w55.heap.size) (fun b h1 h2 => ⟨h2, h1⟩)).bel hb10)).at | exact (VW.kept (Kept.of_grown (M := fun b => b = w11.heap.size) hg10 rfl) (fun b h1 h2 => by have := (show Blk w10 _ _ _ from hB10).lt; omega) h55).at), hB10', ov_mk ⟨rfl, rfl, rfl, rfl, rfl, rfl, trivial⟩⟩
          · refine RT.eex rfl rfl (E.allocX ti26) ?_ ?_
            · exact fun _ _ h9 => .inr (fun h => Below.step h h9.2.2)
            rintro _ w10 ⟨rfl, hB10, hb10⟩
            refine RT.call rfl rfl (C.func go16) (memM_ret _ _ hasc hmem _ _ (by first | exact EL.bel (Below.step hS11 hb10) | exact EL.bel hS11)) ?_
            rintro _ w55 ⟨c55, rfl, h55, hb55⟩
            refine ⟨.inl rfl, ?_⟩
            refine RT.any rfl rfl (fun _ => Y.move) ?_
            refine RT.any rfl rfl (fun _ => Y.extract rfl rfl) ?_
            refine RT.any rfl rfl (fun _ => Y.extract rfl rfl) ?_
            refine RT.eex rfl rfl (E.storeAllK (us := c55) ti26 h55.len rfl rfl h55.one (by first | exact hB10.bel hb55 | exact hB10) rfl) ?_ ?_
            · exact fun _ _ _ => .inl rfl
            rintro _ w10s ⟨hB10', hg10⟩
            refine RT.any rfl rfl (fun _ => Y.assign) ?_
            refine RT.nil (thenQ.normal ?_)
            exact ⟨rfl, (by first | exact Below.stepG (Below.step (Below.step hS11 hb55) hb10) hg10 (Nat.le_trans hS11.size hb55.size) | exact Below.stepG (Below.step (Below.step hS11 hb10) hb55) hg10 hS11.size), c55, _, _, (by first | exact (VW.kept (Kept.of_grown (M := fun b => b = w55.heap.size) hg10 rfl) (fun b h1 h2 => by omega) ((h55.mono (M' := fun b => w11.heap.size ≤ b ∧ b < w55.heap.size) (fun b h1 h2 => ⟨h2, h1⟩)).bel hb10)).at | exact (VW.kept (Kept.of_grown (M := fun b => b = w11.heap.size) hg10 rfl) (fun b h1 h2 => by have := (show Blk w10 _ _ _ from hB10).lt; omega) h55).at), hB10', ov_mk ⟨rfl, rfl, rfl, rfl, rfl, rfl, trivial⟩⟩
        · rintro _ _ wE ⟨rfl, kE, c10, bX, J2, hv10, hB10, rfl⟩
          have hmE := hmL.bel kE
          have hvE := (hmE.2.1 _ (List.getElem_mem c0)).2
          refine WC.seq ?_
          refine WC.regionB (fun i => Nat.beq i 9) [(0, .any), (1, .any), (2, .any), (3, .held), (4, .any), (5, .any), (6, .any), (7, .any), (8, .held), (9, .seq), (10, .any), (11, .any)] mixed (by kernel_rfl) (fun w12 hS12 hheap => ?_)
          refine RL.any rfl rfl (fun _ => Y.move) ?_
          refine RL.any rfl rfl (fun _ => Y.dF (Y.nei rfl rfl) (fun h => h rfl)) ?_
          refine RL.any rfl rfl (fun _ => Y.move) ?_
          refine RL.held rfl rfl hS12 (fun _ hb9 => Y.loadK Tryd.underlying26 rfl ti26 (hv10.len) rfl (Cells.bel hB10.cells hb9)) ?_
          refine RL.any rfl rfl (fun _ => Y.move) ?_
          refine RL.any rfl rfl (fun _ => Y.move) ?_
          refine RL.yex rfl rfl (Y.idx Tryd.underlying22 ti38 (by decide) (hmE.1) rfl (by omega) (by omega)) ?_
          rintro _ ⟨b64, o64, rfl, hc64⟩
          refine RL.any rfl rfl (fun _ => Y.fieldAddr fi38f1 ti26 (by decide) rfl (rfl) _) ?_
          refine RL.held rfl rfl hS12 (fun _ hb9 => Y.loadK Tryd.underlying26 rfl ti26 (l[i].c.h) rfl (Cells.bel (Cells.tl (mem_mr c0 hc64)) hb9)) ?_
          refine RL.call rfl rfl (C.func go15) (requalT_ret _ _ _ _ (hv10.bel hS12) (hvE.bel hS12)) ?_
          rintro _ w67 ⟨rfl, hb67⟩
          refine ⟨.inl rfl, ?_⟩
          refine RL.any rfl rfl (fun _ => Y.not rfl) ?_
          refine RL.any rfl rfl (fun _ => Y.pickF rfl) ?_
          refine RL.nil (thenQ.normal ?_)
          refine WC.condF (rfl) ?_
          refine WC.skip (inBlockQ.normal (thenQ.normal ?_))
          refine WC.region rfl ?_
          refine WL.y rfl (Y.move) ?_
          refine WL.y rfl (Y.add64 rfl rfl (by omega)) ?_
          refine WL.y rfl (Y.assign) ?_
          refine WL.nil (thenQ.normal ?_)
          exact ⟨i + 1, by omega, by omega, rfl, Below.step (Below.step (Below.step kL kE) hS12) hb67, _, ov_mk ⟨rfl, rfl, rfl, rfl, trivial⟩⟩
      · have hie : i = l.length := by omega
        skip
        refine WC.seqR rfl ?_
        refine WL.y rfl (Y.move) ?_
        refine WL.y rfl (Y.move) ?_
        refine WL.y rfl (Y.lenSl Tryd.underlying22 (hmL.1) _) ?_
        refine WL.y rfl (Y.dF (Y.lss rfl rfl) (by omega)) ?_
        refine WL.y rfl (Y.move) ?_
        refine WL.off rfl ?_
        refine WL.off rfl ?_
        refine WL.y rfl (Y.pickF rfl) ?_
        refine WL.nil ?_
        refine WC.condF (rfl) ?_
        refine WC.exit (thenQ.exit (thenQ.exit (inBlockQ.hit (thenQ.normal ?_))))
        refine WC.seqR rfl ?_
        refine WL.call rfl (C.func go17) (known_ret _ ((hT.bel k35).bel kL)) ?_
        rintro _ w70 ⟨rfl, hb70⟩
        refine WL.y rfl (Y.assign) ?_
        refine WL.nil ?_
        refine WC.ret (endQ.one (.inr rfl) ?_)
        exact ⟨rfl, Below.step (Below.step k35 kL) hb70⟩
end Go.Proofs.YthcppegkpkgnpaaDoor
