/-
  ref02: Object: walk.
-/
import Derived.Test.YthcppegkpkgnpaaDoorObj2
namespace Go.Proofs.YthcppegkpkgnpaaDoor
open Go Go.RowKit Go.Cx
set_option linter.unusedVariables false
set_option maxHeartbeats 8000000
set_option maxRecDepth 20000
theorem slt_no {a b : List UInt8} (h : ¬ a < b) : slt a b = false := by
  cases e : slt a b with
  | false => rfl
  | true => exact absurd (slt_iff.1 e) h
theorem rObj_fold : ∀ (ps : List KV), ps.foldl (fun o p => o.bind (insO p)) none = none
  | [] => rfl
  | p :: ps => rObj_fold ps
theorem rObj_stays {a b : List KV} (h : rObj a = none) : rObj (a ++ b) = none := by
  unfold rObj at *
  rw [List.foldl_append, h]
  exact rObj_fold b
theorem rObj_take {ps : List KV} {i : Nat} (h : i < ps.length) : rObj (ps.take (i + 1)) = (rObj (ps.take i)).bind (insO ps[i]) := by
  rw [List.take_succ_eq_append_getElem h, rObj_snoc]
/-- members in rows of one's own -/
def OwnMs (w : World) (B bo : Nat) (r : Value) (l : List MR) : Prop := OwnK w bo 38 7 r l.length (l.flatMap mr) ∧ (r = .slice none 0 0 ∨ B ≤ bo) ∧ ∀ m ∈ l, m.key.length ≤ 140737488351232 ∧ VW w (fun b => B ≤ b) m.v m.c.c
theorem OwnMs.bel {w w' : World} {B bo : Nat} {r : Value} {l : List MR} (h : OwnMs w B bo r l) (hb : Below w.heap.size w w') : OwnMs w' B bo r l := ⟨h.1.bel hb, h.2.1, fun m hm => ⟨(h.2.2 m hm).1, (h.2.2 m hm).2.bel hb⟩⟩
theorem OwnMs.kept {w w' : World} {M : Nat → Prop} {B bo : Nat} {r : Value} {l : List MR} (h : OwnMs w B bo r l) (hk : Kept M w w') (hM : ∀ b, B ≤ b → ¬ M b) : OwnMs w' B bo r l := by
  refine ⟨?_, h.2.1, fun m hm => ⟨(h.2.2 m hm).1, VW.kept hk hM (h.2.2 m hm).2⟩⟩
  rcases h.2.1 with e | e
  · have := h.1
    rw [e] at this ⊢
    exact own_nilAny this
  · exact h.1.kept hk (hM _ e)
theorem OwnMs.at {w : World} {B bo : Nat} {r : Value} {l : List MR} (h : OwnMs w B bo r l) (hl : l.length ≤ 1353245080300) : MsAt w r l := ⟨h.1.sl, fun m hm => ⟨(h.2.2 m hm).1, (h.2.2 m hm).2.at⟩, hl⟩
theorem OwnMs.vw {w : World} {B bo : Nat} {r : Value} {l : List MR} (h : OwnMs w B bo r l) (hl : l.length ≤ 1353245080300) : VW w (fun b => B ≤ b) (valO (some (l.map pr))) (vcell (valO (some (l.map pr))) (.slice none 0 0) r) := by
  have e1 : (l.map pr).map Prod.fst = l.map MR.key := by rw [List.map_map]; rfl
  have e2 : (l.map pr).map Prod.snd = l.map MR.v := by rw [List.map_map]; rfl
  refine VW.of (vat_obj (h.at hl)).ok LW.nil ?_
  show MW w _ ((l.map pr).map Prod.fst) ((l.map pr).map Prod.snd) r
  rw [e1, e2]
  refine ⟨bo, l.map MR.c, by simp, h.2.1, ?_, fun j hj hj' => ?_⟩
  · rw [mcells_mr, List.length_map]
    exact h.1
  · rw [List.getElem_map, List.getElem_map]
    exact (h.2.2 _ (List.getElem_mem (by simpa using hj))).2
theorem flat_take (l : List MR) (n : Nat) : (l.flatMap mr).take (n * 7) = (l.take n).flatMap mr := by
  induction n generalizing l with
  | zero => simp
  | succ n ih =>
    cases l with
    | nil => simp
    | cons m l =>
      rw [List.flatMap_cons, List.take_succ_cons, List.flatMap_cons, ← ih l]
      have h := mr_len m
      rw [List.take_append, List.take_of_length_le (by omega), h]
      congr 2
      omega
theorem flat_drop (l : List MR) (n : Nat) : (l.flatMap mr).drop (n * 7) = (l.drop n).flatMap mr := by
  induction n generalizing l with
  | zero => simp
  | succ n ih =>
    cases l with
    | nil => simp
    | cons m l =>
      rw [List.flatMap_cons, List.drop_succ_cons, ← ih l]
      have h := mr_len m
      rw [List.drop_append, List.drop_of_length_le (by omega), h, List.nil_append]
      congr 1
      omega
theorem sliceToM {P : Program} {f : Fr} {w : World} {d : Option Tmp} {ty : TypeId} {pos : String} {aft : Array Edge} {g : Option (Nat × Bool)} {x : Operand} {t e : TypeId} {l : List MR} {z : Value} {by' : Nat} {kk : IntKind} {h : Operand} (hi : Nat) (ht : P.underlying t = some (.slice e)) (hti : TI P e z 7 by') (hs : SlK w 7 (ev f x) l.length (l.flatMap mr))
    (hh : ev f h = .int kk (hi : Int)) (hle : hi ≤ l.length) : ∃ v, (∀ w', Y P ⟨d, .slice t x none (some h) none, ty, pos, aft, g⟩ f w' v) ∧ SlK w 7 v (l.take hi).length ((l.take hi).flatMap mr) := by
  have hqq := Y.slice (P := P) (d := d) (ty := ty) (pos := pos) (aft := aft) (g := g) (k1 := .i64) (ol := none) (oh := some h) (lo := 0) (hi := (hi : Int)) ht hti hs rfl hh (by omega) (by omega) (by omega)
  obtain ⟨v, h1, h2⟩ := hqq
  refine ⟨v, h1, ?_⟩
  have e1 : ((hi : Int).toNat - (0 : Int).toNat) = hi := by omega
  have e2 : (0 : Int).toNat * 7 = 0 := rfl
  rw [e1, e2, List.drop_zero, flat_take] at h2
  have e3 : (l.take hi).length = hi := by rw [List.length_take]; omega
  rw [e3]
  exact h2
theorem sliceFromM {P : Program} {f : Fr} {w : World} {d : Option Tmp} {ty : TypeId} {pos : String} {aft : Array Edge} {g : Option (Nat × Bool)} {x : Operand} {t e : TypeId} {l : List MR} {z : Value} {by' : Nat} {kk : IntKind} {h : Operand} (lo : Nat) (ht : P.underlying t = some (.slice e)) (hti : TI P e z 7 by') (hs : SlK w 7 (ev f x) l.length (l.flatMap mr))
    (hh : ev f h = .int kk (lo : Int)) (hle : lo ≤ l.length) : ∃ v, (∀ w', Y P ⟨d, .slice t x (some h) none none, ty, pos, aft, g⟩ f w' v) ∧ SlK w 7 v (l.drop lo).length ((l.drop lo).flatMap mr) := by
  have hqq := Y.slice (P := P) (d := d) (ty := ty) (pos := pos) (aft := aft) (g := g) (k2 := .i64) (ol := some h) (oh := none) (lo := (lo : Int)) (hi := (l.length : Int)) ht hti hs hh rfl (by omega) (by omega) (by omega)
  obtain ⟨v, h1, h2⟩ := hqq
  refine ⟨v, h1, ?_⟩
  have e1 : ((l.length : Int).toNat - (lo : Int).toNat) = l.length - lo := by omega
  have e2 : (lo : Int).toNat * 7 = lo * 7 := by rw [Int.toNat_natCast]
  have e3 : (l.drop lo).length = l.length - lo := List.length_drop
  have e4 : (l.length - lo) * 7 = ((l.drop lo).flatMap mr).length := by rw [flat_len, e3]
  rw [e1, e2, flat_drop, e4, List.take_length] at h2
  rw [e3]
  exact h2
theorem map_key {l : List MR} {i : Nat} (h : i < l.length) : (l.map pr)[i]'(by simpa using h) = (l[i].key, l[i].v) := by simp [pr]
theorem cnt_map (k : List UInt8) (l : List MR) : cntK k (l.map pr) ≤ l.length := by
  have := cntK_le k (l.map pr)
  rwa [List.length_map] at this
theorem robject_ret (w : World) (s : Value) (l : List MR) (h : MsAt w s l) : Ret Tryd.prog 13 [s].toArray w (ObjR (rObj (l.map pr)) w) := by
  have hlen := h.2.2
  have hmx : maxLen = 9223372036854775807 := rfl
  refine Ret.of (n := 85) (rs := #[.cell 2 26, .tmp 3]) Tryd.func13 rfl rfl rfl (by simp) ?_
  refine WC.seqR rfl ?_
  refine WL.eex rfl (E.allocX ti26) ?_
  rintro _ w2 ⟨rfl, hB2, hb2⟩
  refine WL.y rfl (Y.assign) ?_
  refine WL.nil ?_
  refine WC.seqR rfl ?_
  refine WL.y rfl (Y.build (cells := (vcell (valO (some [])) (.slice none 0 0) (.slice none 0 0)).toArray) (by kernel_rfl) _) ?_
  refine WL.eex rfl (E.allocX ti26) ?_
  rintro _ w4 ⟨rfl, hB4, hb4⟩
  refine WL.eex rfl (E.storeAllK (us := vcell (valO (some [])) (.slice none 0 0) (.slice none 0 0)) ti26 rfl rfl rfl (one_vcell rfl rfl) hB4 rfl) ?_
  rintro _ w4s ⟨hX, hg4⟩
  refine WL.nil ?_
  refine WC.seq ?_
  have hZ : Blk w2 w.heap.size 26 (vcell V.nil (.slice none 0 0) (.slice none 0 0)) := hB2
  have lZ := hZ.lt
  have s2 := hb2.size
  have s4 := hb4.size
  have s4s := hg4.size
  have lX : w2.heap.size < w4.heap.size := (show Blk w4 _ _ _ from hB4).lt
  have b4 : Below w2.heap.size w2 w4s := Below.stepG hb4 hg4 (Nat.le_refl _)
  have hZ4 := hZ.bel b4
  have k4 : Below w.heap.size w w4s := Below.step hb2 b4
  clear hB2 hB4 hZ
  refine WC.seqR rfl ?_
  refine WL.y rfl (Y.assign) ?_
  refine WL.nil ?_
  refine WC.block ?_
  refine WC.loop (fun i => l.length - i) (fun i f ds w' => i ≤ l.length ∧ ds = [] ∧ Below w.heap.size w w' ∧ w4s.heap.size ≤ w'.heap.size ∧ Blk w' w.heap.size 26 (vcell V.nil (.slice none 0 0) (.slice none 0 0)) ∧ ∃ r bo l2 J, Blk w' w2.heap.size 26 (vcell (valO (some [])) (.slice none 0 0) r) ∧ OwnMs w' w4s.heap.size bo r l2 ∧ rObj ((l.map pr).take i) = some (l2.map pr) ∧ l2.length ≤ i ∧ f = Go.Cx.ov J [(0, s), (2, .pointer (some ⟨w.heap.size, 0, none⟩)), (3, .int .i64 0), (4, .pointer (some ⟨w2.heap.size, 0, none⟩)), (5, .int .i64 (i : Int))]) 0 ?_ ?_
  · exact ⟨Nat.zero_le _, rfl, k4, Nat.le_refl _, hZ4, _, 0, [], _, hX, ⟨OwnK.nil, .inl rfl, fun m hm => absurd hm (by simp)⟩, rfl, Nat.le_refl _, ov_mk ⟨rfl, rfl, rfl, rfl, rfl, trivial⟩⟩
  · clear hX hZ4
    rintro i _ _ wL ⟨hi, rfl, kL, sL, hZ, r, bo, l2, J, hX, hO, hr, hl2, rfl⟩
    have hM := h.bel kL
    have hs2 := hO.1.sl
    refine WC.seq ?_
    refine WC.seqR rfl ?_
    refine WL.y rfl (Y.move) ?_
    refine WL.y rfl (Y.move) ?_
    refine WL.y rfl (Y.lenSl Tryd.underlying22 (hM.1) _) ?_
    refine WL.y rfl (Y.lss rfl rfl) ?_
    refine WL.nil ?_
    refine WC.condD rfl (fun h0 => ?_) (fun h0 => ?_)
    · have hil : i < l.length := by omega
      have hst := rObj_take (ps := l.map pr) (i := i) (by simpa using hil)
      rw [hr, map_key hil] at hst
      have hst : rObj ((l.map pr).take (i + 1)) = insO (l[i].key, l[i].v) (l2.map pr) := hst
      have hcm := cnt_map l[i].key l2
      have hkey := (hM.2.1 _ (List.getElem_mem hil)).1
      have hval := (hM.2.1 _ (List.getElem_mem hil)).2
      have hgk : ∀ (j : Nat) (hj : j < l2.length), ((l2.map pr)[j]'(by simpa using hj)).1 = l2[j].key := fun j hj => by simp [pr]
      generalize hcn : cntK l[i].key (l2.map pr) = cn at hcm
      refine WC.skip (thenQ.normal ?_)
      refine WC.seq ?_
      refine WC.block ?_
      refine WC.seqR rfl ?_
      refine WL.y rfl (Y.assign) ?_
      refine WL.nil ?_
      refine WC.seq ?_
      refine WC.cut (fun f ds w' => ds = [] ∧ Below wL.heap.size wL w' ∧ ∃ J, f = Go.Cx.ov J [(0, s), (2, .pointer (some ⟨w.heap.size, 0, none⟩)), (3, .int .i64 0), (4, .pointer (some ⟨w2.heap.size, 0, none⟩)), (5, .int .i64 (i : Int)), (6, .int .i64 (cn : Int))]) ?_ ?_
      · refine WC.block ?_
        refine WC.loop (fun q => l2.length - q) (fun q f ds w' => q ≤ l2.length ∧ (∀ x (h : x < l2.length), x < q → l2[x].key < l[i].key) ∧ ds = [] ∧ Below wL.heap.size wL w' ∧ ∃ J, f = Go.Cx.ov J [(0, s), (2, .pointer (some ⟨w.heap.size, 0, none⟩)), (3, .int .i64 0), (4, .pointer (some ⟨w2.heap.size, 0, none⟩)), (5, .int .i64 (i : Int)), (6, .int .i64 (q : Int))]) 0 ?_ ?_
        · exact ⟨Nat.zero_le _, fun x h h2 => absurd h2 (Nat.not_lt_zero _), rfl, Below.refl _ _, _, ov_mk ⟨rfl, rfl, rfl, rfl, rfl, rfl, trivial⟩⟩
        · rintro q _ _ wI ⟨hq, hlt, rfl, kI, J, rfl⟩
          have hXI := hX.bel kI
          have hsI := hs2.bel kI
          have hMI := hM.bel kI
          have heq : (∀ h : q < l2.length, ¬ l2[q].key < l[i].key) → q = cn := fun h2 => by
            rw [← hcn]
            refine cntK_eq (by simpa using hq) (fun j hj hjq => ?_) (fun hj => ?_)
            · have hj' : j < l2.length := by simpa using hj
              rw [hgk j hj']
              exact hlt j hj' hjq
            · have hj' : q < l2.length := by simpa using hj
              rw [hgk q hj']
              exact h2 hj'
          refine WC.seq ?_
          by_cases c1 : q < l2.length
          · by_cases c2 : l2[q].key < l[i].key
            · refine WC.seq ?_
              refine WC.regionB (fun _ => false) [(0, .any), (1, .any), (2, .held), (3, .any), (4, .any), (5, .any), (6, .any), (7, .held), (8, .any), (9, .any), (10, .any), (11, .held), (12, .any), (13, .any), (14, .any), (15, .any), (16, .held), (17, .any), (18, .any)] mixed (by kernel_rfl) (fun wS hS hheap => ?_)
              refine RL.any rfl rfl (fun _ => Y.move) ?_
              refine RL.any rfl rfl (fun _ => Y.fieldAddr fi26f5 ti22 (by decide) rfl (rfl) _) ?_
              refine RL.held rfl rfl hS (fun _ hb9 => Y.load1 Tryd.underlying22 rfl rfl (cell_bel (hXI.cell 5) hb9)) ?_
              refine RL.any rfl rfl (fun _ => Y.lenSl Tryd.underlying22 (hsI) _) ?_
              refine RL.any rfl rfl (fun _ => Y.dT (Y.lss rfl rfl) (by omega)) ?_
              refine RL.any rfl rfl (fun _ => Y.move) ?_
              refine RL.any rfl rfl (fun _ => Y.fieldAddr fi26f5 ti22 (by decide) rfl (rfl) _) ?_
              refine RL.held rfl rfl hS (fun _ hb9 => Y.load1 Tryd.underlying22 rfl rfl (cell_bel (hXI.cell 5) hb9)) ?_
              refine RL.any rfl rfl (fun _ => Y.move) ?_
              refine RL.yex rfl rfl (Y.idx Tryd.underlying22 ti38 (by decide) (hsI) rfl (by omega) (by omega)) ?_
              rintro _ ⟨b24, o24, rfl, hc24⟩
              refine RL.any rfl rfl (fun _ => Y.fieldAddr fi38f0 ti9 (by decide) rfl (rfl) _) ?_
              refine RL.held rfl rfl hS (fun _ hb9 => Y.load1 Tryd.underlying9 rfl rfl (cell_bel (Cells.hd (mem_mr c1 hc24)) hb9)) ?_
              refine RL.any rfl rfl (fun _ => Y.move) ?_
              refine RL.any rfl rfl (fun _ => Y.move) ?_
              refine RL.yex rfl rfl (Y.idx Tryd.underlying22 ti38 (by decide) (hMI.1) rfl (by omega) (by omega)) ?_
              rintro _ ⟨b29, o29, rfl, hc29⟩
              refine RL.any rfl rfl (fun _ => Y.fieldAddr fi38f0 ti9 (by decide) rfl (rfl) _) ?_
              refine RL.held rfl rfl hS (fun _ hb9 => Y.load1 Tryd.underlying9 rfl rfl (cell_bel (Cells.hd (mem_mr hil hc29)) hb9)) ?_
              refine RL.any rfl rfl (fun _ => Y.bT (Y.ltS rfl rfl) (slt_iff.2 c2)) ?_
              refine RL.any rfl rfl (fun _ => Y.pickT rfl) ?_
              refine RL.nil (thenQ.normal ?_)
              refine WC.condT (rfl) ?_
              refine WC.skip (thenQ.normal ?_)
              refine WC.block ?_
              refine WC.region rfl ?_
              refine WL.y rfl (Y.move) ?_
              refine WL.y rfl (Y.add64 rfl rfl (by omega)) ?_
              refine WL.y rfl (Y.assign) ?_
              refine WL.nil (inBlockQ.normal (thenQ.normal ?_))
              refine ⟨q + 1, by omega, by omega, fun x h h2 => ?_, rfl, Below.step kI hS, _, ov_mk ⟨rfl, rfl, rfl, rfl, rfl, rfl, trivial⟩⟩
              rcases Nat.lt_succ_iff_lt_or_eq.1 h2 with h3 | rfl
              · exact hlt x h h3
              · exact c2
            · have e := heq (fun _ => c2)
              refine WC.seq ?_
              refine WC.regionB (fun _ => false) [(0, .any), (1, .any), (2, .held), (3, .any), (4, .any), (5, .any), (6, .any), (7, .held), (8, .any), (9, .any), (10, .any), (11, .held), (12, .any), (13, .any), (14, .any), (15, .any), (16, .held), (17, .any), (18, .any)] mixed (by kernel_rfl) (fun wS hS hheap => ?_)
              refine RL.any rfl rfl (fun _ => Y.move) ?_
              refine RL.any rfl rfl (fun _ => Y.fieldAddr fi26f5 ti22 (by decide) rfl (rfl) _) ?_
              refine RL.held rfl rfl hS (fun _ hb9 => Y.load1 Tryd.underlying22 rfl rfl (cell_bel (hXI.cell 5) hb9)) ?_
              refine RL.any rfl rfl (fun _ => Y.lenSl Tryd.underlying22 (hsI) _) ?_
              refine RL.any rfl rfl (fun _ => Y.dT (Y.lss rfl rfl) (by omega)) ?_
              refine RL.any rfl rfl (fun _ => Y.move) ?_
              refine RL.any rfl rfl (fun _ => Y.fieldAddr fi26f5 ti22 (by decide) rfl (rfl) _) ?_
              refine RL.held rfl rfl hS (fun _ hb9 => Y.load1 Tryd.underlying22 rfl rfl (cell_bel (hXI.cell 5) hb9)) ?_
              refine RL.any rfl rfl (fun _ => Y.move) ?_
              refine RL.yex rfl rfl (Y.idx Tryd.underlying22 ti38 (by decide) (hsI) rfl (by omega) (by omega)) ?_
              rintro _ ⟨b24, o24, rfl, hc24⟩
              refine RL.any rfl rfl (fun _ => Y.fieldAddr fi38f0 ti9 (by decide) rfl (rfl) _) ?_
              refine RL.held rfl rfl hS (fun _ hb9 => Y.load1 Tryd.underlying9 rfl rfl (cell_bel (Cells.hd (mem_mr c1 hc24)) hb9)) ?_
              refine RL.any rfl rfl (fun _ => Y.move) ?_
              refine RL.any rfl rfl (fun _ => Y.move) ?_
              refine RL.yex rfl rfl (Y.idx Tryd.underlying22 ti38 (by decide) (hMI.1) rfl (by omega) (by omega)) ?_
              rintro _ ⟨b29, o29, rfl, hc29⟩
              refine RL.any rfl rfl (fun _ => Y.fieldAddr fi38f0 ti9 (by decide) rfl (rfl) _) ?_
              refine RL.held rfl rfl hS (fun _ hb9 => Y.load1 Tryd.underlying9 rfl rfl (cell_bel (Cells.hd (mem_mr hil hc29)) hb9)) ?_
              refine RL.any rfl rfl (fun _ => Y.bF (Y.ltS rfl rfl) (slt_no c2)) ?_
              refine RL.any rfl rfl (fun _ => Y.pickT rfl) ?_
              refine RL.nil (thenQ.normal ?_)
              refine WC.condF (rfl) ?_
              refine WC.exit (thenQ.exit (thenQ.exit (inBlockQ.hit (thenQ.normal ?_))))
              exact ⟨rfl, Below.step kI hS, _, ov_mk ⟨rfl, rfl, rfl, rfl, rfl, congrArg (fun q : Nat => Value.int .i64 (q : Int)) e, trivial⟩⟩
          · have e := heq (fun h => absurd h c1)
            skip
            refine WC.seq ?_
            refine WC.regionB (fun _ => false) [(0, .any), (1, .any), (2, .held), (3, .any), (4, .any), (5, .any), (6, .any), (7, .held), (8, .any), (9, .any), (10, .any), (11, .held), (12, .any), (13, .any), (14, .any), (15, .any), (16, .held), (17, .any), (18, .any)] mixed (by kernel_rfl) (fun wS hS hheap => ?_)
            refine RL.any rfl rfl (fun _ => Y.move) ?_
            refine RL.any rfl rfl (fun _ => Y.fieldAddr fi26f5 ti22 (by decide) rfl (rfl) _) ?_
            refine RL.held rfl rfl hS (fun _ hb9 => Y.load1 Tryd.underlying22 rfl rfl (cell_bel (hXI.cell 5) hb9)) ?_
            refine RL.any rfl rfl (fun _ => Y.lenSl Tryd.underlying22 (hsI) _) ?_
            refine RL.any rfl rfl (fun _ => Y.dF (Y.lss rfl rfl) (by omega)) ?_
            refine RL.any rfl rfl (fun _ => Y.move) ?_
            refine RL.off rfl rfl ?_
            refine RL.offH rfl rfl hS ?_
            refine RL.off rfl rfl ?_
            refine RL.off rfl rfl ?_
            refine RL.off rfl rfl ?_
            refine RL.offH rfl rfl hS ?_
            refine RL.off rfl rfl ?_
            refine RL.off rfl rfl ?_
            refine RL.off rfl rfl ?_
            refine RL.off rfl rfl ?_
            refine RL.offH rfl rfl hS ?_
            refine RL.off rfl rfl ?_
            refine RL.any rfl rfl (fun _ => Y.pickF rfl) ?_
            refine RL.nil (thenQ.normal ?_)
            refine WC.condF (rfl) ?_
            refine WC.exit (thenQ.exit (thenQ.exit (inBlockQ.hit (thenQ.normal ?_))))
            exact ⟨rfl, Below.step kI hS, _, ov_mk ⟨rfl, rfl, rfl, rfl, rfl, congrArg (fun q : Nat => Value.int .i64 (q : Int)) e, trivial⟩⟩
      · rintro _ _ wC ⟨rfl, kC, J2, rfl⟩
        have hXC := hX.bel kC
        have hsC := hs2.bel kC
        have hMC := hM.bel kC
        have sC := kC.size
        refine WC.seq ?_
        refine WC.seq ?_
        refine WC.cut (fun f ds w' => ds = [] ∧ Below wC.heap.size wC w' ∧ ∃ (bb : Bool) (J : Fr), (bb = true → insO (l[i].key, l[i].v) (l2.map pr) = none) ∧ (bb = false → insO (l[i].key, l[i].v) (l2.map pr) = some (((l2.map pr).take cn ++ [(l[i].key, l[i].v)]) ++ (l2.map pr).drop cn)) ∧ f = Go.Cx.ov J [(0, s), (2, .pointer (some ⟨w.heap.size, 0, none⟩)), (3, .int .i64 0), (4, .pointer (some ⟨w2.heap.size, 0, none⟩)), (5, .int .i64 (i : Int)), (6, .int .i64 (cn : Int)), (54, .bool bb)]) ?_ ?_
        · have hnew : (∀ h : cn < l2.length, l2[cn].key ≠ l[i].key) → insO (l[i].key, l[i].v) (l2.map pr) = some (((l2.map pr).take cn ++ [(l[i].key, l[i].v)]) ++ (l2.map pr).drop cn) := fun h2 => by
            subst hcn
            refine insO_new _ _ (fun hj => ?_)
            have hj' : cntK l[i].key (l2.map pr) < l2.length := by simpa using hj
            rw [hgk _ hj']
            exact h2 hj'
          have hhas : ∀ h : cn < l2.length, l2[cn].key = l[i].key → insO (l[i].key, l[i].v) (l2.map pr) = none := fun hj e => by
            subst hcn
            refine insO_has _ _ (by simpa using hj) ?_
            rw [hgk _ hj]
            exact e
          by_cases c1 : cn < l2.length
          · by_cases c2 : l2[cn].key = l[i].key
            · refine WC.regionB (fun _ => false) [(0, .any), (1, .any), (2, .held), (3, .any), (4, .any), (5, .any), (6, .any), (7, .held), (8, .any), (9, .any), (10, .any), (11, .held), (12, .any), (13, .any), (14, .any), (15, .any), (16, .held), (17, .any), (18, .any)] mixed (by kernel_rfl) (fun wS hS hheap => ?_)
              refine RL.any rfl rfl (fun _ => Y.move) ?_
              refine RL.any rfl rfl (fun _ => Y.fieldAddr fi26f5 ti22 (by decide) rfl (rfl) _) ?_
              refine RL.held rfl rfl hS (fun _ hb9 => Y.load1 Tryd.underlying22 rfl rfl (cell_bel (hXC.cell 5) hb9)) ?_
              refine RL.any rfl rfl (fun _ => Y.lenSl Tryd.underlying22 (hsC) _) ?_
              refine RL.any rfl rfl (fun _ => Y.dT (Y.lss rfl rfl) (by omega)) ?_
              refine RL.any rfl rfl (fun _ => Y.move) ?_
              refine RL.any rfl rfl (fun _ => Y.fieldAddr fi26f5 ti22 (by decide) rfl (rfl) _) ?_
              refine RL.held rfl rfl hS (fun _ hb9 => Y.load1 Tryd.underlying22 rfl rfl (cell_bel (hXC.cell 5) hb9)) ?_
              refine RL.any rfl rfl (fun _ => Y.move) ?_
              refine RL.yex rfl rfl (Y.idx Tryd.underlying22 ti38 (by decide) (hsC) rfl (by omega) (by omega)) ?_
              rintro _ ⟨b45, o45, rfl, hc45⟩
              refine RL.any rfl rfl (fun _ => Y.fieldAddr fi38f0 ti9 (by decide) rfl (rfl) _) ?_
              refine RL.held rfl rfl hS (fun _ hb9 => Y.load1 Tryd.underlying9 rfl rfl (cell_bel (Cells.hd (mem_mr c1 hc45)) hb9)) ?_
              refine RL.any rfl rfl (fun _ => Y.move) ?_
              refine RL.any rfl rfl (fun _ => Y.move) ?_
              refine RL.yex rfl rfl (Y.idx Tryd.underlying22 ti38 (by decide) (hMC.1) rfl (by omega) (by omega)) ?_
              rintro _ ⟨b50, o50, rfl, hc50⟩
              refine RL.any rfl rfl (fun _ => Y.fieldAddr fi38f0 ti9 (by decide) rfl (rfl) _) ?_
              refine RL.held rfl rfl hS (fun _ hb9 => Y.load1 Tryd.underlying9 rfl rfl (cell_bel (Cells.hd (mem_mr hil hc50)) hb9)) ?_
              refine RL.any rfl rfl (fun _ => Y.bT (Y.eqS rfl rfl) (decide_eq_true c2)) ?_
              refine RL.any rfl rfl (fun _ => Y.pickT rfl) ?_
              refine RL.nil (thenQ.normal ?_)
              exact ⟨rfl, hS, true, _, fun _ => hhas c1 c2, fun e => (by cases e), ov_mk ⟨rfl, rfl, rfl, rfl, rfl, rfl, rfl, trivial⟩⟩
            · refine WC.regionB (fun _ => false) [(0, .any), (1, .any), (2, .held), (3, .any), (4, .any), (5, .any), (6, .any), (7, .held), (8, .any), (9, .any), (10, .any), (11, .held), (12, .any), (13, .any), (14, .any), (15, .any), (16, .held), (17, .any), (18, .any)] mixed (by kernel_rfl) (fun wS hS hheap => ?_)
              refine RL.any rfl rfl (fun _ => Y.move) ?_
              refine RL.any rfl rfl (fun _ => Y.fieldAddr fi26f5 ti22 (by decide) rfl (rfl) _) ?_
              refine RL.held rfl rfl hS (fun _ hb9 => Y.load1 Tryd.underlying22 rfl rfl (cell_bel (hXC.cell 5) hb9)) ?_
              refine RL.any rfl rfl (fun _ => Y.lenSl Tryd.underlying22 (hsC) _) ?_
              refine RL.any rfl rfl (fun _ => Y.dT (Y.lss rfl rfl) (by omega)) ?_
              refine RL.any rfl rfl (fun _ => Y.move) ?_
              refine RL.any rfl rfl (fun _ => Y.fieldAddr fi26f5 ti22 (by decide) rfl (rfl) _) ?_
              refine RL.held rfl rfl hS (fun _ hb9 => Y.load1 Tryd.underlying22 rfl rfl (cell_bel (hXC.cell 5) hb9)) ?_
              refine RL.any rfl rfl (fun _ => Y.move) ?_
              refine RL.yex rfl rfl (Y.idx Tryd.underlying22 ti38 (by decide) (hsC) rfl (by omega) (by omega)) ?_
              rintro _ ⟨b45, o45, rfl, hc45⟩
              refine RL.any rfl rfl (fun _ => Y.fieldAddr fi38f0 ti9 (by decide) rfl (rfl) _) ?_
              refine RL.held rfl rfl hS (fun _ hb9 => Y.load1 Tryd.underlying9 rfl rfl (cell_bel (Cells.hd (mem_mr c1 hc45)) hb9)) ?_
              refine RL.any rfl rfl (fun _ => Y.move) ?_
              refine RL.any rfl rfl (fun _ => Y.move) ?_
              refine RL.yex rfl rfl (Y.idx Tryd.underlying22 ti38 (by decide) (hMC.1) rfl (by omega) (by omega)) ?_
              rintro _ ⟨b50, o50, rfl, hc50⟩
              refine RL.any rfl rfl (fun _ => Y.fieldAddr fi38f0 ti9 (by decide) rfl (rfl) _) ?_
              refine RL.held rfl rfl hS (fun _ hb9 => Y.load1 Tryd.underlying9 rfl rfl (cell_bel (Cells.hd (mem_mr hil hc50)) hb9)) ?_
              refine RL.any rfl rfl (fun _ => Y.bF (Y.eqS rfl rfl) (decide_eq_false c2)) ?_
              refine RL.any rfl rfl (fun _ => Y.pickT rfl) ?_
              refine RL.nil (thenQ.normal ?_)
              exact ⟨rfl, hS, false, _, fun e => (by cases e), fun _ => hnew (fun _ => c2), ov_mk ⟨rfl, rfl, rfl, rfl, rfl, rfl, rfl, trivial⟩⟩
          · skip
            skip
            refine WC.regionB (fun _ => false) [(0, .any), (1, .any), (2, .held), (3, .any), (4, .any), (5, .any), (6, .any), (7, .held), (8, .any), (9, .any), (10, .any), (11, .held), (12, .any), (13, .any), (14, .any), (15, .any), (16, .held), (17, .any), (18, .any)] mixed (by kernel_rfl) (fun wS hS hheap => ?_)
            refine RL.any rfl rfl (fun _ => Y.move) ?_
            refine RL.any rfl rfl (fun _ => Y.fieldAddr fi26f5 ti22 (by decide) rfl (rfl) _) ?_
            refine RL.held rfl rfl hS (fun _ hb9 => Y.load1 Tryd.underlying22 rfl rfl (cell_bel (hXC.cell 5) hb9)) ?_
            refine RL.any rfl rfl (fun _ => Y.lenSl Tryd.underlying22 (hsC) _) ?_
            refine RL.any rfl rfl (fun _ => Y.dF (Y.lss rfl rfl) (by omega)) ?_
            refine RL.any rfl rfl (fun _ => Y.move) ?_
            refine RL.off rfl rfl ?_
            refine RL.offH rfl rfl hS ?_
            refine RL.off rfl rfl ?_
            refine RL.off rfl rfl ?_
            refine RL.off rfl rfl ?_
            refine RL.offH rfl rfl hS ?_
            refine RL.off rfl rfl ?_
            refine RL.off rfl rfl ?_
            refine RL.off rfl rfl ?_
            refine RL.off rfl rfl ?_
            refine RL.offH rfl rfl hS ?_
            refine RL.off rfl rfl ?_
            refine RL.any rfl rfl (fun _ => Y.pickF rfl) ?_
            refine RL.nil (thenQ.normal ?_)
            exact ⟨rfl, hS, false, _, fun e => (by cases e), fun _ => hnew (fun h => absurd h c1), ov_mk ⟨rfl, rfl, rfl, rfl, rfl, rfl, rfl, trivial⟩⟩
        · rintro _ _ wD ⟨rfl, kD, bb, J3, hT, hF, rfl⟩
          have kLD : Below wL.heap.size wL wD := Below.step kC kD
          have hXD := hX.bel kLD
          have hZD := hZ.bel kLD
          have hMD := hM.bel kLD
          have hOD := hO.bel kLD
          have kwD : Below w.heap.size w wD := Below.step kL kLD
          have sLD := kLD.size
          clear kC kD hXC hsC hMC sC
          refine WC.cond rfl (fun h3 => ?_) (fun h3 => ?_)
          · rw [hT h3] at hst
            have hno : rObj (l.map pr) = none := by
              rw [← List.take_append_drop (i + 1) (l.map pr)]
              exact rObj_stays hst
            rw [hno]
            refine WC.seqR rfl ?_
            refine WL.y rfl (Y.build (cells := (vcell V.nil (.slice none 0 0) (.slice none 0 0)).toArray) (by kernel_rfl) _) ?_
            refine WL.eex rfl (E.storeAllK (us := vcell V.nil (.slice none 0 0) (.slice none 0 0)) ti26 rfl rfl rfl nil_one hZD rfl) ?_
            rintro _ wZ ⟨hBZ, hgZ⟩
            refine WL.y rfl (Y.assign) ?_
            refine WL.nil ?_
            refine WC.ret (thenQ.ret (inBlockQ.ret (thenQ.ret (thenQ.ret (inBlockQ.ret (thenQ.ret ?_))))))
            have kZ : Below w.heap.size w wZ := Below.stepG kwD hgZ (Nat.le_refl _)
            exact endQ.cell2 Tryd.underlying26 rfl ti26 (.inr rfl) rfl hBZ.cells ⟨_, rfl, VW.nil, kZ⟩
          · rw [hF h3] at hst
            have ht1 : (l2.take cn).length = cn := by rw [List.length_take]; omega
            have ht2 : (l2.drop cn).length = l2.length - cn := List.length_drop
            refine WC.skip (thenQ.normal ?_)
            refine WC.seqR rfl ?_
            refine WL.y rfl (Y.assign) ?_
            refine WL.nil ?_
            refine WC.seqR rfl ?_
            refine WL.y rfl (Y.move) ?_
            refine WL.y rfl (Y.fieldAddr fi26f5 ti22 (by decide) rfl (rfl) _) ?_
            refine WL.y rfl (Y.load1 Tryd.underlying22 rfl rfl (hXD.cell 5)) ?_
            refine WL.y rfl (Y.move) ?_
            refine WL.yex rfl (sliceToM cn Tryd.underlying22 ti38 hOD.1.sl rfl hcm) ?_
            rintro v60 hs60
            refine WL.eex rfl (E.appendN (bl := wD.heap.size) Tryd.underlying22 ti38 rfl (by decide) OwnK.nil hs60 (mr_ones _) (by omega) (by omega)) ?_
            rintro v61 w61 ⟨⟨bl61, ho61, hbl61⟩, hg61⟩
            have hg61' : wD.grownBy w61 none := hg61
            have k61 : Below wD.heap.size wD w61 := below_of_grown hg61' (Nat.le_refl _) (fun k e => by cases e)
            have g61 : wD.heap.size ≤ bl61 := by rcases hbl61 with ⟨rfl, _⟩ | h; exact Nat.le_refl _; exact h
            have hM61 := hMD.bel k61
            have s61 := k61.size
            refine WL.y rfl (Y.assign) ?_
            refine WL.nil ?_
            refine WC.seq ?_
            refine WC.regionB (fun i => Nat.beq i 13 || Nat.beq i 14) [(0, .any), (1, .any), (2, .any), (3, .any), (4, .any), (5, .held), (6, .any), (7, .any), (8, .any), (9, .any), (10, .held), (11, .seq), (12, .any), (13, .seq), (14, .seq), (15, .any)] mixed (by kernel_rfl) (fun w12 hS12 hheap => ?_)
            refine RL.any rfl rfl (fun _ => Y.move) ?_
            refine RL.any rfl rfl (fun _ => Y.move) ?_
            refine RL.any rfl rfl (fun _ => Y.move) ?_
            refine RL.yex rfl rfl (Y.idx Tryd.underlying22 ti38 (by decide) (hM61.1) rfl (by omega) (by omega)) ?_
            rintro _ ⟨b65, o65, rfl, hc65⟩
            refine RL.any rfl rfl (fun _ => Y.fieldAddr fi38f0 ti9 (by decide) rfl (rfl) _) ?_
            refine RL.held rfl rfl hS12 (fun _ hb9 => Y.load1 Tryd.underlying9 rfl rfl (cell_bel (Cells.hd (mem_mr hil hc65)) hb9)) ?_
            refine RL.any rfl rfl (fun _ => Y.move) ?_
            refine RL.any rfl rfl (fun _ => Y.move) ?_
            refine RL.yex rfl rfl (Y.idx Tryd.underlying22 ti38 (by decide) (hM61.1) rfl (by omega) (by omega)) ?_
            rintro _ ⟨b70, o70, rfl, hc70⟩
            refine RL.any rfl rfl (fun _ => Y.fieldAddr fi38f1 ti26 (by decide) rfl (rfl) _) ?_
            refine RL.held rfl rfl hS12 (fun _ hb9 => Y.loadK Tryd.underlying26 rfl ti26 (l[i].c.h) rfl (Cells.bel (Cells.tl (mem_mr hil hc70)) hb9)) ?_
            refine RL.call rfl rfl (C.func go11) (rcopy_ret _ _ _ (((hval.bel kLD).bel k61).bel hS12)) ?_
            rintro _ w73 ⟨c73, rfl, hw73, hb73⟩
            refine ⟨.inr (fun h => Below.step h hb73), ?_⟩
            have hqq := six hw73.len
            obtain ⟨p0, p1, p2, p3, p4, p5, rfl⟩ := hqq
            refine RL.any rfl rfl (fun _ => Y.build (cells := (strv l[i].key :: [p0, p1, p2, p3, p4, p5]).toArray) (by kernel_rfl) _) ?_
            refine RL.eex rfl rfl (E.build1A (c := strv l[i].key :: [p0, p1, p2, p3, p4, p5]) Tryd.underlying22 ti38 rfl (by decide) (by decide) rfl) ?_ ?_
            · exact fun _ _ _ => .inl rfl
            rintro _ w75 ⟨rfl, ho75, hb75, -⟩
            have bb : Below w61.heap.size w61 w75 := Below.step (Below.step hS12 hb73) hb75
            refine RL.eex rfl rfl (E.appendN Tryd.underlying22 ti38 rfl (by decide) (ho61.bel bb) (ownsRow_sl ho75) (one_strv hw73.one) (by omega) (by omega)) ?_ ?_
            · exact fun _ _ _ => .inl rfl
            rintro v76 w76 ⟨⟨bl76, ho76, hbl76⟩, hg76⟩
            refine RL.any rfl rfl (fun _ => Y.assign) ?_
            refine RL.nil (thenQ.normal ?_)
            have hg76' : w75.grownBy w76 v61.ownBlock := hg76
            have s12 := hS12.size
            have s73 := hb73.size
            have s75 := hb75.size
            have hown : ∀ b, v61.ownBlock = some b → b = bl61 ∧ bl61 < w61.heap.size := fun b e => by
              rcases ho61.2 with ⟨e2, _⟩ | ⟨_, _, _, e2, e3, _⟩
              · rw [e2] at e; cases e
              · rw [e2] at e; cases e; exact ⟨rfl, (Array.getElem?_eq_some_iff.1 e3).1⟩
            have k75 : Below wD.heap.size wD w75 := Below.step k61 bb
            have k76 : Below wD.heap.size wD w76 := k75.trans (below_of_grown hg76' k75.size (fun k e => by have := hown k e; omega))
            have g76 : wD.heap.size ≤ bl76 := by
              rcases hbl76 with ⟨e, _⟩ | e <;> omega
            refine WC.region rfl ?_
            refine WL.y rfl (Y.move) ?_
            refine WL.y rfl (Y.fieldAddr fi26f5 ti22 (by decide) rfl (rfl) _) ?_
            refine WL.y rfl (Y.load1 Tryd.underlying22 rfl rfl ((hXD.bel k76).cell 5)) ?_
            refine WL.y rfl (Y.move) ?_
            refine WL.yex rfl (sliceFromM cn Tryd.underlying22 ti38 (hOD.bel k76).1.sl rfl hcm) ?_
            rintro v81 hs81
            refine WL.eex rfl (E.appendN Tryd.underlying22 ti38 rfl (by decide) ho76 hs81 (mr_ones _) (by omega) (by omega)) ?_
            rintro v82 w82 ⟨⟨bl82, ho82, hbl82⟩, hg82⟩
            have hg82' : w76.grownBy w82 v76.ownBlock := hg82
            have k82 : Below wD.heap.size wD w82 := k76.trans (below_of_grown hg82' k76.size (fun k e => by rcases ho76.own with h | h <;> rw [h] at e <;> cases e; omega))
            refine WL.y rfl (Y.fieldAddr fi26f5 ti22 (by decide) rfl (rfl) _) ?_
            refine WL.eex rfl (E.storeX (i := 5) (u := v82) ti22 rfl rfl ho82.sl.one (hXD.bel k82) (by simp [vcell])) ?_
            rintro _ w83 ⟨hX83, hg83, -⟩
            refine WL.nil (inBlockQ.normal (thenQ.normal ?_))
            refine WC.region rfl ?_
            refine WL.y rfl (Y.move) ?_
            refine WL.y rfl (Y.add64 rfl rfl (by omega)) ?_
            refine WL.y rfl (Y.assign) ?_
            refine WL.nil (thenQ.normal ?_)
            have g82 : wD.heap.size ≤ bl82 := by
              have := k76.size
              rcases hbl82 with ⟨e, _⟩ | e <;> omega
            have s82 := k82.size
            have s83 := hg83.size
            have kX : Kept (fun b => b = w2.heap.size) w82 w83 := Kept.of_grown hg83 rfl
            have kV : Kept (fun x => v61.ownBlock = some x ∨ w73.heap.size ≤ x) w73 w82 := ((Kept.of_bel hb75).trans (Kept.of_grownR hg76' (fun b e => .inl e))).trans (Kept.of_grownR hg82' (fun b e => by
              have e2 : b = bl76 := by rcases ho76.own with h | h <;> rw [h] at e <;> cases e; rfl
              subst e2
              rcases hbl76 with ⟨e3, e4⟩ | e3
              · subst e3
                rcases ho61.own with h | h
                · rcases ho61.2 with ⟨e5, _⟩ | ⟨_, _, _, e5, _⟩
                  · exact absurd e5 e4
                  · rw [e5] at h; cases h
                · exact .inl h
              · exact .inr (by omega)))
            have hV : VW w83 (fun b => w4s.heap.size ≤ b) l[i].v [p0, p1, p2, p3, p4, p5] := by
              have h1 := hw73.mono (M' := fun b => w12.heap.size ≤ b ∧ b < w73.heap.size) (fun b hb h => ⟨h, hb⟩)
              have h2 := VW.kept kV (fun b h e => by
                rcases e with e | e
                · have := hown b e; omega
                · omega) h1
              exact (VW.kept kX (fun b h => by omega) h2).mono (fun b _ h => by omega)
            have eL : ((l2.take cn ++ [(⟨l[i].key, ⟨[p0, p1, p2, p3, p4, p5], rfl⟩, l[i].v, hw73.one⟩ : MR)]) ++ l2.drop cn).map pr = ((l2.map pr).take cn ++ [(l[i].key, l[i].v)]) ++ (l2.map pr).drop cn := by
              rw [List.map_append, List.map_append, List.map_take, List.map_drop]
              rfl
            refine ⟨i + 1, by omega, by omega, rfl, Below.stepG (Below.step kwD k82) hg83 (by omega), by omega, (hZD.bel k82).grown hg83 (by omega), v82, bl82, (l2.take cn ++ [(⟨l[i].key, ⟨[p0, p1, p2, p3, p4, p5], rfl⟩, l[i].v, hw73.one⟩ : MR)]) ++ l2.drop cn, _, hX83, ⟨?_, .inr (by omega), ?_⟩, ?_, ?_, ov_mk ⟨rfl, rfl, rfl, rfl, rfl, trivial⟩⟩
            · have h9 := ho82.kept kX (by omega)
              rw [List.nil_append, Nat.zero_add] at h9
              rw [List.length_append, List.length_append, List.flatMap_append, List.flatMap_append]
              exact h9
            · intro m hm
              rw [List.mem_append, List.mem_append] at hm
              rcases hm with (hm | hm) | hm
              · have h1 := hOD.2.2 m (List.mem_of_mem_take hm)
                exact ⟨h1.1, VW.kept kX (fun b h => by omega) (h1.2.bel k82)⟩
              · have : m = _ := List.mem_singleton.1 hm
                subst this
                exact ⟨hkey, hV⟩
              · have h1 := hOD.2.2 m (List.mem_of_mem_drop hm)
                exact ⟨h1.1, VW.kept kX (fun b h => by omega) (h1.2.bel k82)⟩
            · rw [eL]
              exact hst
            · simp only [List.length_append, List.length_cons, List.length_nil]
              omega
    · have hie : i = l.length := by omega
      subst hie
      have e5 : (l.map pr).take l.length = l.map pr := List.take_of_length_le (by simp)
      rw [e5] at hr
      rw [hr]
      have hvw := hO.vw (by omega)
      refine WC.exit (thenQ.exit (thenQ.exit (inBlockQ.hit (thenQ.normal ?_))))
      refine WC.seqR rfl ?_
      refine WL.y rfl (Y.loadK Tryd.underlying26 rfl ti26 (rfl) rfl (hX.cells)) ?_
      refine WL.eex rfl (E.storeAllK (us := vcell (valO (some (l2.map pr))) (.slice none 0 0) r) ti26 rfl rfl rfl hvw.one hZ rfl) ?_
      rintro _ wZ ⟨hBZ, hgZ⟩
      refine WL.y rfl (Y.assign) ?_
      refine WL.nil ?_
      refine WC.ret ?_
      have kZ : Below w.heap.size w wZ := Below.stepG kL hgZ (Nat.le_refl _)
      have A84 := VW.kept (Kept.of_grown (M := fun b => b = w.heap.size) hgZ rfl) (fun b h1 h2 => by omega) hvw
      exact endQ.cell2 Tryd.underlying26 rfl ti26 (.inr rfl) rfl hBZ.cells ⟨_, rfl, A84.mono (fun b _ h => by omega), kZ⟩
end Go.Proofs.YthcppegkpkgnpaaDoor
