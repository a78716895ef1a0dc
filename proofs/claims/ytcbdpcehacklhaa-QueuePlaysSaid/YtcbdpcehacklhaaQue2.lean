/-
  queue: Find, Batch: walks.
-/
import Derived.Test.YtcbdpcehacklhaaQue1
namespace Go.Proofs.Ytcbdpcehacklhaa
open Go Go.RowKit Go.Cx
set_option linter.unusedVariables false
set_option maxHeartbeats 8000000
def nilMt : Mt := .mk 0 [] [] 0 false V.nil false V.nil []
def nilV : List Value := vcell V.nil (.slice none 0 0) (.slice none 0 0)
theorem nilMt_w {w : World} {M : Nat → Prop} : MtW w M nilMt (mtcell nilMt nilV nilV (.slice none 0 0)) :=
  .mk (bl := 0) (lc := []) ⟨by simp [nilMt, Mt.k], by simp [nilMt, Mt.i], by simp [nilMt, Mt.key], by simp [nilMt, Mt.to], by simp [nilMt, Mt.l]⟩ VW.nil VW.nil rfl (fun j h => absurd h (by simp [nilMt, Mt.l])) (.inl rfl) OwnK.nil
/-- the mutator under a number, and an error -/
def findQ (last : Int) (ms : List Mt) (id : Int) : Mt × Int := if last < id ∧ id ≤ last + ms.length then (ms.getD (id - last - 1).toNat nilMt, 0) else (nilMt, 12)
theorem elem_num' {w : World} {b o j : Nat} {z : Int} {l : List (Int × Mt)} {lc : List MC} (h : j < l.length) (h' : j < lc.length) (hz : z.toNat = j) (hc : Cells w b o ((((nums l lc).flatMap nc).drop (z.toNat * 20)).take 20)) : Cells w b o (.int .u64 l[j].1 :: lc[j].c) := by
  have e : z.toNat = ((j : Nat) : Int).toNat := by omega
  rw [e] at hc
  exact elem_num h h' hc
theorem qfind_ret {w : World} {M : Nat → Prop} {q : Nat} {last : Int} {ms : List Mt} (h : QW w M q last ms) (id : Int) (hid : 0 ≤ id ∧ id ≤ 18446744073709551615) : Ret Try.prog 14 [.pointer (some ⟨q, 0, none⟩), .int .u64 id].toArray w fun v w' => ∃ c, v = .tuple #[.agg c.toArray, .int .i64 (findQ last ms id).2] ∧ MtW w' (fun b => w.heap.size ≤ b) (findQ last ms id).1 c ∧ Below w.heap.size w w' := by
  have hq := h
  obtain ⟨r, hB, hM, hN, hr⟩ := h
  obtain ⟨⟨r1, r2⟩, r3⟩ := hr
  have hnl := numd_len last ms
  refine Ret.of (n := 37) (rs := #[.cell 4 30, .tmp 5]) Try.func14 rfl rfl rfl (by simp) ?_
  refine WC.seqR rfl ?_
  refine WL.eex rfl (E.allocX ti30) ?_
  rintro _ w4 ⟨rfl, hB4, hb4⟩
  refine WL.y rfl (Y.assign) ?_
  refine WL.nil ?_
  refine WC.seq ?_
  refine WC.seqR rfl ?_
  refine WL.y rfl (Y.move) ?_
  refine WL.y rfl (Y.eqpn Try.underlying32 rfl rfl) ?_
  refine WL.nil ?_
  refine WC.condF (rfl) ?_
  refine WC.skip (thenQ.normal ?_)
  refine WC.seq ?_
  have hx4 : ∃ us, us.length = 19 ∧ Blk w4 w.heap.size 30 us := ⟨_, rfl, hB4⟩
  obtain ⟨us, hus, hx4⟩ := hx4
  have hq4 := hq.bel hb4
  have hBq := hB.bel hb4
  have l4 := hx4.lt
  clear hB4
  by_cases c1 : id ≤ last
  · have e : findQ last ms id = (nilMt, 12) := if_neg (by omega)
    refine WC.seqR rfl ?_
    refine WL.y rfl (Y.move) ?_
    refine WL.y rfl (Y.move) ?_
    refine WL.y rfl (Y.nilCheck rfl) ?_
    refine WL.y rfl (Y.fieldAddr fi36f0 ti33 (by decide) rfl (rfl) _) ?_
    refine WL.y rfl (Y.load1 Try.underlying33 rfl rfl (hBq.cell 0)) ?_
    refine WL.y rfl (Y.dT (Y.leq rfl rfl) (by omega)) ?_
    refine WL.y rfl (Y.move) ?_
    refine WL.off rfl ?_
    refine WL.off rfl ?_
    refine WL.off rfl ?_
    refine WL.off rfl ?_
    refine WL.y rfl (Y.pickT rfl) ?_
    refine WL.nil ?_
    refine WC.condT (rfl) ?_
    refine WC.seqR rfl ?_
    refine WL.y rfl (Y.build (cells := (mtcell nilMt nilV nilV (.slice none 0 0)).toArray) (by kernel_rfl) _) ?_
    refine WL.eex rfl (E.storeAllK (us := mtcell nilMt nilV nilV (.slice none 0 0)) ti30 rfl rfl rfl (nilMt_w (w := w4) (M := fun _ => True)).one hx4 hus) ?_
    rintro _ w5 ⟨hB5, hg5⟩
    refine WL.y rfl (Y.assign) ?_
    refine WL.nil ?_
    refine WC.ret (thenQ.ret ?_)
    rw [e]
    exact endQ.cell2 Try.underlying30 rfl ti30 (.inr rfl) rfl hB5.cells ⟨_, rfl, nilMt_w, Below.stepG hb4 hg5 (Nat.le_refl _)⟩
  · by_cases c2 : last + ms.length + 1 ≤ id
    · have e : findQ last ms id = (nilMt, 12) := if_neg (by omega)
      refine WC.seqR rfl ?_
      refine WL.y rfl (Y.move) ?_
      refine WL.y rfl (Y.move) ?_
      refine WL.y rfl (Y.nilCheck rfl) ?_
      refine WL.y rfl (Y.fieldAddr fi36f0 ti33 (by decide) rfl (rfl) _) ?_
      refine WL.y rfl (Y.load1 Try.underlying33 rfl rfl (hBq.cell 0)) ?_
      refine WL.y rfl (Y.dF (Y.leq rfl rfl) (by omega)) ?_
      refine WL.y rfl (Y.move) ?_
      refine WL.y rfl (Y.move) ?_
      refine WL.y rfl (Y.move) ?_
      refine WL.call rfl (C.func go17) (qnext_ret hq4) ?_
      rintro _ w18 ⟨rfl, hb18⟩
      refine WL.y rfl (Y.dT (Y.geq rfl rfl) (by omega)) ?_
      refine WL.y rfl (Y.pickF rfl) ?_
      refine WL.nil ?_
      refine WC.condT (rfl) ?_
      refine WC.seqR rfl ?_
      refine WL.y rfl (Y.build (cells := (mtcell nilMt nilV nilV (.slice none 0 0)).toArray) (by kernel_rfl) _) ?_
      refine WL.eex rfl (E.storeAllK (us := mtcell nilMt nilV nilV (.slice none 0 0)) ti30 rfl rfl rfl (nilMt_w (w := w4) (M := fun _ => True)).one (hx4.bel hb18) hus) ?_
      rintro _ w5 ⟨hB5, hg5⟩
      refine WL.y rfl (Y.assign) ?_
      refine WL.nil ?_
      refine WC.ret (thenQ.ret ?_)
      rw [e]
      exact endQ.cell2 Try.underlying30 rfl ti30 (.inr rfl) rfl hB5.cells ⟨_, rfl, nilMt_w, Below.stepG (Below.step hb4 hb18) hg5 (Nat.le_refl _)⟩
    · have hj : (id - last - 1).toNat < ms.length := by omega
      have e : findQ last ms id = (ms[(id - last - 1).toNat], 0) := by
        unfold findQ
        rw [if_pos ⟨by omega, by omega⟩, List.getD_eq_getElem?_getD, List.getElem?_eq_getElem hj]
        rfl
      have hjz : (id - last - 1).toNat = (id - last - 1).toNat := rfl
      generalize hJ : (id - last - 1).toNat = j at *
      obtain ⟨bl, lc, n1, n2, n3, n4⟩ := hN
      have hjl : j < (numd last ms).length := by omega
      have hjc : j < lc.length := by omega
      have hs := n3.sl
      rw [hnl] at hs
      have hm := (n4 j hjl hjc).at
      have hg : (numd last ms)[j].2 = ms[j] := by rw [numd_get last ms j hj hjl]
      rw [hg] at hm
      skip
      refine WC.seqR rfl ?_
      refine WL.y rfl (Y.move) ?_
      refine WL.y rfl (Y.move) ?_
      refine WL.y rfl (Y.nilCheck rfl) ?_
      refine WL.y rfl (Y.fieldAddr fi36f0 ti33 (by decide) rfl (rfl) _) ?_
      refine WL.y rfl (Y.load1 Try.underlying33 rfl rfl (hBq.cell 0)) ?_
      refine WL.y rfl (Y.dF (Y.leq rfl rfl) (by omega)) ?_
      refine WL.y rfl (Y.move) ?_
      refine WL.y rfl (Y.move) ?_
      refine WL.y rfl (Y.move) ?_
      refine WL.call rfl (C.func go17) (qnext_ret hq4) ?_
      rintro _ w18 ⟨rfl, hb18⟩
      have k18 := Below.step hb4 hb18
      have hq18 := hBq.bel hb18
      refine WL.y rfl (Y.dF (Y.geq rfl rfl) (by omega)) ?_
      refine WL.y rfl (Y.pickF rfl) ?_
      refine WL.nil ?_
      refine WC.condF (rfl) ?_
      refine WC.skip (thenQ.normal ?_)
      refine WC.seq ?_
      refine WC.regionB (fun i => Nat.beq i 14 || Nat.beq i 15) [(0, .any), (1, .any), (2, .any), (3, .held), (4, .any), (5, .any), (6, .any), (7, .any), (8, .held), (9, .any), (10, .any), (11, .any), (12, .any), (13, .held), (14, .seq), (15, .seq), (16, .any)] mixed (by kernel_rfl) (fun w5 hS5 hheap => ?_)
      refine RL.any rfl rfl (fun _ => Y.move) ?_
      refine RL.any rfl rfl (fun _ => Y.nilCheck rfl) ?_
      refine RL.any rfl rfl (fun _ => Y.fieldAddr fi36f1 ti34 (by decide) rfl (rfl) _) ?_
      refine RL.held rfl rfl hS5 (fun _ hb9 => Y.load1 Try.underlying34 rfl rfl (cell_bel (hq18.cell 1) hb9)) ?_
      refine RL.any rfl rfl (fun _ => Y.move) ?_
      refine RL.any rfl rfl (fun _ => Y.move) ?_
      refine RL.any rfl rfl (fun _ => Y.nilCheck rfl) ?_
      refine RL.any rfl rfl (fun _ => Y.fieldAddr fi36f0 ti33 (by decide) rfl (rfl) _) ?_
      refine RL.held rfl rfl hS5 (fun _ hb9 => Y.load1 Try.underlying33 rfl rfl (cell_bel (hq18.cell 0) hb9)) ?_
      refine RL.any rfl rfl (fun _ => Y.subU64 rfl rfl (by omega)) ?_
      refine RL.any rfl rfl (fun _ => Y.subU64 rfl rfl (by omega)) ?_
      refine RL.yex rfl rfl (Y.idx Try.underlying34 ti43 (by decide) (hs.bel k18) rfl (by omega) (by omega)) ?_
      rintro _ ⟨b33, o33, rfl, hc33⟩
      refine RL.any rfl rfl (fun _ => Y.fieldAddr fi43f1 ti30 (by decide) rfl (rfl) _) ?_
      refine RL.held rfl rfl hS5 (fun _ hb9 => Y.loadK Try.underlying30 rfl ti30 (lc[j].h) rfl (Cells.bel (Cells.tl (elem_num' hjl hjc (by omega) hc33)) hb9)) ?_
      refine RL.call rfl rfl (C.func go30) (mcopy_ret ms[j] _ _ ((hm.bel k18).bel hS5)) ?_
      rintro _ w36 ⟨c36, rfl, h36, hb36⟩
      refine ⟨.inl rfl, ?_⟩
      refine RL.eex rfl rfl (E.storeAllK (us := c36) ti30 h36.len rfl rfl h36.one (((hx4.bel hb18).bel hS5).bel hb36) hus) ?_ ?_
      · exact fun _ _ _ => .inl rfl
      rintro _ w6 ⟨hB6, hg6⟩
      refine RL.any rfl rfl (fun _ => Y.assign) ?_
      refine RL.nil (thenQ.normal ?_)
      refine WC.ret ?_
      have s18 := hb18.size
      have s5 := hS5.size
      have s36 := hb36.size
      have k36 := Below.step (Below.step k18 hS5) hb36
      have kM : Kept (fun b => b = w.heap.size) w36 w6 := Kept.of_grown hg6 rfl
      have h6 := (MtW.kept kM (fun b h1 h2 => by omega) h36).mono (M' := fun b => w.heap.size ≤ b) (fun b _ h => by omega)
      rw [e]
      exact endQ.cell2 Try.underlying30 rfl (by rw [h36.len]; exact ti30) (.inr rfl) rfl hB6.cells ⟨_, rfl, h6, Below.stepG k36 hg6 (Nat.le_refl _)⟩
theorem qfind_nil (w : World) (id : Int) : Ret Try.prog 14 [.pointer none, .int .u64 id].toArray w fun v w' => ∃ c : List Value, v = .tuple #[.agg c.toArray, .int .i64 1] ∧ Below w.heap.size w w' := by
  refine Ret.of (n := 37) (rs := #[.cell 4 30, .tmp 5]) Try.func14 rfl rfl rfl (by simp) ?_
  refine WC.seqR rfl ?_
  refine WL.eex rfl (E.allocX ti30) ?_
  rintro _ w4 ⟨rfl, hB4, hb4⟩
  refine WL.y rfl (Y.assign) ?_
  refine WL.nil ?_
  refine WC.seq ?_
  refine WC.seqR rfl ?_
  refine WL.y rfl (Y.move) ?_
  refine WL.y rfl (Y.eqpn Try.underlying32 rfl rfl) ?_
  refine WL.nil ?_
  refine WC.condT (rfl) ?_
  refine WC.seqR rfl ?_
  refine WL.y rfl (Y.build (cells := (mtcell nilMt nilV nilV (.slice none 0 0)).toArray) (by kernel_rfl) _) ?_
  refine WL.eex rfl (E.storeAllK (us := mtcell nilMt nilV nilV (.slice none 0 0)) ti30 rfl rfl rfl (nilMt_w (w := w4) (M := fun _ => True)).one hB4 rfl) ?_
  rintro _ w5 ⟨hB5, hg5⟩
  refine WL.y rfl (Y.assign) ?_
  refine WL.nil ?_
  refine WC.ret (thenQ.ret ?_)
  exact endQ.cell2 Try.underlying30 rfl ti30 (.inr rfl) rfl hB5.cells ⟨_, rfl, Below.stepG hb4 hg5 (Nat.le_refl _)⟩
/-- how many a batch has -/
def batchK (last : Int) (n : Nat) (k : Int) (below : Int) : Nat := min (min k.toNat n) (below - last - 1).toNat
theorem nums_takeK {l : List (Int × Mt)} {lc : List MC} (K : Nat) : (nums l lc).take K = nums (l.take K) (lc.take K) := by
  unfold nums
  rw [List.map_take]
  exact List.take_zipWith
theorem nums_dropK {l : List (Int × Mt)} {lc : List MC} (K : Nat) : (nums l lc).drop K = nums (l.drop K) (lc.drop K) := by
  unfold nums
  rw [List.map_drop]
  exact List.drop_zipWith
theorem qbatch_ret {w : World} {M : Nat → Prop} {q : Nat} {last : Int} {ms : List Mt} (h : QW w M q last ms) (k below : Int) (hk : k ≤ 9223372036854775807) (hbl : 0 ≤ below) : Ret Try.prog 13 [.pointer (some ⟨q, 0, none⟩), .int .i64 k, .int .u64 below].toArray w fun v w' => NLW w' (fun b => w.heap.size ≤ b) ((numd last ms).take (batchK last ms.length k below)) v ∧ Below w.heap.size w w' := by
  have hq := h
  obtain ⟨r, hB, hM, hN, hr⟩ := h
  obtain ⟨⟨r1, r2⟩, r3⟩ := hr
  have hnl := numd_len last ms
  have hKd : batchK last ms.length k below = min (min k.toNat ms.length) (below - last - 1).toNat := rfl
  generalize batchK last ms.length k below = K at *
  obtain ⟨bl, lc, n1, n2, n3, n4⟩ := hN
  have hs := n3.sl
  rw [hnl] at hs
  refine Ret.of (n := 43) (rs := #[.tmp 6]) Try.func13 rfl rfl rfl (by simp) ?_
  refine WC.seqR rfl ?_
  refine WL.y rfl (Y.assign) ?_
  refine WL.nil ?_
  refine WC.seq ?_
  refine WC.seqR rfl ?_
  refine WL.y rfl (Y.move) ?_
  refine WL.y rfl (Y.eqpn Try.underlying32 rfl rfl) ?_
  refine WL.nil ?_
  refine WC.condF (rfl) ?_
  refine WC.skip (thenQ.normal ?_)
  refine WC.seqR rfl ?_
  refine WL.y rfl (Y.assign) ?_
  refine WL.nil ?_
  refine WC.seq ?_
  refine WC.block ?_
  refine WC.loop (fun j => K - j) (fun j f ds w' => j ≤ K ∧ ds = [] ∧ w' = w ∧ ∃ J, f = Go.Cx.ov J [(0, .pointer (some ⟨q, 0, none⟩)), (1, .int .i64 k), (2, .int .u64 below), (7, .int .i64 (j : Int))]) 0 ?_ ?_
  · exact ⟨by omega, rfl, rfl, _, ov_mk ⟨rfl, rfl, rfl, rfl, trivial⟩⟩
  · rintro j _ _ wL ⟨hj, rfl, rfl, J, rfl⟩
    by_cases c0 : j < K
    · have hjm : j < ms.length := by omega
      have hjl : j < (numd last ms).length := by omega
      have hjc : j < lc.length := by omega
      have hg : (numd last ms)[j].1 = last + 1 + j := by rw [numd_get last ms j hjm hjl]
      have hlt : (numd last ms)[j].1 < below := by omega
      refine WC.seq ?_
      refine WC.seqR rfl ?_
      refine WL.y rfl (Y.move) ?_
      refine WL.y rfl (Y.move) ?_
      refine WL.y rfl (Y.dT (Y.lss rfl rfl) (by omega)) ?_
      refine WL.y rfl (Y.move) ?_
      refine WL.y rfl (Y.move) ?_
      refine WL.y rfl (Y.move) ?_
      refine WL.y rfl (Y.nilCheck rfl) ?_
      refine WL.y rfl (Y.fieldAddr fi36f1 ti34 (by decide) rfl (rfl) _) ?_
      refine WL.y rfl (Y.load1 Try.underlying34 rfl rfl (hB.cell 1)) ?_
      refine WL.y rfl (Y.lenSl Try.underlying34 (hs) _) ?_
      refine WL.y rfl (Y.dT (Y.lss rfl rfl) (by omega)) ?_
      refine WL.y rfl (Y.pickT rfl) ?_
      refine WL.y rfl (Y.move) ?_
      refine WL.y rfl (Y.move) ?_
      refine WL.y rfl (Y.nilCheck rfl) ?_
      refine WL.y rfl (Y.fieldAddr fi36f1 ti34 (by decide) rfl (rfl) _) ?_
      refine WL.y rfl (Y.load1 Try.underlying34 rfl rfl (hB.cell 1)) ?_
      refine WL.y rfl (Y.move) ?_
      refine WL.yex rfl (Y.idx Try.underlying34 ti43 (by decide) (hs) rfl (by omega) (by omega)) ?_
      rintro _ ⟨b28, o28, rfl, hc28⟩
      refine WL.y rfl (Y.fieldAddr fi43f0 ti33 (by decide) rfl (rfl) _) ?_
      refine WL.y rfl (Y.load1 Try.underlying33 rfl rfl (Cells.hd (elem_num hjl hjc hc28))) ?_
      refine WL.y rfl (Y.move) ?_
      refine WL.y rfl (Y.dT (Y.lss rfl rfl) (by omega)) ?_
      refine WL.y rfl (Y.pickT rfl) ?_
      refine WL.nil ?_
      refine WC.condT (rfl) ?_
      refine WC.skip (thenQ.normal ?_)
      refine WC.block ?_
      refine WC.region rfl ?_
      refine WL.y rfl (Y.move) ?_
      refine WL.y rfl (Y.add64 rfl rfl (by omega)) ?_
      refine WL.y rfl (Y.assign) ?_
      refine WL.nil (inBlockQ.normal (thenQ.normal ?_))
      exact ⟨j + 1, by omega, by omega, rfl, rfl, _, ov_mk ⟨rfl, rfl, rfl, rfl, trivial⟩⟩
    · have hjK : j = K := by omega
      subst hjK
      have rest : ∀ v, SlK wL 20 v j (((nums (numd last ms) lc).flatMap nc).take (j * 20)) → NLAt wL ((numd last ms).take j) v := by
        intro v hv
        have hl2 : ((numd last ms).take j).length = j := by rw [List.length_take]; omega
        refine ⟨lc.take j, by rw [List.length_take, List.length_take]; omega, ?_, fun i h h' => ?_⟩
        · rw [hl2, ← nums_takeK, ← flat_take nc_len]; exact hv
        · rw [List.getElem_take, List.getElem_take]
          exact (n4 i (by omega) (by rw [List.length_take] at h'; omega)).at
      have hlen2 : ((numd last ms).take j).length ≤ 517417236585 := by rw [List.length_take]; omega
      obtain ⟨x, cap, rfl, hcap⟩ : ∃ x cap, r = .slice x (numd last ms).length cap ∧ (numd last ms).length ≤ cap := by
        rcases n3.2 with ⟨e, e2⟩ | ⟨o, cap, cur, e, _, e2, _⟩
        · rw [e2]; exact ⟨_, _, e, Nat.le_refl _⟩
        · exact ⟨_, _, e, e2⟩
      by_cases c1 : (j : Int) < k
      · by_cases c2 : j < ms.length
        · have hjl : j < (numd last ms).length := by omega
          have hjc : j < lc.length := by omega
          have hg : (numd last ms)[j].1 = last + 1 + j := by rw [numd_get last ms j c2 hjl]
          have hlt : ¬ (numd last ms)[j].1 < below := by omega
          refine WC.seq ?_
          refine WC.seqR rfl ?_
          refine WL.y rfl (Y.move) ?_
          refine WL.y rfl (Y.move) ?_
          refine WL.y rfl (Y.dT (Y.lss rfl rfl) (by omega)) ?_
          refine WL.y rfl (Y.move) ?_
          refine WL.y rfl (Y.move) ?_
          refine WL.y rfl (Y.move) ?_
          refine WL.y rfl (Y.nilCheck rfl) ?_
          refine WL.y rfl (Y.fieldAddr fi36f1 ti34 (by decide) rfl (rfl) _) ?_
          refine WL.y rfl (Y.load1 Try.underlying34 rfl rfl (hB.cell 1)) ?_
          refine WL.y rfl (Y.lenSl Try.underlying34 (hs) _) ?_
          refine WL.y rfl (Y.dT (Y.lss rfl rfl) (by omega)) ?_
          refine WL.y rfl (Y.pickT rfl) ?_
          refine WL.y rfl (Y.move) ?_
          refine WL.y rfl (Y.move) ?_
          refine WL.y rfl (Y.nilCheck rfl) ?_
          refine WL.y rfl (Y.fieldAddr fi36f1 ti34 (by decide) rfl (rfl) _) ?_
          refine WL.y rfl (Y.load1 Try.underlying34 rfl rfl (hB.cell 1)) ?_
          refine WL.y rfl (Y.move) ?_
          refine WL.yex rfl (Y.idx Try.underlying34 ti43 (by decide) (hs) rfl (by omega) (by omega)) ?_
          rintro _ ⟨b28, o28, rfl, hc28⟩
          refine WL.y rfl (Y.fieldAddr fi43f0 ti33 (by decide) rfl (rfl) _) ?_
          refine WL.y rfl (Y.load1 Try.underlying33 rfl rfl (Cells.hd (elem_num hjl hjc hc28))) ?_
          refine WL.y rfl (Y.move) ?_
          refine WL.y rfl (Y.dF (Y.lss rfl rfl) (by omega)) ?_
          refine WL.y rfl (Y.pickT rfl) ?_
          refine WL.nil ?_
          refine WC.condF (rfl) ?_
          refine WC.exit (thenQ.exit (thenQ.exit (inBlockQ.hit (thenQ.normal ?_))))
          refine WC.seqR rfl ?_
          refine WL.y rfl (Y.move) ?_
          refine WL.y rfl (Y.nilCheck rfl) ?_
          refine WL.y rfl (Y.fieldAddr fi36f1 ti34 (by decide) rfl (rfl) _) ?_
          refine WL.y rfl (Y.load1 Try.underlying34 rfl rfl (hB.cell 1)) ?_
          refine WL.y rfl (Y.move) ?_
          refine WL.y rfl (Y.sliceVal (a := x) (n := (numd last ms).length) (cap := cap) (lo := 0) (hi := j) (k1 := .i64) (ol := none) (oh := some (.tmp 40)) Try.underlying34 ti43 rfl hcap rfl ⟨_, rfl, rfl⟩ (Nat.zero_le _) (by omega) _) ?_
          refine WL.call rfl (C.func go29) (each_ret _ _ _ (rest _ (n3.cut 0 j (Nat.zero_le _) (by omega)).sl) hlen2) ?_
          rintro v42 w42 ⟨h42, hb42⟩
          refine WL.y rfl (Y.assign) ?_
          refine WL.nil ?_
          refine WC.ret (endQ.one (.inr rfl) ?_)
          exact ⟨h42, hb42⟩
        · skip
          refine WC.seq ?_
          refine WC.seqR rfl ?_
          refine WL.y rfl (Y.move) ?_
          refine WL.y rfl (Y.move) ?_
          refine WL.y rfl (Y.dT (Y.lss rfl rfl) (by omega)) ?_
          refine WL.y rfl (Y.move) ?_
          refine WL.y rfl (Y.move) ?_
          refine WL.y rfl (Y.move) ?_
          refine WL.y rfl (Y.nilCheck rfl) ?_
          refine WL.y rfl (Y.fieldAddr fi36f1 ti34 (by decide) rfl (rfl) _) ?_
          refine WL.y rfl (Y.load1 Try.underlying34 rfl rfl (hB.cell 1)) ?_
          refine WL.y rfl (Y.lenSl Try.underlying34 (hs) _) ?_
          refine WL.y rfl (Y.dF (Y.lss rfl rfl) (by omega)) ?_
          refine WL.y rfl (Y.pickT rfl) ?_
          refine WL.y rfl (Y.move) ?_
          refine WL.off rfl ?_
          refine WL.off rfl ?_
          refine WL.off rfl ?_
          refine WL.off rfl ?_
          refine WL.off rfl ?_
          refine WL.off rfl ?_
          refine WL.off rfl ?_
          refine WL.off rfl ?_
          refine WL.off rfl ?_
          refine WL.off rfl ?_
          refine WL.y rfl (Y.pickF rfl) ?_
          refine WL.nil ?_
          refine WC.condF (rfl) ?_
          refine WC.exit (thenQ.exit (thenQ.exit (inBlockQ.hit (thenQ.normal ?_))))
          refine WC.seqR rfl ?_
          refine WL.y rfl (Y.move) ?_
          refine WL.y rfl (Y.nilCheck rfl) ?_
          refine WL.y rfl (Y.fieldAddr fi36f1 ti34 (by decide) rfl (rfl) _) ?_
          refine WL.y rfl (Y.load1 Try.underlying34 rfl rfl (hB.cell 1)) ?_
          refine WL.y rfl (Y.move) ?_
          refine WL.y rfl (Y.sliceVal (a := x) (n := (numd last ms).length) (cap := cap) (lo := 0) (hi := j) (k1 := .i64) (ol := none) (oh := some (.tmp 40)) Try.underlying34 ti43 rfl hcap rfl ⟨_, rfl, rfl⟩ (Nat.zero_le _) (by omega) _) ?_
          refine WL.call rfl (C.func go29) (each_ret _ _ _ (rest _ (n3.cut 0 j (Nat.zero_le _) (by omega)).sl) hlen2) ?_
          rintro v42 w42 ⟨h42, hb42⟩
          refine WL.y rfl (Y.assign) ?_
          refine WL.nil ?_
          refine WC.ret (endQ.one (.inr rfl) ?_)
          exact ⟨h42, hb42⟩
      · skip
        skip
        refine WC.seq ?_
        refine WC.seqR rfl ?_
        refine WL.y rfl (Y.move) ?_
        refine WL.y rfl (Y.move) ?_
        refine WL.y rfl (Y.dF (Y.lss rfl rfl) (by omega)) ?_
        refine WL.y rfl (Y.move) ?_
        refine WL.off rfl ?_
        refine WL.off rfl ?_
        refine WL.off rfl ?_
        refine WL.off rfl ?_
        refine WL.off rfl ?_
        refine WL.off rfl ?_
        refine WL.off rfl ?_
        refine WL.y rfl (Y.pickF rfl) ?_
        refine WL.y rfl (Y.move) ?_
        refine WL.off rfl ?_
        refine WL.off rfl ?_
        refine WL.off rfl ?_
        refine WL.off rfl ?_
        refine WL.off rfl ?_
        refine WL.off rfl ?_
        refine WL.off rfl ?_
        refine WL.off rfl ?_
        refine WL.off rfl ?_
        refine WL.off rfl ?_
        refine WL.y rfl (Y.pickF rfl) ?_
        refine WL.nil ?_
        refine WC.condF (rfl) ?_
        refine WC.exit (thenQ.exit (thenQ.exit (inBlockQ.hit (thenQ.normal ?_))))
        refine WC.seqR rfl ?_
        refine WL.y rfl (Y.move) ?_
        refine WL.y rfl (Y.nilCheck rfl) ?_
        refine WL.y rfl (Y.fieldAddr fi36f1 ti34 (by decide) rfl (rfl) _) ?_
        refine WL.y rfl (Y.load1 Try.underlying34 rfl rfl (hB.cell 1)) ?_
        refine WL.y rfl (Y.move) ?_
        refine WL.y rfl (Y.sliceVal (a := x) (n := (numd last ms).length) (cap := cap) (lo := 0) (hi := j) (k1 := .i64) (ol := none) (oh := some (.tmp 40)) Try.underlying34 ti43 rfl hcap rfl ⟨_, rfl, rfl⟩ (Nat.zero_le _) (by omega) _) ?_
        refine WL.call rfl (C.func go29) (each_ret _ _ _ (rest _ (n3.cut 0 j (Nat.zero_le _) (by omega)).sl) hlen2) ?_
        rintro v42 w42 ⟨h42, hb42⟩
        refine WL.y rfl (Y.assign) ?_
        refine WL.nil ?_
        refine WC.ret (endQ.one (.inr rfl) ?_)
        exact ⟨h42, hb42⟩
theorem qbatch_nil (w : World) (k below : Int) : Ret Try.prog 13 [.pointer none, .int .i64 k, .int .u64 below].toArray w fun v w' => v = .slice none 0 0 ∧ w = w' := by
  refine Ret.of (n := 43) (rs := #[.tmp 6]) Try.func13 rfl rfl rfl (by simp) ?_
  refine WC.seqR rfl ?_
  refine WL.y rfl (Y.assign) ?_
  refine WL.nil ?_
  refine WC.seq ?_
  refine WC.seqR rfl ?_
  refine WL.y rfl (Y.move) ?_
  refine WL.y rfl (Y.eqpn Try.underlying32 rfl rfl) ?_
  refine WL.nil ?_
  refine WC.condT (rfl) ?_
  refine WC.seqR rfl ?_
  refine WL.y rfl (Y.assign) ?_
  refine WL.nil ?_
  refine WC.ret (thenQ.ret (endQ.one (.inr rfl) ?_))
  exact ⟨rfl, rfl⟩
end Go.Proofs.Ytcbdpcehacklhaa
