/-
  ref23: Cut, Batch, Find: walks.
-/
import Derived.Test.YtcbdpcehacklhaaQue11
namespace Go.Proofs.Ytcbdpcehacklhaa
open Go Go.RowKit Go.Cx
set_option linter.unusedVariables false
set_option maxHeartbeats 8000000
set_option maxRecDepth 20000
theorem RL0.nil {w0 w : World} {M : Nat → Prop} : RL0 w0 w M [] (.slice none 0 0) := ⟨0, [], rfl, .inl rfl, OwnK.nil, fun j h => absurd h (by simp)⟩
theorem RL0.push {w0 w w' : World} {B : Nat} {l : List (Int × Mt)} {x : Int × Mt} {r v : Value} {bl bl' : Nat} {lc : List MC} {c : MC} (n1 : lc.length = l.length) (n2 : r = .slice none 0 0 ∨ B ≤ bl) (n4 : ∀ j (h : j < l.length) (h' : j < lc.length), MtAt w0 l[j].2 lc[j].c) (hx : MtAt w0 x.2 c.c) (ho : OwnK w' bl' 43 20 v (l.length + 1) ((nums l lc).flatMap nc ++ (.int .u64 x.1 :: c.c))) (hbl : (bl' = bl ∧ r ≠ .slice none 0 0) ∨ w.heap.size ≤ bl') (hB : B ≤ w.heap.size) : RL0 w0 w' (fun b => B ≤ b) (l ++ [x]) v := by
  refine ⟨bl', lc ++ [c], by simp [n1], ?_, ?_, fun j hj hj' => ?_⟩
  · right
    rcases hbl with ⟨rfl, e⟩ | e
    · exact n2.resolve_left e
    · exact Nat.le_trans hB e
  · have e : (nums (l ++ [x]) (lc ++ [c])).flatMap nc = (nums l lc).flatMap nc ++ (.int .u64 x.1 :: c.c) := by
      unfold nums
      rw [List.map_append, List.zip_append (by rw [List.length_map]; omega), List.flatMap_append]
      simp [nc]
    rw [e, List.length_append]
    exact ho
  · by_cases e : j < l.length
    · have e' : j < lc.length := by omega
      rw [List.getElem_append_left e, List.getElem_append_left e']
      exact n4 j e e'
    · have e2 : j = l.length := by simp only [List.length_append, List.length_cons, List.length_nil] at hj; omega
      subst e2
      rw [List.getElem_append_right (Nat.le_refl _), List.getElem_append_right (by omega)]
      simp only [n1, Nat.sub_self, List.getElem_cons_zero]
      exact hx
/-- where one is that is pending under a number -/
def findI (last : Int) (n : Nat) (id : Int) : Int := if last < id ∧ id ≤ last + n then id - last - 1 else -1
theorem rfind_ret {w0 w : World} {M : Nat → Prop} {q : Nat} {last : Int} {ms : List Mt} (h : RQ w0 w M q last ms) (id : Int) : Ret Try.prog 34 [.pointer (some ⟨q, 0, none⟩), .int .u64 id].toArray w fun v w' => v = .int .i64 (findI last ms.length id) ∧ w = w' := by
  obtain ⟨r, hB, hM, hR, hrg⟩ := h
  have hqq := hR.sl
  obtain ⟨bl, lc, n1, hs, n4⟩ := hqq
  have hnl := numd_len last ms
  refine Ret.of (n := 26) (rs := #[.tmp 4]) Try.func34 rfl rfl rfl (by simp) ?_
  refine WC.seqR rfl ?_
  refine WL.y rfl (Y.assign) ?_
  refine WL.nil ?_
  refine WC.seq ?_
  refine WC.seqR rfl ?_
  refine WL.y rfl (Y.assign) ?_
  refine WL.nil ?_
  refine WC.block ?_
  refine WC.loop (fun j => ms.length - j) (fun j f ds w' => j ≤ ms.length ∧ ds = [] ∧ w = w' ∧ (∀ i, i < j → last + 1 + (i : Int) ≠ id) ∧ ∃ J, f = Go.Cx.ov J [(0, .pointer (some ⟨q, 0, none⟩)), (1, .int .u64 id), (5, .int .i64 (j : Int))]) 0 ?_ ?_
  · exact ⟨by omega, rfl, rfl, fun i hi => absurd hi (by omega), _, ov_mk ⟨rfl, rfl, rfl, trivial⟩⟩
  · rintro j _ _ wL ⟨hj, rfl, rfl, hno, J, rfl⟩
    refine WC.seq ?_
    refine WC.seqR rfl ?_
    refine WL.y rfl (Y.move) ?_
    refine WL.y rfl (Y.move) ?_
    refine WL.y rfl (Y.nilCheck rfl) ?_
    refine WL.y rfl (Y.fieldAddr fi63f2 ti34 (by decide) rfl (rfl) _) ?_
    refine WL.y rfl (Y.load1 Try.underlying34 rfl rfl (hB.cell 2)) ?_
    refine WL.y rfl (Y.lenSl Try.underlying34 (hs) _) ?_
    refine WL.y rfl (Y.lss rfl rfl) ?_
    refine WL.nil ?_
    refine WC.condD rfl (fun h0 => ?_) (fun h0 => ?_)
    · have hjm : j < ms.length := by omega
      have hjl : j < (numd last ms).length := by omega
      have hjc : j < lc.length := by omega
      have hg : (numd last ms)[j].1 = last + 1 + j := by rw [numd_get last ms j hjm hjl]
      refine WC.skip (thenQ.normal ?_)
      refine WC.seq ?_
      refine WC.block ?_
      refine WC.seqR rfl ?_
      refine WL.y rfl (Y.move) ?_
      refine WL.y rfl (Y.nilCheck rfl) ?_
      refine WL.y rfl (Y.fieldAddr fi63f2 ti34 (by decide) rfl (rfl) _) ?_
      refine WL.y rfl (Y.load1 Try.underlying34 rfl rfl (hB.cell 2)) ?_
      refine WL.y rfl (Y.move) ?_
      refine WL.yex rfl (Y.idx Try.underlying34 ti43 (by decide) (hs) rfl (by omega) (by omega)) ?_
      rintro _ ⟨b20, o20, rfl, hc20⟩
      refine WL.y rfl (Y.fieldAddr fi43f0 ti33 (by decide) rfl (rfl) _) ?_
      refine WL.y rfl (Y.load1 Try.underlying33 rfl rfl (Cells.hd (elem_num hjl hjc hc20))) ?_
      refine WL.y rfl (Y.move) ?_
      refine WL.y rfl (Y.eqi rfl rfl) ?_
      refine WL.nil ?_
      refine WC.condD rfl (fun c0 => ?_) (fun c0 => ?_)
      · refine WC.seqR rfl ?_
        refine WL.y rfl (Y.move) ?_
        refine WL.y rfl (Y.assign) ?_
        refine WL.nil ?_
        refine WC.ret (inBlockQ.ret (thenQ.ret (thenQ.ret (inBlockQ.ret (thenQ.ret (endQ.one (.inr rfl) ?_))))))
        have e : findI last ms.length id = j := by unfold findI; rw [if_pos ⟨by omega, by omega⟩]; omega
        exact ⟨congrArg (Value.int .i64) e.symm, rfl⟩
      · refine WC.skip (inBlockQ.normal (thenQ.normal ?_))
        refine WC.region rfl ?_
        refine WL.y rfl (Y.move) ?_
        refine WL.y rfl (Y.add64 rfl rfl (by omega)) ?_
        refine WL.y rfl (Y.assign) ?_
        refine WL.nil (thenQ.normal ?_)
        exact ⟨j + 1, by omega, by omega, rfl, rfl, fun i hi => (by rcases Nat.lt_or_ge i j with e | e; exact hno i e; omega), _, ov_mk ⟨rfl, rfl, rfl, trivial⟩⟩
    · refine WC.exit (thenQ.exit (thenQ.exit (inBlockQ.hit (thenQ.normal ?_))))
      refine WC.seqR rfl ?_
      refine WL.y rfl (Y.assign) ?_
      refine WL.nil ?_
      refine WC.ret (endQ.one (.inr rfl) ?_)
      have e : findI last ms.length id = -1 := by
        unfold findI
        refine if_neg (fun hc => ?_)
        exact hno (id - last - 1).toNat (by omega) (by omega)
      exact ⟨congrArg (Value.int .i64) e.symm, rfl⟩
theorem rbatch_ret {w0 w : World} {M : Nat → Prop} {q : Nat} {last : Int} {ms : List Mt} (h : RQ w0 w M q last ms) (k below : Int) (hw : Below w0.heap.size w0 w) : Ret Try.prog 33 [.pointer (some ⟨q, 0, none⟩), .int .i64 k, .int .u64 below].toArray w fun v w' => NLAt w' ((numd last ms).take (batchK last ms.length k below)) v ∧ Below w.heap.size w w' := by
  obtain ⟨r, hB, hM, hR, hrg⟩ := h
  have hqq := hR.sl
  obtain ⟨bl, lc, n1, hs, n4⟩ := hqq
  have hnl := numd_len last ms
  have hmx : maxLen = 9223372036854775807 := rfl
  have hKd : batchK last ms.length k below = min (min k.toNat ms.length) (below - last - 1).toNat := rfl
  refine Ret.of (n := 44) (rs := #[.tmp 6]) Try.func33 rfl rfl rfl (by simp) ?_
  refine WC.seqR rfl ?_
  refine WL.y rfl (Y.assign) ?_
  refine WL.nil ?_
  refine WC.seqR rfl ?_
  refine WL.y rfl (Y.assign) ?_
  refine WL.nil ?_
  refine WC.seq ?_
  refine WC.seqR rfl ?_
  refine WL.y rfl (Y.assign) ?_
  refine WL.nil ?_
  refine WC.block ?_
  refine WC.loop (fun j => ms.length - j) (fun j f ds w' => (j ≤ ms.length ∧ (j : Int) ≤ max k 0) ∧ ds = [] ∧ Below w.heap.size w w' ∧ ∃ r' J, RL0 w0 w' (fun b => w.heap.size ≤ b) ((numd last ms).take (min j (below - last - 1).toNat)) r' ∧ f = Go.Cx.ov J [(0, .pointer (some ⟨q, 0, none⟩)), (1, .int .i64 k), (2, .int .u64 below), (7, r'), (8, .int .i64 (j : Int))]) 0 ?_ ?_
  · exact ⟨⟨by omega, by omega⟩, rfl, Below.refl _ _, _, _, by rw [Nat.zero_min, List.take_zero]; exact RL0.nil, ov_mk ⟨rfl, rfl, rfl, rfl, rfl, trivial⟩⟩
  · rintro j _ _ wL ⟨⟨hj, hjk⟩, rfl, kL, r', J, hL, rfl⟩
    have sL := kL.size
    have hBL := hB.bel kL
    by_cases c0 : j < ms.length
    · by_cases c1 : (j : Int) < k
      · have hjl : j < (numd last ms).length := by omega
        have hjc : j < lc.length := by omega
        have hg : (numd last ms)[j].1 = last + 1 + j := by rw [numd_get last ms j c0 hjl]
        have hml : (Value.int .u64 (numd last ms)[j].1 :: lc[j].c).length = 20 := by rw [List.length_cons, lc[j].h]
        refine WC.seq ?_
        refine WC.seqR rfl ?_
        refine WL.y rfl (Y.move) ?_
        refine WL.y rfl (Y.move) ?_
        refine WL.y rfl (Y.nilCheck rfl) ?_
        refine WL.y rfl (Y.fieldAddr fi63f2 ti34 (by decide) rfl (rfl) _) ?_
        refine WL.y rfl (Y.load1 Try.underlying34 rfl rfl (hBL.cell 2)) ?_
        refine WL.y rfl (Y.lenSl Try.underlying34 (hs.bel kL) _) ?_
        refine WL.y rfl (Y.dT (Y.lss rfl rfl) (by omega)) ?_
        refine WL.y rfl (Y.move) ?_
        refine WL.y rfl (Y.move) ?_
        refine WL.y rfl (Y.move) ?_
        refine WL.y rfl (Y.dT (Y.lss rfl rfl) (by omega)) ?_
        refine WL.y rfl (Y.pickT rfl) ?_
        refine WL.nil ?_
        refine WC.condT (rfl) ?_
        refine WC.skip (thenQ.normal ?_)
        refine WC.seq ?_
        refine WC.block ?_
        refine WC.seqR rfl ?_
        refine WL.y rfl (Y.move) ?_
        refine WL.y rfl (Y.nilCheck rfl) ?_
        refine WL.y rfl (Y.fieldAddr fi63f2 ti34 (by decide) rfl (rfl) _) ?_
        refine WL.y rfl (Y.load1 Try.underlying34 rfl rfl (hBL.cell 2)) ?_
        refine WL.y rfl (Y.move) ?_
        refine WL.yex rfl (Y.idx Try.underlying34 ti43 (by decide) (hs.bel kL) rfl (by omega) (by omega)) ?_
        rintro _ ⟨b28, o28, rfl, hc28⟩
        refine WL.y rfl (Y.fieldAddr fi43f0 ti33 (by decide) rfl (rfl) _) ?_
        refine WL.y rfl (Y.load1 Try.underlying33 rfl rfl (Cells.hd (elem_num hjl hjc hc28))) ?_
        refine WL.y rfl (Y.move) ?_
        refine WL.y rfl (Y.lss rfl rfl) ?_
        refine WL.nil ?_
        refine WC.condD rfl (fun c2 => ?_) (fun c2 => ?_)
        · have em : min j (below - last - 1).toNat = j := by omega
          have em2 : min (j + 1) (below - last - 1).toNat = j + 1 := by omega
          have hlt : ((numd last ms).take (min j (below - last - 1).toNat)).length = j := by rw [em, List.length_take]; omega
          obtain ⟨bl', lc', p1, p2, p3, p4⟩ := hL
          refine WC.region rfl ?_
          refine WL.y rfl (Y.move) ?_
          refine WL.y rfl (Y.move) ?_
          refine WL.y rfl (Y.nilCheck rfl) ?_
          refine WL.y rfl (Y.fieldAddr fi63f2 ti34 (by decide) rfl (rfl) _) ?_
          refine WL.y rfl (Y.load1 Try.underlying34 rfl rfl (hBL.cell 2)) ?_
          refine WL.y rfl (Y.move) ?_
          refine WL.yex rfl (Y.idx Try.underlying34 ti43 (by decide) (hs.bel kL) rfl (by omega) (by omega)) ?_
          rintro _ ⟨b39, o39, rfl, hc39⟩
          refine WL.y rfl (Y.loadK Try.underlying43 rfl ti43 (hml) rfl (elem_num hjl hjc hc39)) ?_
          refine WL.eex rfl (E.build1A (c := .int .u64 (numd last ms)[j].1 :: lc[j].c) Try.underlying34 ti43 hml (by decide) (by decide) rfl) ?_
          rintro _ w41 ⟨rfl, ho41, hb41, -⟩
          refine WL.eex rfl (E.appendN Try.underlying34 ti43 rfl (by decide) (p3.bel hb41) (ownsRow_sl ho41) (one_u64 (n4 j hjl hjc).one) (by omega) (by omega)) ?_
          rintro v42 w42 ⟨⟨bm, ho42, hbm⟩, hg42⟩
          refine WL.y rfl (Y.assign) ?_
          refine WL.nil (inBlockQ.normal (thenQ.normal ?_))
          refine WC.region rfl ?_
          refine WL.y rfl (Y.move) ?_
          refine WL.y rfl (Y.add64 rfl rfl (by omega)) ?_
          refine WL.y rfl (Y.assign) ?_
          refine WL.nil (thenQ.normal ?_)
          have s41 := hb41.size
          have k42 : Below w.heap.size w w42 := (Below.step kL hb41).trans (below_of_grown hg42 (by omega) (fun b e => own_apart (P := fun b => w.heap.size ≤ b) (p3.bel hb41) p2 b e))
          have hN := RL0.push (w0 := w0) (x := (numd last ms)[j]) (c := lc[j]) (w := w41) p1 p2 p4 (n4 j hjl hjc) ho42 hbm (by omega)
          have e3 : (numd last ms).take (min (j + 1) (below - last - 1).toNat) = (numd last ms).take (min j (below - last - 1).toNat) ++ [(numd last ms)[j]] := by rw [em, em2]; exact List.take_succ_eq_append_getElem hjl
          exact ⟨j + 1, by omega, ⟨by omega, by omega⟩, rfl, k42, _, _, by rw [e3]; exact hN, ov_mk ⟨rfl, rfl, rfl, rfl, rfl, trivial⟩⟩
        · have em : min (j + 1) (below - last - 1).toNat = min j (below - last - 1).toNat := by omega
          refine WC.skip (inBlockQ.normal (thenQ.normal ?_))
          refine WC.region rfl ?_
          refine WL.y rfl (Y.move) ?_
          refine WL.y rfl (Y.add64 rfl rfl (by omega)) ?_
          refine WL.y rfl (Y.assign) ?_
          refine WL.nil (thenQ.normal ?_)
          exact ⟨j + 1, by omega, ⟨by omega, by omega⟩, rfl, kL, _, _, by rw [em]; exact hL, ov_mk ⟨rfl, rfl, rfl, rfl, rfl, trivial⟩⟩
      · have em : min j (below - last - 1).toNat = batchK last ms.length k below := by rw [hKd]; omega
        rw [em] at hL
        refine WC.seq ?_
        refine WC.seqR rfl ?_
        refine WL.y rfl (Y.move) ?_
        refine WL.y rfl (Y.move) ?_
        refine WL.y rfl (Y.nilCheck rfl) ?_
        refine WL.y rfl (Y.fieldAddr fi63f2 ti34 (by decide) rfl (rfl) _) ?_
        refine WL.y rfl (Y.load1 Try.underlying34 rfl rfl (hBL.cell 2)) ?_
        refine WL.y rfl (Y.lenSl Try.underlying34 (hs.bel kL) _) ?_
        refine WL.y rfl (Y.dT (Y.lss rfl rfl) (by omega)) ?_
        refine WL.y rfl (Y.move) ?_
        refine WL.y rfl (Y.move) ?_
        refine WL.y rfl (Y.move) ?_
        refine WL.y rfl (Y.dF (Y.lss rfl rfl) (by omega)) ?_
        refine WL.y rfl (Y.pickT rfl) ?_
        refine WL.nil ?_
        refine WC.condF (rfl) ?_
        refine WC.exit (thenQ.exit (thenQ.exit (inBlockQ.hit (thenQ.normal ?_))))
        refine WC.seqR rfl ?_
        refine WL.y rfl (Y.move) ?_
        refine WL.y rfl (Y.assign) ?_
        refine WL.nil ?_
        refine WC.ret (endQ.one (.inr rfl) ?_)
        exact ⟨hL.at (hw.trans (kL.mono hw.size)), kL⟩
    · have em : min j (below - last - 1).toNat = batchK last ms.length k below := by rw [hKd]; omega
      rw [em] at hL
      skip
      refine WC.seq ?_
      refine WC.seqR rfl ?_
      refine WL.y rfl (Y.move) ?_
      refine WL.y rfl (Y.move) ?_
      refine WL.y rfl (Y.nilCheck rfl) ?_
      refine WL.y rfl (Y.fieldAddr fi63f2 ti34 (by decide) rfl (rfl) _) ?_
      refine WL.y rfl (Y.load1 Try.underlying34 rfl rfl (hBL.cell 2)) ?_
      refine WL.y rfl (Y.lenSl Try.underlying34 (hs.bel kL) _) ?_
      refine WL.y rfl (Y.dF (Y.lss rfl rfl) (by omega)) ?_
      refine WL.y rfl (Y.move) ?_
      refine WL.off rfl ?_
      refine WL.off rfl ?_
      refine WL.off rfl ?_
      refine WL.y rfl (Y.pickF rfl) ?_
      refine WL.nil ?_
      refine WC.condF (rfl) ?_
      refine WC.exit (thenQ.exit (thenQ.exit (inBlockQ.hit (thenQ.normal ?_))))
      refine WC.seqR rfl ?_
      refine WL.y rfl (Y.move) ?_
      refine WL.y rfl (Y.assign) ?_
      refine WL.nil ?_
      refine WC.ret (endQ.one (.inr rfl) ?_)
      exact ⟨hL.at (hw.trans (kL.mono hw.size)), kL⟩
theorem rcut_ret {w0 w : World} {M : Nat → Prop} {q : Nat} {last : Int} {ms : List Mt} (h : RQ w0 w M q last ms) (to : Int) (h1 : last ≤ to) (h2 : to ≤ last + ms.length) : Ret Try.prog 32 [.pointer (some ⟨q, 0, none⟩), .int .u64 to].toArray w fun v w' => v = .int .i64 0 ∧ RQ w0 w' (fun b => M b ∨ w.heap.size ≤ b) q to (ms.drop (to - last).toNat) ∧ Kept (fun b => b = q) w w' := by
  obtain ⟨r, hB, hM, hR, hrg⟩ := h
  have hqq := hR.sl
  obtain ⟨bl, lc, n1, hs, n4⟩ := hqq
  have hnl := numd_len last ms
  have hmx : maxLen = 9223372036854775807 := rfl
  have hql := hB.lt
  obtain ⟨D, rfl⟩ : ∃ D : Nat, to = last + D := ⟨(to - last).toNat, by omega⟩
  have eD : (last + (D : Int) - last).toNat = D := by omega
  rw [eD]
  refine Ret.of (n := 56) (rs := #[.tmp 4]) Try.func32 rfl rfl rfl (by simp) ?_
  refine WC.seqR rfl ?_
  refine WL.y rfl (Y.assign) ?_
  refine WL.nil ?_
  refine WC.seq ?_
  refine WC.seqR rfl ?_
  refine WL.y rfl (Y.move) ?_
  refine WL.y rfl (Y.move) ?_
  refine WL.y rfl (Y.nilCheck rfl) ?_
  refine WL.y rfl (Y.fieldAddr fi63f0 ti33 (by decide) rfl (rfl) _) ?_
  refine WL.y rfl (Y.load1 Try.underlying33 rfl rfl (hB.cell 0)) ?_
  refine WL.y rfl (Y.lss rfl rfl) ?_
  refine WL.nil ?_
  refine WC.condD rfl (fun c0 => ?_) (fun c0 => ?_)
  · exfalso; omega
  · refine WC.skip (thenQ.normal ?_)
    refine WC.seq ?_
    refine WC.seqR rfl ?_
    refine WL.y rfl (Y.move) ?_
    refine WL.y rfl (Y.move) ?_
    refine WL.y rfl (Y.nilCheck rfl) ?_
    refine WL.y rfl (Y.fieldAddr fi63f1 ti33 (by decide) rfl (rfl) _) ?_
    refine WL.y rfl (Y.load1 Try.underlying33 rfl rfl (hB.cell 1)) ?_
    refine WL.y rfl (Y.geq rfl rfl) ?_
    refine WL.nil ?_
    refine WC.condD rfl (fun c1 => ?_) (fun c1 => ?_)
    · exfalso; omega
    · refine WC.skip (thenQ.normal ?_)
      refine WC.seqR rfl ?_
      refine WL.y rfl (Y.assign) ?_
      refine WL.nil ?_
      refine WC.seq ?_
      refine WC.seqR rfl ?_
      refine WL.y rfl (Y.assign) ?_
      refine WL.nil ?_
      refine WC.block ?_
      refine WC.loop (fun j => ms.length - j) (fun j f ds w' => j ≤ ms.length ∧ ds = [] ∧ Below w.heap.size w w' ∧ ∃ r' J, RL0 w0 w' (fun b => w.heap.size ≤ b) (((numd last ms).take j).drop D) r' ∧ f = Go.Cx.ov J [(0, .pointer (some ⟨q, 0, none⟩)), (1, .int .u64 (last + D)), (5, r'), (6, .int .i64 (j : Int))]) 0 ?_ ?_
      · exact ⟨by omega, rfl, Below.refl _ _, _, _, by rw [List.take_zero, List.drop_nil]; exact RL0.nil, ov_mk ⟨rfl, rfl, rfl, rfl, trivial⟩⟩
      · rintro j _ _ wL ⟨hj, rfl, kL, r', J, hL, rfl⟩
        have sL := kL.size
        have hBL := hB.bel kL
        refine WC.seq ?_
        refine WC.seqR rfl ?_
        refine WL.y rfl (Y.move) ?_
        refine WL.y rfl (Y.move) ?_
        refine WL.y rfl (Y.nilCheck rfl) ?_
        refine WL.y rfl (Y.fieldAddr fi63f2 ti34 (by decide) rfl (rfl) _) ?_
        refine WL.y rfl (Y.load1 Try.underlying34 rfl rfl (hBL.cell 2)) ?_
        refine WL.y rfl (Y.lenSl Try.underlying34 (hs.bel kL) _) ?_
        refine WL.y rfl (Y.lss rfl rfl) ?_
        refine WL.nil ?_
        refine WC.condD rfl (fun h0 => ?_) (fun h0 => ?_)
        · have c3 : j < ms.length := by omega
          have hjl : j < (numd last ms).length := by omega
          have hjc : j < lc.length := by omega
          have hg : (numd last ms)[j].1 = last + 1 + j := by rw [numd_get last ms j c3 hjl]
          have hml : (Value.int .u64 (numd last ms)[j].1 :: lc[j].c).length = 20 := by rw [List.length_cons, lc[j].h]
          have hts : (numd last ms).take (j + 1) = (numd last ms).take j ++ [(numd last ms)[j]] := List.take_succ_eq_append_getElem hjl
          refine WC.skip (thenQ.normal ?_)
          refine WC.seq ?_
          refine WC.block ?_
          refine WC.seqR rfl ?_
          refine WL.y rfl (Y.move) ?_
          refine WL.y rfl (Y.nilCheck rfl) ?_
          refine WL.y rfl (Y.fieldAddr fi63f2 ti34 (by decide) rfl (rfl) _) ?_
          refine WL.y rfl (Y.load1 Try.underlying34 rfl rfl (hBL.cell 2)) ?_
          refine WL.y rfl (Y.move) ?_
          refine WL.yex rfl (Y.idx Try.underlying34 ti43 (by decide) (hs.bel kL) rfl (by omega) (by omega)) ?_
          rintro _ ⟨b33, o33, rfl, hc33⟩
          refine WL.y rfl (Y.fieldAddr fi43f0 ti33 (by decide) rfl (rfl) _) ?_
          refine WL.y rfl (Y.load1 Try.underlying33 rfl rfl (Cells.hd (elem_num hjl hjc hc33))) ?_
          refine WL.y rfl (Y.move) ?_
          refine WL.y rfl (Y.gtr rfl rfl) ?_
          refine WL.nil ?_
          refine WC.condD rfl (fun c2 => ?_) (fun c2 => ?_)
          · have hle : D ≤ ((numd last ms).take j).length := by rw [List.length_take]; omega
            have hlt : (((numd last ms).take j).drop D).length = j - D := by rw [List.length_drop, List.length_take]; omega
            obtain ⟨bl', lc', p1, p2, p3, p4⟩ := hL
            refine WC.region rfl ?_
            refine WL.y rfl (Y.move) ?_
            refine WL.y rfl (Y.move) ?_
            refine WL.y rfl (Y.nilCheck rfl) ?_
            refine WL.y rfl (Y.fieldAddr fi63f2 ti34 (by decide) rfl (rfl) _) ?_
            refine WL.y rfl (Y.load1 Try.underlying34 rfl rfl (hBL.cell 2)) ?_
            refine WL.y rfl (Y.move) ?_
            refine WL.yex rfl (Y.idx Try.underlying34 ti43 (by decide) (hs.bel kL) rfl (by omega) (by omega)) ?_
            rintro _ ⟨b44, o44, rfl, hc44⟩
            refine WL.y rfl (Y.loadK Try.underlying43 rfl ti43 (hml) rfl (elem_num hjl hjc hc44)) ?_
            refine WL.eex rfl (E.build1A (c := .int .u64 (numd last ms)[j].1 :: lc[j].c) Try.underlying34 ti43 hml (by decide) (by decide) rfl) ?_
            rintro _ w46 ⟨rfl, ho46, hb46, -⟩
            refine WL.eex rfl (E.appendN Try.underlying34 ti43 rfl (by decide) (p3.bel hb46) (ownsRow_sl ho46) (one_u64 (n4 j hjl hjc).one) (by omega) (by omega)) ?_
            rintro v47 w47 ⟨⟨bm, ho47, hbm⟩, hg47⟩
            refine WL.y rfl (Y.assign) ?_
            refine WL.nil (inBlockQ.normal (thenQ.normal ?_))
            refine WC.region rfl ?_
            refine WL.y rfl (Y.move) ?_
            refine WL.y rfl (Y.add64 rfl rfl (by omega)) ?_
            refine WL.y rfl (Y.assign) ?_
            refine WL.nil (thenQ.normal ?_)
            have s46 := hb46.size
            have k47 : Below w.heap.size w w47 := (Below.step kL hb46).trans (below_of_grown hg47 (by omega) (fun b e => own_apart (P := fun b => w.heap.size ≤ b) (p3.bel hb46) p2 b e))
            have hN := RL0.push (w0 := w0) (x := (numd last ms)[j]) (c := lc[j]) (w := w46) p1 p2 p4 (n4 j hjl hjc) ho47 hbm (by omega)
            have e3 : ((numd last ms).take (j + 1)).drop D = ((numd last ms).take j).drop D ++ [(numd last ms)[j]] := by rw [hts, List.drop_append_of_le_length hle]
            exact ⟨j + 1, by omega, by omega, rfl, k47, _, _, by rw [e3]; exact hN, ov_mk ⟨rfl, rfl, rfl, rfl, trivial⟩⟩
          · have e3 : ((numd last ms).take (j + 1)).drop D = ((numd last ms).take j).drop D := by
              rw [List.drop_of_length_le (by rw [List.length_take]; omega), List.drop_of_length_le (by rw [List.length_take]; omega)]
            refine WC.skip (inBlockQ.normal (thenQ.normal ?_))
            refine WC.region rfl ?_
            refine WL.y rfl (Y.move) ?_
            refine WL.y rfl (Y.add64 rfl rfl (by omega)) ?_
            refine WL.y rfl (Y.assign) ?_
            refine WL.nil (thenQ.normal ?_)
            exact ⟨j + 1, by omega, by omega, rfl, kL, _, _, by rw [e3]; exact hL, ov_mk ⟨rfl, rfl, rfl, rfl, trivial⟩⟩
        · have hje : j = ms.length := by omega
          rw [List.take_of_length_le (by omega), numd_drop last ms D (by omega)] at hL
          have hor : One r' = true := by
            obtain ⟨_, _, _, _, h, _⟩ := hL
            exact h.sl.one
          refine WC.exit (thenQ.exit (thenQ.exit (inBlockQ.hit (thenQ.normal ?_))))
          refine WC.seqR rfl ?_
          refine WL.y rfl (Y.move) ?_
          refine WL.y rfl (Y.move) ?_
          refine WL.y rfl (Y.move) ?_
          refine WL.y rfl (Y.move) ?_
          refine WL.y rfl (Y.nilCheck rfl) ?_
          refine WL.y rfl (Y.fieldAddr fi63f0 ti33 (by decide) rfl (rfl) _) ?_
          refine WL.eex rfl (E.storeX (u := .int .u64 (last + D)) ti33 rfl rfl rfl hBL (by simp)) ?_
          rintro _ wA ⟨hA, hgA, -⟩
          refine WL.y rfl (Y.nilCheck rfl) ?_
          refine WL.y rfl (Y.fieldAddr fi63f2 ti34 (by decide) rfl (rfl) _) ?_
          refine WL.eex rfl (E.storeX (u := r') ti34 rfl rfl hor hA (by simp)) ?_
          rintro _ wB ⟨hB2, hgB, -⟩
          refine WL.nil ?_
          refine WC.seqR rfl ?_
          refine WL.y rfl (Y.assign) ?_
          refine WL.nil ?_
          refine WC.ret (endQ.one (.inr rfl) ?_)
          have kQ : Kept (fun b => b = q) wL wB := (Kept.of_grown (M := fun b => b = q) hgA rfl).trans (Kept.of_grown (M := fun b => b = q) hgB rfl)
          have hld : ((ms.drop D).length : Int) = ms.length - D := by rw [List.length_drop]; omega
          have en : last + (ms.length : Int) + 1 = last + D + ((ms.drop D).length : Nat) + 1 := by omega
          have hB3 : Blk wB q 63 [.int .u64 (last + D), .int .u64 (last + D + ((ms.drop D).length : Nat) + 1), r'] := by rw [← en]; exact hB2
          exact ⟨rfl, ⟨r', hB3, .inl hM, (hL.kept kQ (fun b h1 h2 => by omega)).mono (fun b _ h => ⟨.inr h, by omega⟩), by omega, by omega⟩, (Kept.of_bel kL).trans kQ⟩
theorem rcut_old {w0 w : World} {M : Nat → Prop} {q : Nat} {last : Int} {ms : List Mt} (h : RQ w0 w M q last ms) (to : Int) (h1 : to < last) : Ret Try.prog 32 [.pointer (some ⟨q, 0, none⟩), .int .u64 to].toArray w fun v w' => v = .int .i64 15 ∧ w = w' := by
  obtain ⟨r, hB, hM, hR, hrg⟩ := h
  refine Ret.of (n := 56) (rs := #[.tmp 4]) Try.func32 rfl rfl rfl (by simp) ?_
  refine WC.seqR rfl ?_
  refine WL.y rfl (Y.assign) ?_
  refine WL.nil ?_
  refine WC.seq ?_
  refine WC.seqR rfl ?_
  refine WL.y rfl (Y.move) ?_
  refine WL.y rfl (Y.move) ?_
  refine WL.y rfl (Y.nilCheck rfl) ?_
  refine WL.y rfl (Y.fieldAddr fi63f0 ti33 (by decide) rfl (rfl) _) ?_
  refine WL.y rfl (Y.load1 Try.underlying33 rfl rfl (hB.cell 0)) ?_
  refine WL.y rfl (Y.lss rfl rfl) ?_
  refine WL.nil ?_
  refine WC.condD rfl (fun c0 => ?_) (fun c0 => ?_)
  · refine WC.seqR rfl ?_
    refine WL.y rfl (Y.assign) ?_
    refine WL.nil ?_
    refine WC.ret (thenQ.ret (endQ.one (.inr rfl) ?_))
    exact ⟨rfl, rfl⟩
  · exfalso; omega
theorem rcut_range {w0 w : World} {M : Nat → Prop} {q : Nat} {last : Int} {ms : List Mt} (h : RQ w0 w M q last ms) (to : Int) (h1 : last + ms.length + 1 ≤ to) : Ret Try.prog 32 [.pointer (some ⟨q, 0, none⟩), .int .u64 to].toArray w fun v w' => v = .int .i64 17 ∧ w = w' := by
  obtain ⟨r, hB, hM, hR, hrg⟩ := h
  refine Ret.of (n := 56) (rs := #[.tmp 4]) Try.func32 rfl rfl rfl (by simp) ?_
  refine WC.seqR rfl ?_
  refine WL.y rfl (Y.assign) ?_
  refine WL.nil ?_
  refine WC.seq ?_
  refine WC.seqR rfl ?_
  refine WL.y rfl (Y.move) ?_
  refine WL.y rfl (Y.move) ?_
  refine WL.y rfl (Y.nilCheck rfl) ?_
  refine WL.y rfl (Y.fieldAddr fi63f0 ti33 (by decide) rfl (rfl) _) ?_
  refine WL.y rfl (Y.load1 Try.underlying33 rfl rfl (hB.cell 0)) ?_
  refine WL.y rfl (Y.lss rfl rfl) ?_
  refine WL.nil ?_
  refine WC.condD rfl (fun c0 => ?_) (fun c0 => ?_)
  · exfalso; omega
  · refine WC.skip (thenQ.normal ?_)
    refine WC.seq ?_
    refine WC.seqR rfl ?_
    refine WL.y rfl (Y.move) ?_
    refine WL.y rfl (Y.move) ?_
    refine WL.y rfl (Y.nilCheck rfl) ?_
    refine WL.y rfl (Y.fieldAddr fi63f1 ti33 (by decide) rfl (rfl) _) ?_
    refine WL.y rfl (Y.load1 Try.underlying33 rfl rfl (hB.cell 1)) ?_
    refine WL.y rfl (Y.geq rfl rfl) ?_
    refine WL.nil ?_
    refine WC.condD rfl (fun c1 => ?_) (fun c1 => ?_)
    · refine WC.seqR rfl ?_
      refine WL.y rfl (Y.assign) ?_
      refine WL.nil ?_
      refine WC.ret (thenQ.ret (endQ.one (.inr rfl) ?_))
      exact ⟨rfl, rfl⟩
    · exfalso; omega
end Go.Proofs.Ytcbdpcehacklhaa
