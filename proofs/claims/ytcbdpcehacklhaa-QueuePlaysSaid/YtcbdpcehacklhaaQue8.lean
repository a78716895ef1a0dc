/-
  The law QueueParts: walk.
-/
import Derived.Test.YtcbdpcehacklhaaQue7
import Derived.Test.YtcbdpcehacklhaaMuO
namespace Go.Proofs.Ytcbdpcehacklhaa
open Go Go.RowKit Go.Cx
set_option linter.unusedVariables false
set_option maxHeartbeats 8000000
theorem nlat_app {w : World} {la lb : List (Int × Mt)} {ca cb : List MC} {v : Value} (h1 : ca.length = la.length) (h2 : cb.length = lb.length) (hs : SlK w 20 v (la.length + lb.length) ((nums la ca).flatMap nc ++ (nums lb cb).flatMap nc)) (ha : ∀ j (h : j < la.length) (h' : j < ca.length), MtAt w la[j].2 ca[j].c) (hb : ∀ j (h : j < lb.length) (h' : j < cb.length), MtAt w lb[j].2 cb[j].c) : NLAt w (la ++ lb) v := by
  refine ⟨ca ++ cb, by simp [h1, h2], ?_, fun j h h' => ?_⟩
  · have e : (nums (la ++ lb) (ca ++ cb)).flatMap nc = (nums la ca).flatMap nc ++ (nums lb cb).flatMap nc := by
      unfold nums
      rw [List.map_append, List.zip_append (by rw [List.length_map]; omega), List.flatMap_append]
    rw [e, List.length_append]; exact hs
  · by_cases e : j < la.length
    · have e' : j < ca.length := by omega
      rw [List.getElem_append_left e, List.getElem_append_left e']
      exact ha j e e'
    · rw [List.getElem_append_right (by omega), List.getElem_append_right (by omega)]
      simp only [h1]
      exact hb _ _ _
theorem num_ones {l : List (Int × Mt)} {lc : List MC} {w : World} (h1 : lc.length = l.length) (h : ∀ j (h : j < l.length) (h' : j < lc.length), MtAt w l[j].2 lc[j].c) : ∀ u ∈ (nums l lc).flatMap nc, One u = true := by
  intro u hu
  have hqq := List.mem_flatMap.1 hu
  obtain ⟨x, hx, hu2⟩ := hqq
  have hqq := List.mem_iff_getElem.1 hx
  obtain ⟨j, hj, rfl⟩ := hqq
  have hjl : j < l.length := by rw [nums_len h1] at hj; exact hj
  rw [nums_get hjl (by omega) hj] at hu2
  exact one_u64 (h j hjl (by omega)).one u hu2
theorem queueParts_ret (w : World) (a : Value) (ls : List Mt) (ha : TArg w ls a) (n : Int) (hn : (Lit.int .i64 n).wf = true) : Ret Try.prog 4 [a, .int .i64 n].toArray w fun v w' => v = .bool true ∧ Below w.heap.size w w' := by
  have hr2 := i64_range hn
  obtain ⟨⟨lc, h1, h2, h3⟩, hlen⟩ := ha
  have hmx : maxLen = 9223372036854775807 := rfl
  refine Ret.of (n := 88) (rs := #[.tmp 4]) Try.func4 rfl rfl rfl (by simp) ?_
  refine WC.seqR rfl ?_
  refine WL.y rfl (Y.assign) ?_
  refine WL.nil ?_
  refine WC.seq ?_
  by_cases c1 : 40 < (ls.length : Int)
  · refine WC.seqR rfl ?_
    refine WL.y rfl (Y.move) ?_
    refine WL.y rfl (Y.lenSl Try.underlying28 (h2) _) ?_
    refine WL.y rfl (Y.dT (Y.gtr rfl rfl) (by omega)) ?_
    refine WL.y rfl (Y.move) ?_
    refine WL.off rfl ?_
    refine WL.off rfl ?_
    refine WL.y rfl (Y.pickT rfl) ?_
    refine WL.y rfl (Y.move) ?_
    refine WL.off rfl ?_
    refine WL.off rfl ?_
    refine WL.off rfl ?_
    refine WL.off rfl ?_
    refine WL.y rfl (Y.pickT rfl) ?_
    refine WL.nil ?_
    refine WC.condT (rfl) ?_
    refine WC.seqR rfl ?_
    refine WL.call rfl (C.func go16) (known_ret _) ?_
    rintro _ w24 ⟨rfl, hb24⟩
    refine WL.y rfl (Y.assign) ?_
    refine WL.nil ?_
    refine WC.ret (thenQ.ret (endQ.one (.inr rfl) ?_))
    exact ⟨rfl, hb24⟩
  · by_cases c2 : n < 0
    · refine WC.seqR rfl ?_
      refine WL.y rfl (Y.move) ?_
      refine WL.y rfl (Y.lenSl Try.underlying28 (h2) _) ?_
      refine WL.y rfl (Y.dF (Y.gtr rfl rfl) (by omega)) ?_
      refine WL.y rfl (Y.move) ?_
      refine WL.y rfl (Y.move) ?_
      refine WL.y rfl (Y.dT (Y.lss rfl rfl) (by omega)) ?_
      refine WL.y rfl (Y.pickF rfl) ?_
      refine WL.y rfl (Y.move) ?_
      refine WL.off rfl ?_
      refine WL.off rfl ?_
      refine WL.off rfl ?_
      refine WL.off rfl ?_
      refine WL.y rfl (Y.pickT rfl) ?_
      refine WL.nil ?_
      refine WC.condT (rfl) ?_
      refine WC.seqR rfl ?_
      refine WL.call rfl (C.func go16) (known_ret _) ?_
      rintro _ w24 ⟨rfl, hb24⟩
      refine WL.y rfl (Y.assign) ?_
      refine WL.nil ?_
      refine WC.ret (thenQ.ret (endQ.one (.inr rfl) ?_))
      exact ⟨rfl, hb24⟩
    · by_cases c3 : (ls.length : Int) < n
      · refine WC.seqR rfl ?_
        refine WL.y rfl (Y.move) ?_
        refine WL.y rfl (Y.lenSl Try.underlying28 (h2) _) ?_
        refine WL.y rfl (Y.dF (Y.gtr rfl rfl) (by omega)) ?_
        refine WL.y rfl (Y.move) ?_
        refine WL.y rfl (Y.move) ?_
        refine WL.y rfl (Y.dF (Y.lss rfl rfl) (by omega)) ?_
        refine WL.y rfl (Y.pickF rfl) ?_
        refine WL.y rfl (Y.move) ?_
        refine WL.y rfl (Y.move) ?_
        refine WL.y rfl (Y.move) ?_
        refine WL.y rfl (Y.lenSl Try.underlying28 (h2) _) ?_
        refine WL.y rfl (Y.dT (Y.gtr rfl rfl) (by omega)) ?_
        refine WL.y rfl (Y.pickF rfl) ?_
        refine WL.nil ?_
        refine WC.condT (rfl) ?_
        refine WC.seqR rfl ?_
        refine WL.call rfl (C.func go16) (known_ret _) ?_
        rintro _ w24 ⟨rfl, hb24⟩
        refine WL.y rfl (Y.assign) ?_
        refine WL.nil ?_
        refine WC.ret (thenQ.ret (endQ.one (.inr rfl) ?_))
        exact ⟨rfl, hb24⟩
      · obtain ⟨N, rfl⟩ : ∃ N : Nat, n = N := ⟨n.toNat, by omega⟩
        skip
        refine WC.seqR rfl ?_
        refine WL.y rfl (Y.move) ?_
        refine WL.y rfl (Y.lenSl Try.underlying28 (h2) _) ?_
        refine WL.y rfl (Y.dF (Y.gtr rfl rfl) (by omega)) ?_
        refine WL.y rfl (Y.move) ?_
        refine WL.y rfl (Y.move) ?_
        refine WL.y rfl (Y.dF (Y.lss rfl rfl) (by omega)) ?_
        refine WL.y rfl (Y.pickF rfl) ?_
        refine WL.y rfl (Y.move) ?_
        refine WL.y rfl (Y.move) ?_
        refine WL.y rfl (Y.move) ?_
        refine WL.y rfl (Y.lenSl Try.underlying28 (h2) _) ?_
        refine WL.y rfl (Y.dF (Y.gtr rfl rfl) (by omega)) ?_
        refine WL.y rfl (Y.pickF rfl) ?_
        refine WL.nil ?_
        refine WC.condF (rfl) ?_
        refine WC.skip (thenQ.normal ?_)
        refine WC.seqR rfl ?_
        refine WL.y rfl (Y.build (cells := #[.int .u64 0, .slice none 0 0]) (by kernel_rfl) _) ?_
        refine WL.eex rfl (E.boxX) ?_
        rintro _ w26 ⟨rfl, hB26, hb26⟩
        refine WL.y rfl (Y.assign) ?_
        refine WL.nil ?_
        refine WC.seq ?_
        refine WC.seqR rfl ?_
        refine WL.y rfl (Y.assign) ?_
        refine WL.nil ?_
        refine WC.block ?_
        have hq0 : QW w26 (fun b => w.heap.size ≤ b) w.heap.size 0 [] := QW.zero hB26 (Nat.le_refl _)
        clear hB26
        refine WC.loop (fun j => ls.length - j) (fun j f ds w' => j ≤ ls.length ∧ ds = [] ∧ Below w.heap.size w w' ∧ QW w' (fun b => w.heap.size ≤ b) w.heap.size 0 (ls.take j) ∧ ∃ J, f = Go.Cx.ov J [(0, a), (1, .int .i64 N), (5, .pointer (some ⟨w.heap.size, 0, none⟩)), (6, .int .i64 (j : Int))]) 0 ?_ ?_
        · exact ⟨by omega, rfl, hb26, hq0, _, ov_mk ⟨rfl, rfl, rfl, rfl, trivial⟩⟩
        · clear hq0 hb26
          rintro j _ _ wL ⟨hj, rfl, kL, hq, J, rfl⟩
          have sL := kL.size
          refine WC.seq ?_
          refine WC.seqR rfl ?_
          refine WL.y rfl (Y.move) ?_
          refine WL.y rfl (Y.move) ?_
          refine WL.y rfl (Y.lenSl Try.underlying28 (h2.bel kL) _) ?_
          refine WL.y rfl (Y.lss rfl rfl) ?_
          refine WL.nil ?_
          refine WC.condD rfl (fun h0 => ?_) (fun h0 => ?_)
          · have hjl : j < ls.length := by omega
            have hjc : j < lc.length := by omega
            have htl : (ls.take j).length = j := by rw [List.length_take]; omega
            have hts : ls.take (j + 1) = ls.take j ++ [ls[j]] := List.take_succ_eq_append_getElem hjl
            refine WC.skip (thenQ.normal ?_)
            refine WC.seq ?_
            refine WC.block ?_
            refine WC.seqR rfl ?_
            refine WL.y rfl (Y.move) ?_
            refine WL.y rfl (Y.move) ?_
            refine WL.y rfl (Y.move) ?_
            refine WL.yex rfl (Y.idx Try.underlying28 ti30 (by decide) (h2.bel kL) rfl (by omega) (by omega)) ?_
            rintro _ ⟨b37, o37, rfl, hc37⟩
            refine WL.y rfl (Y.loadK Try.underlying30 rfl ti30 (lc[j].h) rfl (elem_mt hjc hc37)) ?_
            refine WL.call rfl (C.func go10) (qadd_at hq sL ls[j] _ ((h3 j hjl hjc).bel kL) (by omega) (by omega)) ?_
            rintro _ w39 ⟨rfl, h39, hb39⟩
            refine WL.y rfl (Y.move) ?_
            refine WL.y rfl (Y.extract rfl rfl) ?_
            refine WL.y rfl (Y.extract rfl rfl) ?_
            refine WL.y rfl (Y.assign) ?_
            refine WL.y rfl (Y.assign) ?_
            refine WL.nil ?_
            refine WC.seqR rfl ?_
            refine WL.y rfl (Y.move) ?_
            refine WL.y rfl (Y.dF (Y.nei rfl rfl) (fun h => h rfl)) ?_
            refine WL.y rfl (Y.move) ?_
            refine WL.y rfl (Y.move) ?_
            refine WL.y rfl (Y.move) ?_
            refine WL.y rfl (Y.conviR Try.underlying3 Try.underlying33 rfl (by simp only [IntKind.min, IntKind.max, IntKind.signed, IntKind.bits]; omega)) ?_
            refine WL.y rfl (Y.addU64 rfl rfl (by omega)) ?_
            refine WL.y rfl (Y.dF (Y.nei rfl rfl) (by rw [htl]; omega)) ?_
            refine WL.y rfl (Y.pickF rfl) ?_
            refine WL.nil ?_
            refine WC.condF (rfl) ?_
            refine WC.skip (inBlockQ.normal (thenQ.normal ?_))
            refine WC.region rfl ?_
            refine WL.y rfl (Y.move) ?_
            refine WL.y rfl (Y.add64 rfl rfl (by omega)) ?_
            refine WL.y rfl (Y.assign) ?_
            refine WL.nil (thenQ.normal ?_)
            rw [← hts] at h39
            exact ⟨j + 1, by omega, by omega, rfl, kL.trans hb39, h39, _, ov_mk ⟨rfl, rfl, rfl, rfl, trivial⟩⟩
          · have hje : j = ls.length := by omega
            rw [hje, List.take_length] at hq
            have hq' := hq.mono (M' := fun b => w.heap.size ≤ b ∧ b < wL.heap.size) (fun b h1 h2 => ⟨h2, h1⟩)
            have hK : batchK 0 ls.length N (0 + (ls.length : Int) + 1) = N := by unfold batchK; omega
            have hnl := numd_len 0 ls
            have hnl2 := numd_len N (ls.drop N)
            have hld : (ls.drop N).length = ls.length - N := List.length_drop
            clear hq
            refine WC.exit (thenQ.exit (thenQ.exit (inBlockQ.hit (thenQ.normal ?_))))
            refine WC.seqR rfl ?_
            refine WL.y rfl (Y.move) ?_
            refine WL.call rfl (C.func go12) (qall_ret hq') ?_
            rintro r52 w52 ⟨h52, hb52⟩
            refine WL.y rfl (Y.assign) ?_
            refine WL.nil ?_
            refine WC.seqR rfl ?_
            refine WL.y rfl (Y.move) ?_
            refine WL.y rfl (Y.move) ?_
            refine WL.y rfl (Y.move) ?_
            refine WL.call rfl (C.func go17) (qnext_ret (hq'.bel hb52)) ?_
            rintro _ w56 ⟨rfl, hb56⟩
            refine WL.call rfl (C.func go13) (qbatch_ret ((hq'.bel hb52).bel hb56) N (0 + (ls.length : Int) + 1) (by omega) (by omega)) ?_
            rintro r57 w57 ⟨h57, hb57⟩
            refine WL.y rfl (Y.assign) ?_
            refine WL.nil ?_
            refine WC.seq ?_
            rw [hK] at h57
            have s52 := hb52.size
            have s56 := hb56.size
            have s57 := hb57.size
            have hq57 := ((hq'.bel hb52).bel hb56).bel hb57
            have k57 := Below.step (Below.step (Below.step kL hb52) hb56) hb57
            have h52' := ((h52.mono (M' := fun b => wL.heap.size ≤ b ∧ b < w52.heap.size) (fun b h1 h2 => ⟨h2, h1⟩)).bel hb56).bel hb57
            have h57' := h57.mono (M' := fun b => w52.heap.size ≤ b ∧ b < w57.heap.size) (fun b h1 h2 => ⟨by omega, h1⟩)
            clear h52 h57 hq'
            refine WC.seqR rfl ?_
            refine WL.y rfl (Y.move) ?_
            refine WL.y rfl (Y.move) ?_
            refine WL.y rfl (Y.conviR Try.underlying3 Try.underlying33 rfl (by simp only [IntKind.min, IntKind.max, IntKind.signed, IntKind.bits]; omega)) ?_
            refine WL.call rfl (C.func go18) (qcut_ret hq57 N (by omega) (by omega)) ?_
            rintro _ w61 ⟨rfl, h61, k61⟩
            refine WL.y rfl (Y.dF (Y.nei rfl rfl) (fun h => h rfl)) ?_
            refine WL.nil ?_
            refine WC.condF (rfl) ?_
            refine WC.skip (thenQ.normal ?_)
            have eN : ((N : Int) - 0).toNat = N := by omega
            rw [eN] at h61
            have s61 := k61.size
            have b61 : Below w.heap.size w w61 := Below.kept k57 k61 (fun b h => h.1) (Nat.le_refl _)
            have h52a := NLW.kept k61 (fun b h1 h2 => by omega) h52'
            have h57a := NLW.kept k61 (fun b h1 h2 => by omega) h57'
            clear hq57 h52' h57'
            refine WC.seqR rfl ?_
            refine WL.y rfl (Y.move) ?_
            refine WL.y rfl (Y.move) ?_
            refine WL.call rfl (C.func go12) (qall_ret h61) ?_
            rintro r65 w65 ⟨h65, hb65⟩
            have h57b := h57a.bel hb65
            obtain ⟨bl, ca, p1, p2, p3, p4⟩ := h57b
            obtain ⟨bm, cb, q1, q2, q3, q4⟩ := h65
            refine WL.eex rfl (E.appendN Try.underlying34 ti43 rfl (by decide) p3 q3.sl (num_ones q1 (fun j h h' => (q4 j h h').at)) (by rw [List.length_take]; omega) (by rw [List.length_take]; omega)) ?_
            rintro v66 w66 ⟨⟨bl', ho66, -⟩, hg66⟩
            have kG : Kept (fun b => b = bl) w65 w66 := own_row p3 hg66
            have kG2 : Kept (fun b => w52.heap.size ≤ b ∧ b < w57.heap.size) w65 w66 := Kept.of_grownR hg66 (own_apart (P := fun b => w52.heap.size ≤ b ∧ b < w57.heap.size) p3 p2)
            have s65 := hb65.size
            have hA : NLAt w66 ((numd 0 ls).take N ++ numd N (ls.drop N)) v66 := nlat_app p1 q1 ho66.sl (fun j h h' => (MtW.kept kG (fun b h1 h2 => h1.2 h2) (p4 j h h')).at) (fun j h h' => (MtW.kept kG2 (fun b h1 h2 => by have := h1.1; omega) (q4 j h h')).at)
            have eA : (numd 0 ls).take N ++ numd N (ls.drop N) = numd 0 ls := by have := numd_drop 0 ls N (by omega); rw [Int.zero_add] at this; rw [← this, List.take_append_drop]
            rw [eA] at hA
            have h52c := NLW.kept kG2 (fun b h1 h2 => by omega) (h52a.bel hb65)
            have h61c := (h61.bel hb65).kept kG2 (fun b h1 h2 => by omega)
            have b66 : Below w.heap.size w w66 := Below.kept (Below.step b61 hb65) kG2 (fun b h => by omega) (Nat.le_refl _)
            refine WL.y rfl (Y.move) ?_
            refine WL.call rfl (C.func go19) (sameT_ret _ _ _ _ hA h52c.at (by omega)) ?_
            rintro _ w68 ⟨rfl, hb68⟩
            refine WL.y rfl (Y.move) ?_
            refine WL.y rfl (Y.move) ?_
            refine WL.call rfl (C.func go20) (qlast_ret (h61c.bel hb68)) ?_
            rintro _ _ ⟨rfl, rfl⟩
            refine WL.y rfl (Y.move) ?_
            refine WL.y rfl (Y.conviR Try.underlying3 Try.underlying33 rfl (by simp only [IntKind.min, IntKind.max, IntKind.signed, IntKind.bits]; omega)) ?_
            refine WL.y rfl (Y.dT (Y.eqi rfl rfl) (rfl)) ?_
            refine WL.y rfl (Y.pickT rfl) ?_
            refine WL.y rfl (Y.move) ?_
            refine WL.y rfl (Y.move) ?_
            refine WL.call rfl (C.func go21) (qlen_ret (h61c.bel hb68)) ?_
            rintro _ _ ⟨rfl, rfl⟩
            refine WL.y rfl (Y.move) ?_
            refine WL.y rfl (Y.lenSl Try.underlying28 ((h2.bel b66).bel hb68) _) ?_
            refine WL.y rfl (Y.move) ?_
            refine WL.y rfl (Y.sub64 rfl rfl (by omega)) ?_
            refine WL.y rfl (Y.dT (Y.eqi rfl rfl) (by omega)) ?_
            refine WL.y rfl (Y.pickT rfl) ?_
            refine WL.y rfl (Y.move) ?_
            refine WL.call rfl (C.func go16) (known_ret _) ?_
            rintro _ w86 ⟨rfl, hb86⟩
            refine WL.y rfl (Y.pickT rfl) ?_
            refine WL.y rfl (Y.assign) ?_
            refine WL.nil ?_
            refine WC.ret (endQ.one (.inr rfl) ?_)
            exact ⟨rfl, Below.step (Below.step b66 hb68) hb86⟩
end Go.Proofs.Ytcbdpcehacklhaa
