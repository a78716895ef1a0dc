/-
  The law QueueAgain: walk.
-/
import Derived.Test.YtcbdpcehacklhaaQue8
namespace Go.Proofs.Ytcbdpcehacklhaa
open Go Go.RowKit Go.Cx
set_option linter.unusedVariables false
set_option maxHeartbeats 8000000
theorem key_cell {w : World} {m : Mt} {c : List Value} (h : MtAt w m c) : c[1]? = some (strv m.key) := by
  cases h; rfl
theorem queueAgain_ret (w : World) (a : Value) (ls : List Mt) (ha : TArg w ls a) (n : Int) (hn : (Lit.int .i64 n).wf = true) : Ret Try.prog 7 [a, .int .i64 n].toArray w fun v w' => v = .bool true ∧ Below w.heap.size w w' := by
  have hr2 := i64_range hn
  obtain ⟨⟨lc, h1, h2, h3⟩, hlen⟩ := ha
  have hmx : maxLen = 9223372036854775807 := rfl
  refine Ret.of (n := 131) (rs := #[.tmp 4]) Try.func7 rfl rfl rfl (by simp) ?_
  refine WC.seqR rfl ?_
  refine WL.y rfl (Y.assign) ?_
  refine WL.nil ?_
  refine WC.seq ?_
  by_cases c1 : 40 < (ls.length : Int)
  · refine WC.seqR rfl ?_
    refine WL.y rfl (Y.move) ?_
    refine WL.y rfl (Y.lenSl Try.underlying28 (h2) _) ?_
    refine WL.y rfl (Y.dT (Y.gtr rfl rfl) (by omega)) ?_
    refine WL.y rfl (Y.move) ?_
    refine WL.off rfl ?_
    refine WL.off rfl ?_
    refine WL.y rfl (Y.pickT rfl) ?_
    refine WL.y rfl (Y.move) ?_
    refine WL.off rfl ?_
    refine WL.off rfl ?_
    refine WL.off rfl ?_
    refine WL.off rfl ?_
    refine WL.y rfl (Y.pickT rfl) ?_
    refine WL.nil ?_
    refine WC.condT (rfl) ?_
    refine WC.seqR rfl ?_
    refine WL.call rfl (C.func go16) (known_ret _) ?_
    rintro _ w24 ⟨rfl, hb24⟩
    refine WL.y rfl (Y.assign) ?_
    refine WL.nil ?_
    refine WC.ret (thenQ.ret (endQ.one (.inr rfl) ?_))
    exact ⟨rfl, hb24⟩
  · by_cases c2 : n < 0
    · refine WC.seqR rfl ?_
      refine WL.y rfl (Y.move) ?_
      refine WL.y rfl (Y.lenSl Try.underlying28 (h2) _) ?_
      refine WL.y rfl (Y.dF (Y.gtr rfl rfl) (by omega)) ?_
      refine WL.y rfl (Y.move) ?_
      refine WL.y rfl (Y.move) ?_
      refine WL.y rfl (Y.dT (Y.lss rfl rfl) (by omega)) ?_
      refine WL.y rfl (Y.pickF rfl) ?_
      refine WL.y rfl (Y.move) ?_
      refine WL.off rfl ?_
      refine WL.off rfl ?_
      refine WL.off rfl ?_
      refine WL.off rfl ?_
      refine WL.y rfl (Y.pickT rfl) ?_
      refine WL.nil ?_
      refine WC.condT (rfl) ?_
      refine WC.seqR rfl ?_
      refine WL.call rfl (C.func go16) (known_ret _) ?_
      rintro _ w24 ⟨rfl, hb24⟩
      refine WL.y rfl (Y.assign) ?_
      refine WL.nil ?_
      refine WC.ret (thenQ.ret (endQ.one (.inr rfl) ?_))
      exact ⟨rfl, hb24⟩
    · by_cases c3 : (ls.length : Int) < n
      · refine WC.seqR rfl ?_
        refine WL.y rfl (Y.move) ?_
        refine WL.y rfl (Y.lenSl Try.underlying28 (h2) _) ?_
        refine WL.y rfl (Y.dF (Y.gtr rfl rfl) (by omega)) ?_
        refine WL.y rfl (Y.move) ?_
        refine WL.y rfl (Y.move) ?_
        refine WL.y rfl (Y.dF (Y.lss rfl rfl) (by omega)) ?_
        refine WL.y rfl (Y.pickF rfl) ?_
        refine WL.y rfl (Y.move) ?_
        refine WL.y rfl (Y.move) ?_
        refine WL.y rfl (Y.move) ?_
        refine WL.y rfl (Y.lenSl Try.underlying28 (h2) _) ?_
        refine WL.y rfl (Y.dT (Y.gtr rfl rfl) (by omega)) ?_
        refine WL.y rfl (Y.pickF rfl) ?_
        refine WL.nil ?_
        refine WC.condT (rfl) ?_
        refine WC.seqR rfl ?_
        refine WL.call rfl (C.func go16) (known_ret _) ?_
        rintro _ w24 ⟨rfl, hb24⟩
        refine WL.y rfl (Y.assign) ?_
        refine WL.nil ?_
        refine WC.ret (thenQ.ret (endQ.one (.inr rfl) ?_))
        exact ⟨rfl, hb24⟩
      · obtain ⟨N, rfl⟩ : ∃ N : Nat, n = N := ⟨n.toNat, by omega⟩
        skip
        refine WC.seqR rfl ?_
        refine WL.y rfl (Y.move) ?_
        refine WL.y rfl (Y.lenSl Try.underlying28 (h2) _) ?_
        refine WL.y rfl (Y.dF (Y.gtr rfl rfl) (by omega)) ?_
        refine WL.y rfl (Y.move) ?_
        refine WL.y rfl (Y.move) ?_
        refine WL.y rfl (Y.dF (Y.lss rfl rfl) (by omega)) ?_
        refine WL.y rfl (Y.pickF rfl) ?_
        refine WL.y rfl (Y.move) ?_
        refine WL.y rfl (Y.move) ?_
        refine WL.y rfl (Y.move) ?_
        refine WL.y rfl (Y.lenSl Try.underlying28 (h2) _) ?_
        refine WL.y rfl (Y.dF (Y.gtr rfl rfl) (by omega)) ?_
        refine WL.y rfl (Y.pickF rfl) ?_
        refine WL.nil ?_
        refine WC.condF (rfl) ?_
        refine WC.skip (thenQ.normal ?_)
        refine WC.seqR rfl ?_
        refine WL.y rfl (Y.build (cells := #[.int .u64 0, .slice none 0 0]) (by kernel_rfl) _) ?_
        refine WL.eex rfl (E.boxX) ?_
        rintro _ w30 ⟨rfl, hB30, hb30⟩
        refine WL.y rfl (Y.assign) ?_
        refine WL.nil ?_
        refine WC.seq ?_
        refine WC.seqR rfl ?_
        refine WL.y rfl (Y.assign) ?_
        refine WL.nil ?_
        refine WC.block ?_
        have hq0 : QW w30 (fun b => w.heap.size ≤ b) w.heap.size 0 [] := QW.zero hB30 (Nat.le_refl _)
        clear hB30
        refine WC.loop (fun j => ls.length - j) (fun j f ds w' => j ≤ ls.length ∧ ds = [] ∧ Below w.heap.size w w' ∧ QW w' (fun b => w.heap.size ≤ b) w.heap.size 0 (ls.take j) ∧ ∃ J, f = Go.Cx.ov J [(0, a), (1, .int .i64 N), (5, .pointer (some ⟨w.heap.size, 0, none⟩)), (6, .int .i64 (j : Int))]) 0 ?_ ?_
        · exact ⟨by omega, rfl, hb30, hq0, _, ov_mk ⟨rfl, rfl, rfl, rfl, trivial⟩⟩
        · clear hq0 hb30
          rintro j _ _ wL ⟨hj, rfl, kL, hq, J, rfl⟩
          have sL := kL.size
          refine WC.seq ?_
          refine WC.seqR rfl ?_
          refine WL.y rfl (Y.move) ?_
          refine WL.y rfl (Y.move) ?_
          refine WL.y rfl (Y.lenSl Try.underlying28 (h2.bel kL) _) ?_
          refine WL.y rfl (Y.lss rfl rfl) ?_
          refine WL.nil ?_
          refine WC.condD rfl (fun h0 => ?_) (fun h0 => ?_)
          · have hjl : j < ls.length := by omega
            have hjc : j < lc.length := by omega
            have htl : (ls.take j).length = j := by rw [List.length_take]; omega
            have hts : ls.take (j + 1) = ls.take j ++ [ls[j]] := List.take_succ_eq_append_getElem hjl
            refine WC.skip (thenQ.normal ?_)
            refine WC.seq ?_
            refine WC.block ?_
            refine WC.region rfl ?_
            refine WL.y rfl (Y.move) ?_
            refine WL.y rfl (Y.move) ?_
            refine WL.y rfl (Y.move) ?_
            refine WL.yex rfl (Y.idx Try.underlying28 ti30 (by decide) (h2.bel kL) rfl (by omega) (by omega)) ?_
            rintro _ ⟨b40, o40, rfl, hc40⟩
            refine WL.y rfl (Y.loadK Try.underlying30 rfl ti30 (lc[j].h) rfl (elem_mt hjc hc40)) ?_
            refine WL.call rfl (C.func go10) (qadd_at hq sL ls[j] _ ((h3 j hjl hjc).bel kL) (by omega) (by omega)) ?_
            rintro _ w42 ⟨rfl, h42, hb42⟩
            refine WL.nil (inBlockQ.normal (thenQ.normal ?_))
            refine WC.region rfl ?_
            refine WL.y rfl (Y.move) ?_
            refine WL.y rfl (Y.add64 rfl rfl (by omega)) ?_
            refine WL.y rfl (Y.assign) ?_
            refine WL.nil (thenQ.normal ?_)
            rw [← hts] at h42
            exact ⟨j + 1, by omega, by omega, rfl, kL.trans hb42, h42, _, ov_mk ⟨rfl, rfl, rfl, rfl, trivial⟩⟩
          · have hje : j = ls.length := by omega
            rw [hje, List.take_length] at hq
            have hq' := hq.mono (M' := fun b => w.heap.size ≤ b ∧ b < wL.heap.size) (fun b h1 h2 => ⟨h2, h1⟩)
            have hnl2 := numd_len N (ls.drop N)
            have hld : (ls.drop N).length = ls.length - N := List.length_drop
            clear hq
            refine WC.exit (thenQ.exit (thenQ.exit (inBlockQ.hit (thenQ.normal ?_))))
            refine WC.seqR rfl ?_
            refine WL.y rfl (Y.move) ?_
            refine WL.y rfl (Y.move) ?_
            refine WL.y rfl (Y.conviR Try.underlying3 Try.underlying33 rfl (by simp only [IntKind.min, IntKind.max, IntKind.signed, IntKind.bits]; omega)) ?_
            refine WL.call rfl (C.func go18) (qcut_ret hq' N (by omega) (by omega)) ?_
            rintro _ w46 ⟨rfl, h46, k46⟩
            refine WL.nil ?_
            have eN : ((N : Int) - 0).toNat = N := by omega
            rw [eN] at h46
            generalize hms : ls.drop N = ms at *
            have s46 := k46.size
            have b46 : Below w.heap.size w w46 := Below.kept kL k46 (fun b h => h.1) (Nat.le_refl _)
            clear hq'
            refine WC.seqR rfl ?_
            refine WL.y rfl (Y.move) ?_
            refine WL.call rfl (C.func go20) (qlast_ret h46) ?_
            rintro _ _ ⟨rfl, rfl⟩
            refine WL.y rfl (Y.move) ?_
            refine WL.call rfl (C.func go17) (qnext_ret h46) ?_
            rintro _ w51 ⟨rfl, hb51⟩
            refine WL.y rfl (Y.move) ?_
            refine WL.call rfl (C.func go12) (qall_ret (h46.bel hb51)) ?_
            rintro r53 w53 ⟨h53, hb53⟩
            refine WL.call rfl (C.func go22) (qof_ret _ N ms r53 h53.at ⟨by omega, by omega⟩ (by omega)) ?_
            rintro _ w54 ⟨o, rfl, h54, hb54⟩
            refine WL.y rfl (Y.move) ?_
            refine WL.y rfl (Y.extract rfl rfl) ?_
            refine WL.y rfl (Y.extract rfl rfl) ?_
            refine WL.y rfl (Y.assign) ?_
            refine WL.y rfl (Y.assign) ?_
            refine WL.nil ?_
            refine WC.seq ?_
            refine WC.seqR rfl ?_
            refine WL.y rfl (Y.move) ?_
            refine WL.y rfl (Y.bF (Y.eqpn Try.underlying32 rfl rfl) (rfl)) ?_
            refine WL.y rfl (Y.move) ?_
            refine WL.y rfl (Y.move) ?_
            refine WL.y rfl (Y.dF (Y.nei rfl rfl) (fun h => h rfl)) ?_
            refine WL.y rfl (Y.pickF rfl) ?_
            refine WL.nil ?_
            refine WC.condF (rfl) ?_
            refine WC.skip (thenQ.normal ?_)
            have s51 := hb51.size
            have s53 := hb53.size
            have s54 := hb54.size
            have q54 := ((h46.bel hb51).bel hb53).bel hb54
            have b54 := Below.step (Below.step (Below.step b46 hb51) hb53) hb54
            have o54 := h54.mono (M' := fun b => w53.heap.size ≤ b ∧ b < w54.heap.size) (fun b h1 h2 => ⟨h2, h1⟩)
            clear h53 h54 h46
            refine WC.seqR rfl ?_
            refine WL.y rfl (Y.move) ?_
            refine WL.call rfl (C.func go23) (qcopy_ret q54) ?_
            rintro _ w64 ⟨c, rfl, h64, hb64⟩
            refine WL.y rfl (Y.assign) ?_
            refine WL.nil ?_
            refine WC.seq ?_
            refine WC.seqR rfl ?_
            refine WL.y rfl (Y.move) ?_
            refine WL.y rfl (Y.eqpn Try.underlying32 rfl rfl) ?_
            refine WL.nil ?_
            refine WC.condF (rfl) ?_
            refine WC.skip (thenQ.normal ?_)
            have s64 := hb64.size
            have c64 := h64.mono (M' := fun b => w54.heap.size ≤ b ∧ b < w64.heap.size) (fun b h1 h2 => ⟨h2, h1⟩)
            have b64 := Below.step b54 hb64
            have q64 := q54.bel hb64
            have o64 := o54.bel hb64
            clear h64 q54 o54
            refine WC.seqR rfl ?_
            refine WL.y rfl (Y.move) ?_
            refine WL.call rfl (C.func go11) (del_ret _ [122] (by simp)) ?_
            rintro _ w69 ⟨rfl, hb69⟩
            refine WL.call rfl (C.func go10) (qadd_ret (q64.bel hb69) (delMt [122]) _ (dc_at (by simp)) (by omega) (by omega)) ?_
            rintro _ w70 ⟨rfl, q70, k70⟩
            refine WL.y rfl (Y.move) ?_
            refine WL.y rfl (Y.extract rfl rfl) ?_
            refine WL.y rfl (Y.extract rfl rfl) ?_
            refine WL.y rfl (Y.assign) ?_
            refine WL.y rfl (Y.assign) ?_
            refine WL.nil ?_
            have s69 := hb69.size
            have s70 := k70.size
            have o70 := (o64.bel hb69).kept k70 (fun b h1 h2 => by omega)
            have c70 := (c64.bel hb69).kept k70 (fun b h1 h2 => by omega)
            have q70' := q70.mono (M' := fun b => (w.heap.size ≤ b ∧ b < wL.heap.size) ∨ (w69.heap.size ≤ b ∧ b < w70.heap.size)) (fun b h1 h2 => by rcases h2 with h2 | h2; exact .inl h2; exact .inr ⟨h2, h1⟩)
            have b70 : Below w.heap.size w w70 := Below.kept (Below.step b64 hb69) k70 (fun b h => h.1) (Nat.le_refl _)
            clear q64 o64 c64 q70
            refine WC.seqR rfl ?_
            refine WL.y rfl (Y.move) ?_
            refine WL.call rfl (C.func go11) (del_ret _ [122] (by simp)) ?_
            rintro _ w75 ⟨rfl, hb75⟩
            refine WL.call rfl (C.func go10) (qadd_ret (o70.bel hb75) (delMt [122]) _ (dc_at (by simp)) (by omega) (by omega)) ?_
            rintro _ w76 ⟨rfl, o76, k76⟩
            refine WL.y rfl (Y.move) ?_
            refine WL.y rfl (Y.extract rfl rfl) ?_
            refine WL.y rfl (Y.extract rfl rfl) ?_
            refine WL.y rfl (Y.assign) ?_
            refine WL.y rfl (Y.assign) ?_
            refine WL.nil ?_
            have s75 := hb75.size
            have s76 := k76.size
            have q76 := (q70'.bel hb75).kept k76 (fun b h1 h2 => by omega)
            have c76 := (c70.bel hb75).kept k76 (fun b h1 h2 => by omega)
            have o76' := o76.mono (M' := fun b => (w53.heap.size ≤ b ∧ b < w54.heap.size) ∨ (w75.heap.size ≤ b ∧ b < w76.heap.size)) (fun b h1 h2 => by rcases h2 with h2 | h2; exact .inl h2; exact .inr ⟨h2, h1⟩)
            have b76 : Below w.heap.size w w76 := Below.kept (Below.step b70 hb75) k76 (fun b h => by omega) (Nat.le_refl _)
            clear q70' o70 c70 o76
            refine WC.seqR rfl ?_
            refine WL.y rfl (Y.move) ?_
            refine WL.call rfl (C.func go11) (del_ret _ [121] (by simp)) ?_
            rintro _ w80 ⟨rfl, hb80⟩
            refine WL.call rfl (C.func go10) (qadd_ret (c76.bel hb80) (delMt [121]) _ (dc_at (by simp)) (by omega) (by omega)) ?_
            rintro _ w81 ⟨rfl, c81, k81⟩
            refine WL.nil ?_
            refine WC.seqR rfl ?_
            refine WL.y rfl (Y.move) ?_
            refine WL.call rfl (C.func go12) (qall_ret c81) ?_
            rintro r83 w83 ⟨h83, hb83⟩
            refine WL.y rfl (Y.assign) ?_
            refine WL.nil ?_
            have s80 := hb80.size
            have s81 := k81.size
            have q83 := ((q76.bel hb80).kept k81 (fun b h1 h2 => by omega)).bel hb83
            have o83 := ((o76'.bel hb80).kept k81 (fun b h1 h2 => by omega)).bel hb83
            have b83 : Below w.heap.size w w83 := Below.step (Below.kept (Below.step b76 hb80) k81 (fun b h => by omega) (Nat.le_refl _)) hb83
            have hlz : (ms ++ [delMt [122]]).length = ms.length + 1 := by simp
            have hly : (ms ++ [delMt [121]]).length = ms.length + 1 := by simp
            have hny := numd_len N (ms ++ [delMt [121]])
            have hnz := numd_len N (ms ++ [delMt [122]])
            obtain ⟨bl, cc, p1, p2, p3, p4⟩ := h83
            have hj1 : ms.length < (numd N (ms ++ [delMt [121]])).length := by omega
            have hj2 : ms.length < cc.length := by omega
            have hml := (p4 ms.length hj1 hj2).at
            have hkey := key_cell hml
            have hg : (numd N (ms ++ [delMt [121]]))[ms.length].2 = delMt [121] := by rw [numd_get N _ ms.length (by omega) hj1]; simp
            rw [hg] at hkey
            have hs83 := p3.sl
            clear q76 o76' c76 c81 hml p4 p3
            refine WC.seqR rfl ?_
            refine WL.y rfl (Y.move) ?_
            refine WL.y rfl (Y.dT (Y.eqi rfl rfl) (rfl)) ?_
            refine WL.y rfl (Y.move) ?_
            refine WL.y rfl (Y.move) ?_
            refine WL.y rfl (Y.dT (Y.eqi rfl rfl) (rfl)) ?_
            refine WL.y rfl (Y.pickT rfl) ?_
            refine WL.y rfl (Y.move) ?_
            refine WL.y rfl (Y.move) ?_
            refine WL.y rfl (Y.move) ?_
            refine WL.y rfl (Y.dT (Y.eqi rfl rfl) (rfl)) ?_
            refine WL.y rfl (Y.pickT rfl) ?_
            refine WL.y rfl (Y.move) ?_
            refine WL.y rfl (Y.move) ?_
            refine WL.y rfl (Y.move) ?_
            refine WL.y rfl (Y.lenSl Try.underlying28 (h2.bel b83) _) ?_
            refine WL.y rfl (Y.conviR Try.underlying3 Try.underlying33 rfl (by simp only [IntKind.min, IntKind.max, IntKind.signed, IntKind.bits]; omega)) ?_
            refine WL.y rfl (Y.addU64 rfl rfl (by omega)) ?_
            refine WL.y rfl (Y.dT (Y.eqi rfl rfl) (by omega)) ?_
            refine WL.y rfl (Y.pickT rfl) ?_
            refine WL.y rfl (Y.move) ?_
            refine WL.y rfl (Y.move) ?_
            refine WL.call rfl (C.func go12) (qall_ret q83) ?_
            rintro r105 w105 ⟨h105, hb105⟩
            refine WL.y rfl (Y.move) ?_
            refine WL.call rfl (C.func go12) (qall_ret (o83.bel hb105)) ?_
            rintro r107 w107 ⟨h107, hb107⟩
            refine WL.call rfl (C.func go19) (sameT_ret _ _ _ _ (h105.at.bel hb107) h107.at (by omega)) ?_
            rintro _ w108 ⟨rfl, hb108⟩
            have bb := Below.step (Below.step hb105 hb107) hb108
            refine WL.y rfl (Y.pickT rfl) ?_
            refine WL.y rfl (Y.move) ?_
            refine WL.y rfl (Y.move) ?_
            refine WL.y rfl (Y.lenSl Try.underlying34 (hs83.bel bb) _) ?_
            refine WL.y rfl (Y.move) ?_
            refine WL.call rfl (C.func go21) (qlen_ret (q83.bel bb)) ?_
            rintro _ _ ⟨rfl, rfl⟩
            refine WL.y rfl (Y.dT (Y.eqi rfl rfl) (by omega)) ?_
            refine WL.y rfl (Y.pickT rfl) ?_
            refine WL.y rfl (Y.move) ?_
            refine WL.y rfl (Y.move) ?_
            refine WL.y rfl (Y.move) ?_
            refine WL.y rfl (Y.lenSl Try.underlying34 (hs83.bel bb) _) ?_
            refine WL.y rfl (Y.sub64 rfl rfl (by omega)) ?_
            refine WL.yex rfl (Y.idx Try.underlying34 ti43 (by decide) (hs83.bel bb) rfl (by omega) (by omega)) ?_
            rintro _ ⟨b122, o122, rfl, hc122⟩
            refine WL.y rfl (Y.fieldAddr fi43f1 ti30 (by decide) rfl (rfl) _) ?_
            refine WL.y rfl (Y.fieldAddr fi30f1 ti9 (by decide) rfl (rfl) _) ?_
            refine WL.y rfl (Y.load1 Try.underlying9 rfl rfl (elem_num' hj1 hj2 (by omega) hc122 2 _ hkey)) ?_
            refine WL.y rfl (Y.bT (Y.eqS (b := [121]) rfl rfl) (rfl)) ?_
            refine WL.y rfl (Y.pickT rfl) ?_
            refine WL.y rfl (Y.move) ?_
            refine WL.call rfl (C.func go16) (known_ret _) ?_
            rintro _ w129 ⟨rfl, hb129⟩
            refine WL.y rfl (Y.pickT rfl) ?_
            refine WL.y rfl (Y.assign) ?_
            refine WL.nil ?_
            refine WC.ret (endQ.one (.inr rfl) ?_)
            exact ⟨rfl, Below.step (Below.step b83 bb) hb129⟩
end Go.Proofs.Ytcbdpcehacklhaa
