/-
  law20: TableRises: walk.
-/
import Derived.Test.YtlhhognabmnlmaaTab14
namespace Go.Proofs.Ytlhhognabmnlmaa
open Go Go.RowKit Go.Cx
set_option linter.unusedVariables false
set_option maxHeartbeats 8000000
theorem atL_cnt {L : List Nt} (h : Good L) (c v : Int) : atL c v L = (cnt v (ofC c L) : Int) := by
  rw [atL_eq, take_cnt v (ofC_rise h.rise c)]
  rcases Nat.eq_zero_or_pos (cnt v (ofC c L)) with e | e
  · rw [e]; rfl
  · have hl := cnt_le v (ofC c L)
    rw [getLast_take e hl]
    show (ofC c L)[cnt v (ofC c L) - 1].2 = _
    rw [h.ids c _ (by omega)]
    omega
theorem atL_mono {L : List Nt} (h : Good L) (c : Int) {a b : Int} (hab : a ≤ b) : atL c a L ≤ atL c b L := by
  rw [atL_cnt h, atL_cnt h]
  have := cnt_mono hab (ofC c L)
  omega
theorem atL_last {L : List Nt} (h : Good L) (c v : Int) : atL c v L ≤ lastL c L := by
  rw [atL_cnt h, last_len h]
  have := cnt_le v (ofC c L)
  omega
theorem atL_new {L : List Nt} (h : Good L) (c : Int) : atL c (newestL L) L = lastL c L := by
  rw [atL_cnt h, last_len h]
  unfold cnt
  rw [List.filter_eq_self.2]
  intro p hp
  unfold ofC at hp
  have hqq := List.mem_map.1 hp
  obtain ⟨n, hn, rfl⟩ := hqq
  have := newest_le h.rise n (List.mem_filter.1 hn).1
  simpa using this
theorem atL_0 {L : List Nt} (h : Good L) (c v : Int) : 0 ≤ atL c v L := by rw [atL_cnt h]; omega
theorem tableRises_ret (w : World) (r : Value) (l : List A4) (hl : AcsAt w l r) (c : Int) (hc : (Lit.int .u64 c).wf = true) (a : Int) (ha : (Lit.int .u64 a).wf = true) (b : Int) (hb : (Lit.int .u64 b).wf = true) : Ret Try.prog 6 [r, .int .u64 c, .int .u64 a, .int .u64 b].toArray w fun v w' => v = .bool true ∧ Below w.heap.size w w' := by
  obtain ⟨hs, hu⟩ := hl
  by_cases hlong : 200 < l.length
  · refine Ret.of (n := 110) (rs := #[.tmp 8]) Try.func6 rfl rfl rfl (by simp) ?_
    refine WC.seqR rfl ?_
    refine WL.y rfl (Y.assign) ?_
    refine WL.nil ?_
    refine WC.seq ?_
    refine WC.seqR rfl ?_
    refine WL.y rfl (Y.move) ?_
    refine WL.y rfl (Y.lenSl Try.underlying51 (hs) _) ?_
    refine WL.y rfl (Y.dT (Y.gtr rfl rfl) (by omega)) ?_
    refine WL.nil ?_
    refine WC.condT (rfl) ?_
    refine WC.seqR rfl ?_
    refine WL.call rfl (C.func go17) (known_ret _) ?_
    rintro _ w23 ⟨rfl, hb23⟩
    refine WL.y rfl (Y.assign) ?_
    refine WL.nil ?_
    refine WC.ret (thenQ.ret (endQ.one (.inr rfl) ?_))
    exact ⟨rfl, hb23⟩
  · refine Ret.of (n := 110) (rs := #[.tmp 8]) Try.func6 rfl rfl rfl (by simp) ?_
    refine WC.seqR rfl ?_
    refine WL.y rfl (Y.assign) ?_
    refine WL.nil ?_
    refine WC.seq ?_
    refine WC.seqR rfl ?_
    refine WL.y rfl (Y.move) ?_
    refine WL.y rfl (Y.lenSl Try.underlying51 (hs) _) ?_
    refine WL.y rfl (Y.dF (Y.gtr rfl rfl) (by omega)) ?_
    refine WL.nil ?_
    refine WC.condF (rfl) ?_
    refine WC.skip (thenQ.normal ?_)
    refine WC.seqR rfl ?_
    refine WL.y rfl (Y.build (cells := #[.map none, .slice none 0 0, .int .u64 0, .int .u64 0]) (by kernel_rfl) _) ?_
    refine WL.eex rfl (E.boxX) ?_
    rintro _ w25 ⟨rfl, hB25, hb25⟩
    refine WL.y rfl (Y.build (cells := #[.slice none 0 0, .int .u64 0]) (by kernel_rfl) _) ?_
    refine WL.eex rfl (E.boxX) ?_
    rintro _ w27 ⟨rfl, hB27, hb27⟩
    refine WL.y rfl (Y.assign) ?_
    refine WL.y rfl (Y.assign) ?_
    refine WL.nil ?_
    refine WC.seq ?_
    have hBt : Blk w25 w.heap.size 27 [.map none, .slice none 0 0, .int .u64 0, .int .u64 0] := hB25
    have lBt := hBt.lt
    have h0 : St (fun _ => False) w.heap.size w27 w.heap.size [] 0 w25.heap.size [] 0 := st_zero (w := w) (w1 := w) (w2 := w) (Nat.le_refl _) lBt (hBt.bel hb27) hB27
    have k27 : Below w.heap.size w w27 := Below.step hb25 hb27
    clear hB25 hB27
    refine WC.seqR rfl ?_
    refine WL.y rfl (Y.assign) ?_
    refine WL.nil ?_
    refine WC.cut (fun f ds w' => ds = [] ∧ Below w.heap.size w w' ∧ (∃ bt L fl, St (fun _ => False) w.heap.size w' bt L fl w25.heap.size L fl ∧ Good L ∧ L.length ≤ 200 ∧ ∃ J, f = Go.Cx.ov J [(1, .int .u64 c), (2, .int .u64 a), (3, .int .u64 b), (9, .pointer (some ⟨bt, 0, none⟩))])) ?_ ?_
    · refine WC.block ?_
      refine WC.loop (fun j => l.length - j) (fun j f ds w' => j ≤ l.length ∧ ds = [] ∧ Below w.heap.size w w' ∧ (∃ bt L fl, St (fun _ => False) w.heap.size w' bt L fl w25.heap.size L fl ∧ Good L ∧ L.length ≤ j ∧ ∃ J, f = Go.Cx.ov J [(0, r), (1, .int .u64 c), (2, .int .u64 a), (3, .int .u64 b), (9, .pointer (some ⟨bt, 0, none⟩)), (10, .pointer (some ⟨w25.heap.size, 0, none⟩)), (11, .int .i64 (j : Int))])) 0 ?_ ?_
      · exact ⟨Nat.zero_le _, rfl, k27, _, [], 0, h0, Good.nil, Nat.le_refl _, _, ov_mk ⟨rfl, rfl, rfl, rfl, rfl, rfl, rfl, trivial⟩⟩
      · rintro j _ _ wL ⟨hj, rfl, kL, bt, L, fl, hS, hg, hL, J, rfl⟩
        refine WC.seq ?_
        refine WC.seqR rfl ?_
        refine WL.y rfl (Y.move) ?_
        refine WL.y rfl (Y.move) ?_
        refine WL.y rfl (Y.lenSl Try.underlying51 (hs) _) ?_
        refine WL.y rfl (Y.lss rfl rfl) ?_
        refine WL.nil ?_
        refine WC.condD rfl (fun h1 => ?_) (fun h1 => ?_)
        · have hjl : j < l.length := by omega
          refine WC.skip (thenQ.normal ?_)
          refine WC.seq ?_
          refine WC.block ?_
          refine WC.seqR rfl ?_
          refine WL.y rfl (Y.move) ?_
          refine WL.y rfl (Y.move) ?_
          refine WL.y rfl (Y.move) ?_
          refine WL.y rfl (Y.move) ?_
          refine WL.yex rfl (Y.idx Try.underlying51 ti53 (by decide) (hs.bel kL) rfl (by omega) (by omega)) ?_
          rintro _ ⟨b39, o39, rfl, hc39⟩
          refine WL.y rfl (Y.loadK Try.underlying53 rfl ti53 (rfl) rfl (elem_ac hjl hc39)) ?_
          refine WL.call rfl (C.func go20) (do_ret l[j] (hu _ (List.getElem_mem hjl)) hg (by omega) hS) ?_
          rintro _ w41 ⟨⟨b', rfl, -, h41⟩, k41⟩
          refine WL.y rfl (Y.move) ?_
          refine WL.y rfl (Y.extract rfl rfl) ?_
          refine WL.y rfl (Y.extract rfl rfl) ?_
          refine WL.y rfl (Y.assign) ?_
          refine WL.y rfl (Y.assign) ?_
          refine WL.nil ?_
          refine WC.seq ?_
          refine WC.seqR rfl ?_
          refine WL.y rfl (Y.move) ?_
          refine WL.y rfl (Y.bF (Y.not rfl) (rfl)) ?_
          refine WL.y rfl (Y.move) ?_
          refine WL.y rfl (Y.move) ?_
          refine WL.y rfl (Y.bF (Y.eqpn Try.underlying23 rfl rfl) (rfl)) ?_
          refine WL.y rfl (Y.pickF rfl) ?_
          refine WL.nil ?_
          refine WC.condF (rfl) ?_
          refine WC.skip (thenQ.normal ?_)
          refine WC.region rfl ?_
          refine WL.y rfl (Y.move) ?_
          refine WL.y rfl (Y.assign) ?_
          refine WL.nil (inBlockQ.normal (thenQ.normal ?_))
          refine WC.region rfl ?_
          refine WL.y rfl (Y.move) ?_
          refine WL.y rfl (Y.add64 rfl rfl (by omega)) ?_
          refine WL.y rfl (Y.assign) ?_
          refine WL.nil (thenQ.normal ?_)
          have s := kL.size
          refine ⟨j + 1, by omega, by omega, rfl, kL.trans (k41.below (fun x h => h.1) s), b', _, _, h41, actL_good hg, ?_, _, ov_mk ⟨rfl, rfl, rfl, rfl, rfl, rfl, rfl, trivial⟩⟩
          have := actL_len (a := l[j]) (L := L)
          omega
        · refine WC.exit (thenQ.exit (thenQ.exit (inBlockQ.hit (thenQ.normal ?_))))
          exact ⟨rfl, kL, bt, L, fl, hS, hg, by omega, _, ov_mk ⟨rfl, rfl, rfl, rfl, trivial⟩⟩
    · rintro _ _ wC ⟨rfl, kC, bt, L, fl, hS, hg, hL, J, rfl⟩
      refine WC.seq ?_
      refine WC.seqR rfl ?_
      refine WL.y rfl (Y.move) ?_
      refine WL.y rfl (Y.move) ?_
      refine WL.y rfl (Y.gtr rfl rfl) ?_
      refine WL.nil ?_
      refine WC.cut (fun f ds w' => ds = [] ∧ w' = wC ∧ ∃ x y J, x ≤ y ∧ f = Go.Cx.ov J [(1, .int .u64 c), (2, .int .u64 x), (3, .int .u64 y), (9, .pointer (some ⟨bt, 0, none⟩))]) ?_ ?_
      · skip
        refine WC.condD rfl (fun h2 => ?_) (fun h2 => ?_)
        · refine WC.region rfl ?_
          refine WL.y rfl (Y.move) ?_
          refine WL.y rfl (Y.move) ?_
          refine WL.y rfl (Y.assign) ?_
          refine WL.y rfl (Y.assign) ?_
          refine WL.nil (thenQ.normal ?_)
          exact ⟨rfl, rfl, b, a, _, by omega, ov_mk ⟨rfl, rfl, rfl, rfl, trivial⟩⟩
        · refine WC.skip (thenQ.normal ?_)
          exact ⟨rfl, rfl, a, b, _, by omega, ov_mk ⟨rfl, rfl, rfl, rfl, trivial⟩⟩
      · rintro _ _ _ ⟨rfl, rfl, x, y, J, hxy, rfl⟩
        have hm := atL_mono hg c hxy
        have hla := atL_last hg c y
        have hne := atL_new hg c
        have h00 := atL_0 hg c y
        have hl0 := last_rng hg c
        refine WC.seqR rfl ?_
        refine WL.y rfl (Y.move) ?_
        refine WL.y rfl (Y.move) ?_
        refine WL.y rfl (Y.move) ?_
        refine WL.call rfl (C.func go10) (hS.at c x hg (by omega)) ?_
        rintro _ w60 ⟨rfl, hb60⟩
        refine WL.y rfl (Y.move) ?_
        refine WL.y rfl (Y.extract rfl rfl) ?_
        refine WL.y rfl (Y.extract rfl rfl) ?_
        refine WL.y rfl (Y.assign) ?_
        refine WL.y rfl (Y.assign) ?_
        refine WL.nil ?_
        refine WC.seqR rfl ?_
        refine WL.y rfl (Y.move) ?_
        refine WL.y rfl (Y.move) ?_
        refine WL.y rfl (Y.move) ?_
        refine WL.call rfl (C.func go10) ((hS.bel hb60).at c y hg (by omega)) ?_
        rintro _ w67 ⟨rfl, hb67⟩
        refine WL.y rfl (Y.move) ?_
        refine WL.y rfl (Y.extract rfl rfl) ?_
        refine WL.y rfl (Y.extract rfl rfl) ?_
        refine WL.y rfl (Y.assign) ?_
        refine WL.y rfl (Y.assign) ?_
        refine WL.nil ?_
        refine WC.seq ?_
        have hS67 := (hS.bel hb60).bel hb67
        have k67 := Below.step (Below.step kC hb60) hb67
        by_cases c1 : fl ≤ x
        · have c2 : fl ≤ y := by omega
          rw [if_pos c1, if_pos c2, decide_eq_true c1, decide_eq_true c2]
          by_cases c3 : fl ≤ newestL L
          · refine WC.seqR rfl ?_
            refine WL.y rfl (Y.move) ?_
            refine WL.y rfl (Y.move) ?_
            refine WL.y rfl (Y.move) ?_
            refine WL.y rfl (Y.bF (Y.not rfl) (rfl)) ?_
            refine WL.y rfl (Y.pickT rfl) ?_
            refine WL.y rfl (Y.move) ?_
            refine WL.y rfl (Y.move) ?_
            refine WL.y rfl (Y.move) ?_
            refine WL.y rfl (Y.move) ?_
            refine WL.y rfl (Y.move) ?_
            refine WL.y rfl (Y.dF (Y.gtr rfl rfl) (by omega)) ?_
            refine WL.y rfl (Y.pickT rfl) ?_
            refine WL.y rfl (Y.pickF rfl) ?_
            refine WL.y rfl (Y.move) ?_
            refine WL.y rfl (Y.move) ?_
            refine WL.y rfl (Y.move) ?_
            refine WL.y rfl (Y.move) ?_
            refine WL.call rfl (C.func go13) (hS67.last c) ?_
            rintro _ _ ⟨rfl, rfl⟩
            refine WL.y rfl (Y.dF (Y.gtr rfl rfl) (by omega)) ?_
            refine WL.y rfl (Y.pickF rfl) ?_
            refine WL.nil ?_
            refine WC.condF (rfl) ?_
            refine WC.skip (thenQ.normal ?_)
            refine WC.seqR rfl ?_
            refine WL.y rfl (Y.move) ?_
            refine WL.y rfl (Y.move) ?_
            refine WL.y rfl (Y.move) ?_
            refine WL.call rfl (C.func go14) (hS67.newest) ?_
            rintro _ _ ⟨rfl, rfl⟩
            refine WL.call rfl (C.func go10) (hS67.at c (newestL L) hg (by omega)) ?_
            rintro _ w95 ⟨rfl, hb95⟩
            refine WL.y rfl (Y.move) ?_
            refine WL.y rfl (Y.extract rfl rfl) ?_
            refine WL.y rfl (Y.extract rfl rfl) ?_
            refine WL.y rfl (Y.assign) ?_
            refine WL.y rfl (Y.assign) ?_
            refine WL.nil ?_
            refine WC.seqR rfl ?_
            refine WL.y rfl (Y.move) ?_
            refine WL.y rfl (Y.bF (Y.not rfl) (by simp [c3])) ?_
            refine WL.y rfl (Y.move) ?_
            refine WL.y rfl (Y.move) ?_
            refine WL.y rfl (Y.move) ?_
            refine WL.y rfl (Y.move) ?_
            refine WL.call rfl (C.func go13) ((hS67.bel hb95).last c) ?_
            rintro _ _ ⟨rfl, rfl⟩
            refine WL.y rfl (Y.dT (Y.eqi rfl rfl) (by rw [if_pos c3]; exact hne)) ?_
            refine WL.y rfl (Y.pickF rfl) ?_
            refine WL.y rfl (Y.move) ?_
            refine WL.call rfl (C.func go17) (known_ret _) ?_
            rintro _ w108 ⟨rfl, hb108⟩
            refine WL.y rfl (Y.pickT rfl) ?_
            refine WL.y rfl (Y.assign) ?_
            refine WL.nil ?_
            refine WC.ret (endQ.one (.inr rfl) ?_)
            exact ⟨rfl, Below.step (Below.step k67 hb95) hb108⟩
          · refine WC.seqR rfl ?_
            refine WL.y rfl (Y.move) ?_
            refine WL.y rfl (Y.move) ?_
            refine WL.y rfl (Y.move) ?_
            refine WL.y rfl (Y.bF (Y.not rfl) (rfl)) ?_
            refine WL.y rfl (Y.pickT rfl) ?_
            refine WL.y rfl (Y.move) ?_
            refine WL.y rfl (Y.move) ?_
            refine WL.y rfl (Y.move) ?_
            refine WL.y rfl (Y.move) ?_
            refine WL.y rfl (Y.move) ?_
            refine WL.y rfl (Y.dF (Y.gtr rfl rfl) (by omega)) ?_
            refine WL.y rfl (Y.pickT rfl) ?_
            refine WL.y rfl (Y.pickF rfl) ?_
            refine WL.y rfl (Y.move) ?_
            refine WL.y rfl (Y.move) ?_
            refine WL.y rfl (Y.move) ?_
            refine WL.y rfl (Y.move) ?_
            refine WL.call rfl (C.func go13) (hS67.last c) ?_
            rintro _ _ ⟨rfl, rfl⟩
            refine WL.y rfl (Y.dF (Y.gtr rfl rfl) (by omega)) ?_
            refine WL.y rfl (Y.pickF rfl) ?_
            refine WL.nil ?_
            refine WC.condF (rfl) ?_
            refine WC.skip (thenQ.normal ?_)
            refine WC.seqR rfl ?_
            refine WL.y rfl (Y.move) ?_
            refine WL.y rfl (Y.move) ?_
            refine WL.y rfl (Y.move) ?_
            refine WL.call rfl (C.func go14) (hS67.newest) ?_
            rintro _ _ ⟨rfl, rfl⟩
            refine WL.call rfl (C.func go10) (hS67.at c (newestL L) hg (by omega)) ?_
            rintro _ w95 ⟨rfl, hb95⟩
            refine WL.y rfl (Y.move) ?_
            refine WL.y rfl (Y.extract rfl rfl) ?_
            refine WL.y rfl (Y.extract rfl rfl) ?_
            refine WL.y rfl (Y.assign) ?_
            refine WL.y rfl (Y.assign) ?_
            refine WL.nil ?_
            refine WC.seqR rfl ?_
            refine WL.y rfl (Y.move) ?_
            refine WL.y rfl (Y.bT (Y.not rfl) (by simp [c3])) ?_
            refine WL.y rfl (Y.move) ?_
            refine WL.off rfl ?_
            refine WL.off rfl ?_
            refine WL.off rfl ?_
            refine WL.off rfl ?_
            refine WL.off rfl ?_
            refine WL.y rfl (Y.pickT rfl) ?_
            refine WL.y rfl (Y.move) ?_
            refine WL.call rfl (C.func go17) (known_ret _) ?_
            rintro _ w108 ⟨rfl, hb108⟩
            refine WL.y rfl (Y.pickT rfl) ?_
            refine WL.y rfl (Y.assign) ?_
            refine WL.nil ?_
            refine WC.ret (endQ.one (.inr rfl) ?_)
            exact ⟨rfl, Below.step (Below.step k67 hb95) hb108⟩
        · rw [if_neg c1, decide_eq_false c1]
          have hyl : (if fl ≤ y then atL c y L else 0) ≤ lastL c L := by
            split
            · exact hla
            · omega
          by_cases c3 : fl ≤ newestL L
          · refine WC.seqR rfl ?_
            refine WL.y rfl (Y.move) ?_
            refine WL.y rfl (Y.move) ?_
            refine WL.off rfl ?_
            refine WL.off rfl ?_
            refine WL.y rfl (Y.pickF rfl) ?_
            refine WL.y rfl (Y.move) ?_
            refine WL.y rfl (Y.move) ?_
            refine WL.y rfl (Y.move) ?_
            refine WL.off rfl ?_
            refine WL.off rfl ?_
            refine WL.off rfl ?_
            refine WL.y rfl (Y.pickF rfl) ?_
            refine WL.y rfl (Y.pickF rfl) ?_
            refine WL.y rfl (Y.move) ?_
            refine WL.y rfl (Y.move) ?_
            refine WL.y rfl (Y.move) ?_
            refine WL.y rfl (Y.move) ?_
            refine WL.call rfl (C.func go13) (hS67.last c) ?_
            rintro _ _ ⟨rfl, rfl⟩
            refine WL.y rfl (Y.dF (Y.gtr rfl rfl) (by omega)) ?_
            refine WL.y rfl (Y.pickF rfl) ?_
            refine WL.nil ?_
            refine WC.condF (rfl) ?_
            refine WC.skip (thenQ.normal ?_)
            refine WC.seqR rfl ?_
            refine WL.y rfl (Y.move) ?_
            refine WL.y rfl (Y.move) ?_
            refine WL.y rfl (Y.move) ?_
            refine WL.call rfl (C.func go14) (hS67.newest) ?_
            rintro _ _ ⟨rfl, rfl⟩
            refine WL.call rfl (C.func go10) (hS67.at c (newestL L) hg (by omega)) ?_
            rintro _ w95 ⟨rfl, hb95⟩
            refine WL.y rfl (Y.move) ?_
            refine WL.y rfl (Y.extract rfl rfl) ?_
            refine WL.y rfl (Y.extract rfl rfl) ?_
            refine WL.y rfl (Y.assign) ?_
            refine WL.y rfl (Y.assign) ?_
            refine WL.nil ?_
            refine WC.seqR rfl ?_
            refine WL.y rfl (Y.move) ?_
            refine WL.y rfl (Y.bF (Y.not rfl) (by simp [c3])) ?_
            refine WL.y rfl (Y.move) ?_
            refine WL.y rfl (Y.move) ?_
            refine WL.y rfl (Y.move) ?_
            refine WL.y rfl (Y.move) ?_
            refine WL.call rfl (C.func go13) ((hS67.bel hb95).last c) ?_
            rintro _ _ ⟨rfl, rfl⟩
            refine WL.y rfl (Y.dT (Y.eqi rfl rfl) (by rw [if_pos c3]; exact hne)) ?_
            refine WL.y rfl (Y.pickF rfl) ?_
            refine WL.y rfl (Y.move) ?_
            refine WL.call rfl (C.func go17) (known_ret _) ?_
            rintro _ w108 ⟨rfl, hb108⟩
            refine WL.y rfl (Y.pickT rfl) ?_
            refine WL.y rfl (Y.assign) ?_
            refine WL.nil ?_
            refine WC.ret (endQ.one (.inr rfl) ?_)
            exact ⟨rfl, Below.step (Below.step k67 hb95) hb108⟩
          · skip
            skip
            refine WC.seqR rfl ?_
            refine WL.y rfl (Y.move) ?_
            refine WL.y rfl (Y.move) ?_
            refine WL.off rfl ?_
            refine WL.off rfl ?_
            refine WL.y rfl (Y.pickF rfl) ?_
            refine WL.y rfl (Y.move) ?_
            refine WL.y rfl (Y.move) ?_
            refine WL.y rfl (Y.move) ?_
            refine WL.off rfl ?_
            refine WL.off rfl ?_
            refine WL.off rfl ?_
            refine WL.y rfl (Y.pickF rfl) ?_
            refine WL.y rfl (Y.pickF rfl) ?_
            refine WL.y rfl (Y.move) ?_
            refine WL.y rfl (Y.move) ?_
            refine WL.y rfl (Y.move) ?_
            refine WL.y rfl (Y.move) ?_
            refine WL.call rfl (C.func go13) (hS67.last c) ?_
            rintro _ _ ⟨rfl, rfl⟩
            refine WL.y rfl (Y.dF (Y.gtr rfl rfl) (by omega)) ?_
            refine WL.y rfl (Y.pickF rfl) ?_
            refine WL.nil ?_
            refine WC.condF (rfl) ?_
            refine WC.skip (thenQ.normal ?_)
            refine WC.seqR rfl ?_
            refine WL.y rfl (Y.move) ?_
            refine WL.y rfl (Y.move) ?_
            refine WL.y rfl (Y.move) ?_
            refine WL.call rfl (C.func go14) (hS67.newest) ?_
            rintro _ _ ⟨rfl, rfl⟩
            refine WL.call rfl (C.func go10) (hS67.at c (newestL L) hg (by omega)) ?_
            rintro _ w95 ⟨rfl, hb95⟩
            refine WL.y rfl (Y.move) ?_
            refine WL.y rfl (Y.extract rfl rfl) ?_
            refine WL.y rfl (Y.extract rfl rfl) ?_
            refine WL.y rfl (Y.assign) ?_
            refine WL.y rfl (Y.assign) ?_
            refine WL.nil ?_
            refine WC.seqR rfl ?_
            refine WL.y rfl (Y.move) ?_
            refine WL.y rfl (Y.bT (Y.not rfl) (by simp [c3])) ?_
            refine WL.y rfl (Y.move) ?_
            refine WL.off rfl ?_
            refine WL.off rfl ?_
            refine WL.off rfl ?_
            refine WL.off rfl ?_
            refine WL.off rfl ?_
            refine WL.y rfl (Y.pickT rfl) ?_
            refine WL.y rfl (Y.move) ?_
            refine WL.call rfl (C.func go17) (known_ret _) ?_
            rintro _ w108 ⟨rfl, hb108⟩
            refine WL.y rfl (Y.pickT rfl) ?_
            refine WL.y rfl (Y.assign) ?_
            refine WL.nil ?_
            refine WC.ret (endQ.one (.inr rfl) ?_)
            exact ⟨rfl, Below.step (Below.step k67 hb95) hb108⟩
end Go.Proofs.Ytlhhognabmnlmaa
