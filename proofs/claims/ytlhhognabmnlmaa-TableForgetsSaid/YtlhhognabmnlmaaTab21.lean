/-
  law20: TablePlays, TableForgets: walks.
-/
import Derived.Test.YtlhhognabmnlmaaTab20
namespace Go.Proofs.Ytlhhognabmnlmaa
open Go Go.RowKit Go.Cx
set_option linter.unusedVariables false
set_option maxHeartbeats 8000000
set_option maxRecDepth 20000
theorem St.clients {F : Nat → Prop} {B : Nat} {w : World} {b bw : Nat} {L L2 : List Nt} {fl f2 : Int} (hL : L.length ≤ 50000) (h : St F B w b L fl bw L2 f2) : Ret Try.prog 15 [.pointer (some ⟨b, 0, none⟩)].toArray w (CliR (cliL L) w) := by
  obtain ⟨M, h1, _⟩ := h
  exact clients_ret h1 hL
theorem St.rclients {F : Nat → Prop} {B : Nat} {w : World} {b bw : Nat} {L L2 : List Nt} {fl f2 : Int} (hL : L2.length ≤ 50000) (h : St F B w b L fl bw L2 f2) : Ret Try.prog 22 [.pointer (some ⟨bw, 0, none⟩)].toArray w (CliR (cliL L2) w) := by
  obtain ⟨M, _, h2, _⟩ := h
  exact rclients_ret h2 hL
theorem tablePlays_ret (w : World) (r : Value) (l : List A4) (hl : AcsAt w l r) : Ret Try.prog 7 [r].toArray w fun v w' => v = .bool true ∧ Below w.heap.size w w' := by
  obtain ⟨hs, hu⟩ := hl
  by_cases hlong : 300 < l.length
  · refine Ret.of (n := 64) (rs := #[.tmp 2]) Try.func7 rfl rfl rfl (by simp) ?_
    refine WC.seqR rfl ?_
    refine WL.y rfl (Y.assign) ?_
    refine WL.nil ?_
    refine WC.seq ?_
    refine WC.seqR rfl ?_
    refine WL.y rfl (Y.move) ?_
    refine WL.y rfl (Y.lenSl Try.underlying51 (hs) _) ?_
    refine WL.y rfl (Y.dT (Y.gtr rfl rfl) (by omega)) ?_
    refine WL.nil ?_
    refine WC.condT (rfl) ?_
    refine WC.seqR rfl ?_
    refine WL.call rfl (C.func go17) (known_ret _) ?_
    rintro _ w11 ⟨rfl, hb11⟩
    refine WL.y rfl (Y.assign) ?_
    refine WL.nil ?_
    refine WC.ret (thenQ.ret (endQ.one (.inr rfl) ?_))
    exact ⟨rfl, hb11⟩
  · refine Ret.of (n := 64) (rs := #[.tmp 2]) Try.func7 rfl rfl rfl (by simp) ?_
    refine WC.seqR rfl ?_
    refine WL.y rfl (Y.assign) ?_
    refine WL.nil ?_
    refine WC.seq ?_
    refine WC.seqR rfl ?_
    refine WL.y rfl (Y.move) ?_
    refine WL.y rfl (Y.lenSl Try.underlying51 (hs) _) ?_
    refine WL.y rfl (Y.dF (Y.gtr rfl rfl) (by omega)) ?_
    refine WL.nil ?_
    refine WC.condF (rfl) ?_
    refine WC.skip (thenQ.normal ?_)
    refine WC.seqR rfl ?_
    refine WL.y rfl (Y.build (cells := #[.map none, .slice none 0 0, .int .u64 0, .int .u64 0]) (by kernel_rfl) _) ?_
    refine WL.eex rfl (E.boxX) ?_
    rintro _ w13 ⟨rfl, hB13, hb13⟩
    refine WL.y rfl (Y.build (cells := #[.slice none 0 0, .int .u64 0]) (by kernel_rfl) _) ?_
    refine WL.eex rfl (E.boxX) ?_
    rintro _ w15 ⟨rfl, hB15, hb15⟩
    refine WL.y rfl (Y.assign) ?_
    refine WL.y rfl (Y.assign) ?_
    refine WL.nil ?_
    refine WC.seq ?_
    have hBt : Blk w13 w.heap.size 27 [.map none, .slice none 0 0, .int .u64 0, .int .u64 0] := hB13
    have lBt := hBt.lt
    have h0 : St (fun _ => False) w.heap.size w15 w.heap.size [] 0 w13.heap.size [] 0 := st_zero (w := w) (w1 := w) (w2 := w) (Nat.le_refl _) lBt (hBt.bel hb15) hB15
    have k15 : Below w.heap.size w w15 := Below.step hb13 hb15
    clear hB13 hB15
    refine WC.seqR rfl ?_
    refine WL.y rfl (Y.assign) ?_
    refine WL.nil ?_
    refine WC.block ?_
    refine WC.loop (fun j => l.length - j) (fun j f ds w' => j ≤ l.length ∧ ds = [] ∧ Below w.heap.size w w' ∧ ∃ b L fl J, St (fun _ => False) w.heap.size w' b L fl w13.heap.size L fl ∧ Good L ∧ L.length ≤ j ∧ f = Go.Cx.ov J [(0, r), (3, .pointer (some ⟨b, 0, none⟩)), (4, .pointer (some ⟨w13.heap.size, 0, none⟩)), (5, .int .i64 (j : Int))]) 0 ?_ ?_
    · exact ⟨Nat.zero_le _, rfl, k15, _, [], 0, _, h0, Good.nil, Nat.le_refl _, ov_mk ⟨rfl, rfl, rfl, rfl, trivial⟩⟩
    · rintro j _ _ wL ⟨hj, rfl, kL, b, L, fl, J, hS, hg, hL, rfl⟩
      refine WC.seq ?_
      refine WC.seqR rfl ?_
      refine WL.y rfl (Y.move) ?_
      refine WL.y rfl (Y.move) ?_
      refine WL.y rfl (Y.lenSl Try.underlying51 (hs) _) ?_
      refine WL.y rfl (Y.lss rfl rfl) ?_
      refine WL.nil ?_
      refine WC.condD rfl (fun h1 => ?_) (fun h1 => ?_)
      · have hjl : j < l.length := by omega
        have hun := hu _ (List.getElem_mem hjl)
        have s := kL.size
        have hlen := actL_len (a := l[j]) (L := L)
        refine WC.skip (thenQ.normal ?_)
        refine WC.seq ?_
        refine WC.block ?_
        refine WC.seqR rfl ?_
        refine WL.y rfl (Y.move) ?_
        refine WL.y rfl (Y.move) ?_
        refine WL.y rfl (Y.move) ?_
        refine WL.y rfl (Y.move) ?_
        refine WL.yex rfl (Y.idx Try.underlying51 ti53 (by decide) (hs.bel kL) rfl (by omega) (by omega)) ?_
        rintro _ ⟨b27, o27, rfl, hc27⟩
        refine WL.y rfl (Y.loadK Try.underlying53 rfl ti53 (rfl) rfl (elem_ac hjl hc27)) ?_
        refine WL.call rfl (C.func go20) (do_ret l[j] hun hg (by omega) hS) ?_
        rintro _ w29 ⟨⟨b', rfl, -, h29⟩, k29⟩
        refine WL.y rfl (Y.move) ?_
        refine WL.y rfl (Y.extract rfl rfl) ?_
        refine WL.y rfl (Y.extract rfl rfl) ?_
        refine WL.y rfl (Y.assign) ?_
        refine WL.y rfl (Y.assign) ?_
        refine WL.nil ?_
        refine WC.seq ?_
        have kD : Below w.heap.size w w29 := kL.trans (k29.below (fun x h => h.1) s)
        have hsD := hs.bel kD
        have hgD : Good (actL l[j] L) := actL_good hg
        generalize actL l[j] L = LD at *
        generalize actF l[j] fl = fD at *
        have hcl := cliL_len LD
        refine WC.seq ?_
        refine WC.cut (fun f ds w' => ds = [] ∧ Below w29.heap.size w29 w' ∧ ∃ J, f = Go.Cx.ov J [(0, r), (4, .pointer (some ⟨w13.heap.size, 0, none⟩)), (5, .int .i64 (j : Int)), (6, .pointer (some ⟨b', 0, none⟩)), (61, .bool false)]) ?_ ?_
        · refine WC.regionB (fun i => Nat.beq i 19 || Nat.beq i 24 || Nat.beq i 26 || Nat.beq i 27) [(0, .any), (1, .any), (2, .any), (3, .any), (4, .any), (5, .any), (6, .any), (7, .any), (8, .any), (9, .any), (10, .any), (11, .any), (12, .any), (13, .held), (14, .any), (15, .any), (16, .any), (17, .any), (18, .held), (19, .seq), (20, .any), (21, .any), (22, .any), (23, .any), (25, .any), (24, .seq), (26, .seq), (27, .seq), (28, .any), (29, .any)] mixed (by kernel_rfl) (fun w8x hS8 hheap => ?_)
          refine RL.any rfl rfl (fun _ => Y.move) ?_
          refine RL.any rfl rfl (fun _ => Y.not rfl) ?_
          refine RL.any rfl rfl (fun _ => Y.move) ?_
          refine RL.any rfl rfl (fun _ => Y.move) ?_
          refine RL.any rfl rfl (fun _ => Y.bF (Y.eqpn Try.underlying23 rfl rfl) (rfl)) ?_
          refine RL.any rfl rfl (fun _ => Y.pickF rfl) ?_
          refine RL.any rfl rfl (fun _ => Y.move) ?_
          refine RL.any rfl rfl (fun _ => Y.move) ?_
          refine RL.any rfl rfl (fun _ => Y.move) ?_
          refine RL.any rfl rfl (fun _ => Y.move) ?_
          refine RL.any rfl rfl (fun _ => Y.move) ?_
          refine RL.yex rfl rfl (Y.idx Try.underlying51 ti53 (by decide) (hsD) rfl (by omega) (by omega)) ?_
          rintro _ ⟨b43, o43, rfl, hc43⟩
          refine RL.any rfl rfl (fun _ => Y.fieldAddr fi53f1 ti22 (by decide) rfl (rfl) _) ?_
          refine RL.held rfl rfl hS8 (fun _ hb9 => Y.load1 Try.underlying22 rfl rfl (cell_bel (cells_2 (elem_ac hjl hc43)) hb9)) ?_
          refine RL.any rfl rfl (fun _ => Y.move) ?_
          refine RL.any rfl rfl (fun _ => Y.move) ?_
          refine RL.yex rfl rfl (Y.idx Try.underlying51 ti53 (by decide) (hsD) rfl (by omega) (by omega)) ?_
          rintro _ ⟨b48, o48, rfl, hc48⟩
          refine RL.any rfl rfl (fun _ => Y.fieldAddr fi53f2 ti22 (by decide) rfl (rfl) _) ?_
          refine RL.held rfl rfl hS8 (fun _ hb9 => Y.load1 Try.underlying22 rfl rfl (cell_bel (cells_3 (elem_ac hjl hc48)) hb9)) ?_
          refine RL.call rfl rfl (C.func go19) (asks_ret l[j].c l[j].v hgD (by omega) (h29.bel hS8)) ?_
          rintro _ w51 ⟨rfl, hb51⟩
          refine ⟨.inl rfl, ?_⟩
          have h51 := (h29.bel hS8).bel hb51
          refine RL.any rfl rfl (fun _ => Y.not rfl) ?_
          refine RL.any rfl rfl (fun _ => Y.pickF rfl) ?_
          refine RL.any rfl rfl (fun _ => Y.move) ?_
          refine RL.any rfl rfl (fun _ => Y.move) ?_
          refine RL.any rfl rfl (fun _ => Y.move) ?_
          refine RL.call rfl rfl (C.func go15) (St.clients (L := LD) (by omega) (by first | exact h51.bel hb58 | exact h51)) ?_
          rintro v56 w56 ⟨hc56, hb56⟩
          refine ⟨.inl rfl, ?_⟩
          refine RL.call rfl rfl (C.func go22) (St.rclients (L2 := LD) (by omega) (by first | exact h51.bel hb56 | exact h51)) ?_
          rintro v58 w58 ⟨hc58, hb58⟩
          refine ⟨.inl rfl, ?_⟩
          refine RL.call rfl rfl (C.func go21) (same_ret (cliL LD) (by first | exact hc56.bel hb58 | exact hc56) (by first | exact hc58.bel hb56 | exact hc58) (by omega)) ?_
          rintro _ w59 ⟨rfl, hb59⟩
          refine ⟨.inl rfl, ?_⟩
          refine RL.any rfl rfl (fun _ => Y.not rfl) ?_
          refine RL.any rfl rfl (fun _ => Y.pickF rfl) ?_
          refine RL.nil (thenQ.normal ?_)
          exact ⟨rfl, Below.step (Below.step (Below.step (Below.step hS8 hb51) hb56) hb58) hb59, _, ov_mk ⟨rfl, rfl, rfl, rfl, rfl, trivial⟩⟩
        · rintro _ _ wE ⟨rfl, kE, J2, rfl⟩
          refine WC.condF (rfl) ?_
          refine WC.skip (thenQ.normal ?_)
          refine WC.region rfl ?_
          refine WL.y rfl (Y.move) ?_
          refine WL.y rfl (Y.assign) ?_
          refine WL.nil (inBlockQ.normal (thenQ.normal ?_))
          refine WC.region rfl ?_
          refine WL.y rfl (Y.move) ?_
          refine WL.y rfl (Y.add64 rfl rfl (by omega)) ?_
          refine WL.y rfl (Y.assign) ?_
          refine WL.nil (thenQ.normal ?_)
          exact ⟨j + 1, by omega, by omega, rfl, Below.step kD kE, b', LD, fD, _, h29.bel kE, hgD, by omega, ov_mk ⟨rfl, rfl, rfl, rfl, trivial⟩⟩
      · refine WC.exit (thenQ.exit (thenQ.exit (inBlockQ.hit (thenQ.normal ?_))))
        refine WC.seqR rfl ?_
        refine WL.call rfl (C.func go17) (known_ret _) ?_
        rintro _ w63 ⟨rfl, hb63⟩
        refine WL.y rfl (Y.assign) ?_
        refine WL.nil ?_
        refine WC.ret (endQ.one (.inr rfl) ?_)
        exact ⟨rfl, Below.step kL hb63⟩
theorem who2_ret {w : World} {M : Nat → Prop} {b : Nat} {L : List Nt} {fl : Int} (v : Int) (h : TabW w M b L fl) (hg : Good L) (hL : L.length ≤ 50000) : Ret Try.prog 11 [.pointer (some ⟨b, 0, none⟩), .int .u64 v].toArray w fun r w' => r = .tuple #[.int .u64 (nz (whoL fl v L)).c, .int .u64 (nz (whoL fl v L)).i, .bool (whoL fl v L).isSome] ∧ Below w.heap.size w w' :=
  (who_ret v h hg hL).mono fun r w' ⟨a, b⟩ => ⟨by rw [a]; cases whoL fl v L <;> rfl, b⟩
theorem at0_ret {w : World} {M : Nat → Prop} {b : Nat} {L : List Nt} {fl : Int} (c v : Int) (hv : fl ≤ v) (h : TabW w M b L fl) (hg : Good L) (hL : L.length ≤ 100000) : Ret Try.prog 10 [.pointer (some ⟨b, 0, none⟩), .int .u64 c, .int .u64 v].toArray w fun r w' => r = .tuple #[.int .u64 (atL c v L), .bool true] ∧ Below w.heap.size w w' :=
  (at_ret c v h hg hL).mono fun r w' ⟨a, b⟩ => ⟨by rw [a, if_pos hv, decide_eq_true hv], b⟩
theorem atN_ret {w : World} {M : Nat → Prop} {b : Nat} {L : List Nt} {fl : Int} (c v : Int) (hv : ¬ fl ≤ v) (h : TabW w M b L fl) (hg : Good L) (hL : L.length ≤ 100000) : Ret Try.prog 10 [.pointer (some ⟨b, 0, none⟩), .int .u64 c, .int .u64 v].toArray w fun r w' => r = .tuple #[.int .u64 0, .bool false] ∧ Below w.heap.size w w' :=
  (at_ret c v h hg hL).mono fun r w' ⟨a, b⟩ => ⟨by rw [a, if_neg hv, decide_eq_false hv], b⟩
theorem whoL_same {L : List Nt} {v x : Int} (h : v ≤ x) (h0 : 0 ≤ x) : whoL v x L = whoL 0 x L := by
  unfold whoL
  rw [decide_eq_true h, decide_eq_true h0]
theorem whoL_none {L : List Nt} {v x : Int} (h : ¬ v ≤ x) : whoL v x L = none := by
  unfold whoL
  rw [decide_eq_false h, List.find?_eq_none]
  intro n _
  simp
theorem whoS_ret {w : World} {M : Nat → Prop} {b : Nat} {L : List Nt} {fl : Int} (v : Int) (hv : fl ≤ v) (h0 : 0 ≤ v) (h : TabW w M b L fl) (hg : Good L) (hL : L.length ≤ 50000) : Ret Try.prog 11 [.pointer (some ⟨b, 0, none⟩), .int .u64 v].toArray w fun r w' => r = .tuple #[.int .u64 (nz (whoL 0 v L)).c, .int .u64 (nz (whoL 0 v L)).i, .bool (whoL 0 v L).isSome] ∧ Below w.heap.size w w' :=
  (who2_ret v h hg hL).mono fun r w' ⟨a, b⟩ => ⟨by rw [a, whoL_same hv h0], b⟩
theorem whoN_ret {w : World} {M : Nat → Prop} {b : Nat} {L : List Nt} {fl : Int} (v : Int) (hv : ¬ fl ≤ v) (h : TabW w M b L fl) (hg : Good L) (hL : L.length ≤ 50000) : Ret Try.prog 11 [.pointer (some ⟨b, 0, none⟩), .int .u64 v].toArray w fun r w' => r = .tuple #[.int .u64 0, .int .u64 0, .bool false] ∧ Below w.heap.size w w' :=
  (who2_ret v h hg hL).mono fun r w' ⟨a, b⟩ => ⟨by rw [a, whoL_none hv]; rfl, b⟩
theorem tableForgets_ret (w : World) (r : Value) (l : List A4) (hl : AcsAt w l r) (v : Int) (hv : (Lit.int .u64 v).wf = true) (c : Int) (hc : (Lit.int .u64 c).wf = true) (x : Int) (hx : (Lit.int .u64 x).wf = true) : Ret Try.prog 8 [r, .int .u64 v, .int .u64 c, .int .u64 x].toArray w fun v w' => v = .bool true ∧ Below w.heap.size w w' := by
  obtain ⟨hs, hu⟩ := hl
  have hv0 := u_wf hv
  have hx0 := u_wf hx
  clear hv hx hc
  by_cases hlong : 200 < l.length
  · refine Ret.of (n := 165) (rs := #[.tmp 8]) Try.func8 rfl rfl rfl (by simp) ?_
    refine WC.seqR rfl ?_
    refine WL.y rfl (Y.assign) ?_
    refine WL.nil ?_
    refine WC.seq ?_
    refine WC.seqR rfl ?_
    refine WL.y rfl (Y.move) ?_
    refine WL.y rfl (Y.lenSl Try.underlying51 (hs) _) ?_
    refine WL.y rfl (Y.dT (Y.gtr rfl rfl) (by omega)) ?_
    refine WL.nil ?_
    refine WC.condT (rfl) ?_
    refine WC.seqR rfl ?_
    refine WL.call rfl (C.func go17) (known_ret _) ?_
    rintro _ w26 ⟨rfl, hb26⟩
    refine WL.y rfl (Y.assign) ?_
    refine WL.nil ?_
    refine WC.ret (thenQ.ret (endQ.one (.inr rfl) ?_))
    exact ⟨rfl, hb26⟩
  · refine Ret.of (n := 165) (rs := #[.tmp 8]) Try.func8 rfl rfl rfl (by simp) ?_
    refine WC.seqR rfl ?_
    refine WL.y rfl (Y.assign) ?_
    refine WL.nil ?_
    refine WC.seq ?_
    refine WC.seqR rfl ?_
    refine WL.y rfl (Y.move) ?_
    refine WL.y rfl (Y.lenSl Try.underlying51 (hs) _) ?_
    refine WL.y rfl (Y.dF (Y.gtr rfl rfl) (by omega)) ?_
    refine WL.nil ?_
    refine WC.condF (rfl) ?_
    refine WC.skip (thenQ.normal ?_)
    refine WC.seqR rfl ?_
    refine WL.y rfl (Y.build (cells := #[.map none, .slice none 0 0, .int .u64 0, .int .u64 0]) (by kernel_rfl) _) ?_
    refine WL.eex rfl (E.boxX) ?_
    rintro _ w28 ⟨rfl, hB28, hb28⟩
    refine WL.y rfl (Y.build (cells := #[.slice none 0 0, .int .u64 0]) (by kernel_rfl) _) ?_
    refine WL.eex rfl (E.boxX) ?_
    rintro _ w30 ⟨rfl, hB30, hb30⟩
    refine WL.y rfl (Y.assign) ?_
    refine WL.y rfl (Y.assign) ?_
    refine WL.nil ?_
    refine WC.seq ?_
    have hBt : Blk w28 w.heap.size 27 [.map none, .slice none 0 0, .int .u64 0, .int .u64 0] := hB28
    have lBt := hBt.lt
    have h0 : St (fun _ => False) w.heap.size w30 w.heap.size [] 0 w28.heap.size [] 0 := st_zero (w := w) (w1 := w) (w2 := w) (Nat.le_refl _) lBt (hBt.bel hb30) hB30
    have k30 : Below w.heap.size w w30 := Below.step hb28 hb30
    clear hB28 hB30
    refine WC.seqR rfl ?_
    refine WL.y rfl (Y.assign) ?_
    refine WL.nil ?_
    refine WC.cut (fun f ds w' => ds = [] ∧ Below w.heap.size w w' ∧ (∃ L, St (fun _ => False) w.heap.size w' w.heap.size L 0 w28.heap.size L 0 ∧ Good L ∧ L.length ≤ 200) ∧ ∃ J, f = Go.Cx.ov J [(1, .int .u64 v), (2, .int .u64 c), (3, .int .u64 x), (9, .pointer (some ⟨w.heap.size, 0, none⟩))]) ?_ ?_
    · refine WC.block ?_
      refine WC.loop (fun j => l.length - j) (fun j f ds w' => j ≤ l.length ∧ ds = [] ∧ Below w.heap.size w w' ∧ (∃ L, St (fun _ => False) w.heap.size w' w.heap.size L 0 w28.heap.size L 0 ∧ Good L ∧ L.length ≤ j) ∧ ∃ J, f = Go.Cx.ov J [(0, r), (1, .int .u64 v), (2, .int .u64 c), (3, .int .u64 x), (9, .pointer (some ⟨w.heap.size, 0, none⟩)), (10, .pointer (some ⟨w28.heap.size, 0, none⟩)), (11, .int .i64 (j : Int))]) 0 ?_ ?_
      · exact ⟨Nat.zero_le _, rfl, k30, ⟨[], h0, Good.nil, Nat.le_refl _⟩, _, ov_mk ⟨rfl, rfl, rfl, rfl, rfl, rfl, rfl, trivial⟩⟩
      · rintro j _ _ wL ⟨hj, rfl, kL, ⟨L, hS, hg, hL⟩, J, rfl⟩
        refine WC.seq ?_
        refine WC.seqR rfl ?_
        refine WL.y rfl (Y.move) ?_
        refine WL.y rfl (Y.move) ?_
        refine WL.y rfl (Y.lenSl Try.underlying51 (hs) _) ?_
        refine WL.y rfl (Y.lss rfl rfl) ?_
        refine WL.nil ?_
        refine WC.condD rfl (fun h1 => ?_) (fun h1 => ?_)
        · have hjl : j < l.length := by omega
          have hun := hu _ (List.getElem_mem hjl)
          have s := kL.size
          have hlen := actL_len (a := l[j]) (L := L)
          refine WC.skip (thenQ.normal ?_)
          refine WC.seq ?_
          refine WC.block ?_
          by_cases c1 : l[j].k = 1
          · have e2 : actF l[j] 0 = 0 := if_neg (by omega)
            refine WC.seqR rfl ?_
            refine WL.y rfl (Y.move) ?_
            refine WL.y rfl (Y.move) ?_
            refine WL.yex rfl (Y.idx Try.underlying51 ti53 (by decide) (hs.bel kL) rfl (by omega) (by omega)) ?_
            rintro _ ⟨b39, o39, rfl, hc39⟩
            refine WL.y rfl (Y.fieldAddr fi53f0 ti3 (by decide) rfl (rfl) _) ?_
            refine WL.y rfl (Y.load1 Try.underlying3 rfl rfl (cells_hd (elem_ac hjl hc39))) ?_
            refine WL.y rfl (Y.dT (Y.eqi rfl rfl) (by omega)) ?_
            refine WL.y rfl (Y.move) ?_
            refine WL.off rfl ?_
            refine WL.off rfl ?_
            refine WL.off rfl ?_
            refine WL.off rfl ?_
            refine WL.off rfl ?_
            refine WL.off rfl ?_
            refine WL.y rfl (Y.pickT rfl) ?_
            refine WL.nil ?_
            refine WC.condT (rfl) ?_
            refine WC.region rfl ?_
            refine WL.y rfl (Y.move) ?_
            refine WL.y rfl (Y.move) ?_
            refine WL.y rfl (Y.move) ?_
            refine WL.y rfl (Y.move) ?_
            refine WL.yex rfl (Y.idx Try.underlying51 ti53 (by decide) (hs.bel kL) rfl (by omega) (by omega)) ?_
            rintro _ ⟨b55, o55, rfl, hc55⟩
            refine WL.y rfl (Y.loadK Try.underlying53 rfl ti53 (rfl) rfl (elem_ac hjl hc55)) ?_
            refine WL.call rfl (C.func go20) (do_ret l[j] hun hg (by omega) hS) ?_
            rintro _ w57 ⟨⟨b', rfl, hb', h57⟩, k57⟩
            refine WL.nil (inBlockQ.normal (thenQ.normal ?_))
            refine WC.region rfl ?_
            refine WL.y rfl (Y.move) ?_
            refine WL.y rfl (Y.add64 rfl rfl (by omega)) ?_
            refine WL.y rfl (Y.assign) ?_
            refine WL.nil (thenQ.normal ?_)
            rw [hb' (by omega), e2] at h57
            exact ⟨j + 1, by omega, by omega, rfl, kL.trans (k57.below (fun x h => h.1) s), ⟨_, h57, actL_good hg, by omega⟩, _, ov_mk ⟨rfl, rfl, rfl, rfl, rfl, rfl, rfl, trivial⟩⟩
          · by_cases c2 : l[j].k = 2
            · have e2 : actF l[j] 0 = 0 := if_neg (by omega)
              refine WC.seqR rfl ?_
              refine WL.y rfl (Y.move) ?_
              refine WL.y rfl (Y.move) ?_
              refine WL.yex rfl (Y.idx Try.underlying51 ti53 (by decide) (hs.bel kL) rfl (by omega) (by omega)) ?_
              rintro _ ⟨b39, o39, rfl, hc39⟩
              refine WL.y rfl (Y.fieldAddr fi53f0 ti3 (by decide) rfl (rfl) _) ?_
              refine WL.y rfl (Y.load1 Try.underlying3 rfl rfl (cells_hd (elem_ac hjl hc39))) ?_
              refine WL.y rfl (Y.dF (Y.eqi rfl rfl) (by omega)) ?_
              refine WL.y rfl (Y.move) ?_
              refine WL.y rfl (Y.move) ?_
              refine WL.y rfl (Y.move) ?_
              refine WL.yex rfl (Y.idx Try.underlying51 ti53 (by decide) (hs.bel kL) rfl (by omega) (by omega)) ?_
              rintro _ ⟨b46, o46, rfl, hc46⟩
              refine WL.y rfl (Y.fieldAddr fi53f0 ti3 (by decide) rfl (rfl) _) ?_
              refine WL.y rfl (Y.load1 Try.underlying3 rfl rfl (cells_hd (elem_ac hjl hc46))) ?_
              refine WL.y rfl (Y.dT (Y.eqi rfl rfl) (by omega)) ?_
              refine WL.y rfl (Y.pickF rfl) ?_
              refine WL.nil ?_
              refine WC.condT (rfl) ?_
              refine WC.region rfl ?_
              refine WL.y rfl (Y.move) ?_
              refine WL.y rfl (Y.move) ?_
              refine WL.y rfl (Y.move) ?_
              refine WL.y rfl (Y.move) ?_
              refine WL.yex rfl (Y.idx Try.underlying51 ti53 (by decide) (hs.bel kL) rfl (by omega) (by omega)) ?_
              rintro _ ⟨b55, o55, rfl, hc55⟩
              refine WL.y rfl (Y.loadK Try.underlying53 rfl ti53 (rfl) rfl (elem_ac hjl hc55)) ?_
              refine WL.call rfl (C.func go20) (do_ret l[j] hun hg (by omega) hS) ?_
              rintro _ w57 ⟨⟨b', rfl, hb', h57⟩, k57⟩
              refine WL.nil (inBlockQ.normal (thenQ.normal ?_))
              refine WC.region rfl ?_
              refine WL.y rfl (Y.move) ?_
              refine WL.y rfl (Y.add64 rfl rfl (by omega)) ?_
              refine WL.y rfl (Y.assign) ?_
              refine WL.nil (thenQ.normal ?_)
              rw [hb' (by omega), e2] at h57
              exact ⟨j + 1, by omega, by omega, rfl, kL.trans (k57.below (fun x h => h.1) s), ⟨_, h57, actL_good hg, by omega⟩, _, ov_mk ⟨rfl, rfl, rfl, rfl, rfl, rfl, rfl, trivial⟩⟩
            · skip
              skip
              refine WC.seqR rfl ?_
              refine WL.y rfl (Y.move) ?_
              refine WL.y rfl (Y.move) ?_
              refine WL.yex rfl (Y.idx Try.underlying51 ti53 (by decide) (hs.bel kL) rfl (by omega) (by omega)) ?_
              rintro _ ⟨b39, o39, rfl, hc39⟩
              refine WL.y rfl (Y.fieldAddr fi53f0 ti3 (by decide) rfl (rfl) _) ?_
              refine WL.y rfl (Y.load1 Try.underlying3 rfl rfl (cells_hd (elem_ac hjl hc39))) ?_
              refine WL.y rfl (Y.dF (Y.eqi rfl rfl) (by omega)) ?_
              refine WL.y rfl (Y.move) ?_
              refine WL.y rfl (Y.move) ?_
              refine WL.y rfl (Y.move) ?_
              refine WL.yex rfl (Y.idx Try.underlying51 ti53 (by decide) (hs.bel kL) rfl (by omega) (by omega)) ?_
              rintro _ ⟨b46, o46, rfl, hc46⟩
              refine WL.y rfl (Y.fieldAddr fi53f0 ti3 (by decide) rfl (rfl) _) ?_
              refine WL.y rfl (Y.load1 Try.underlying3 rfl rfl (cells_hd (elem_ac hjl hc46))) ?_
              refine WL.y rfl (Y.dF (Y.eqi rfl rfl) (by omega)) ?_
              refine WL.y rfl (Y.pickF rfl) ?_
              refine WL.nil ?_
              refine WC.condF (rfl) ?_
              refine WC.skip (inBlockQ.normal (thenQ.normal ?_))
              refine WC.region rfl ?_
              refine WL.y rfl (Y.move) ?_
              refine WL.y rfl (Y.add64 rfl rfl (by omega)) ?_
              refine WL.y rfl (Y.assign) ?_
              refine WL.nil (thenQ.normal ?_)
              exact ⟨j + 1, by omega, by omega, rfl, kL, ⟨L, hS, hg, by omega⟩, _, ov_mk ⟨rfl, rfl, rfl, rfl, rfl, rfl, rfl, trivial⟩⟩
        · refine WC.exit (thenQ.exit (thenQ.exit (inBlockQ.hit (thenQ.normal ?_))))
          exact ⟨rfl, kL, ⟨L, hS, hg, by omega⟩, _, ov_mk ⟨rfl, rfl, rfl, rfl, trivial⟩⟩
    · rintro _ _ wC ⟨rfl, kC, ⟨L, hS, hg, hL⟩, J, rfl⟩
      have sC := kC.size
      have hcl := cliL_len L
      have hS' := hS
      have hqq := hS'
      obtain ⟨M0, hT0, -, hM0, -, -, -⟩ := hqq
      refine WC.seqR rfl ?_
      refine WL.y rfl (Y.move) ?_
      refine WL.call rfl (C.func go16) (hS.copy (by omega)) ?_
      rintro _ w59 ⟨⟨cb, rfl, hc59⟩, hb59⟩
      refine WL.y rfl (Y.assign) ?_
      refine WL.nil ?_
      refine WC.seq ?_
      refine WC.seqR rfl ?_
      refine WL.y rfl (Y.move) ?_
      refine WL.y rfl (Y.bF (Y.eqpn Try.underlying23 rfl rfl) (rfl)) ?_
      refine WL.nil ?_
      refine WC.condF (rfl) ?_
      refine WC.skip (thenQ.normal ?_)
      refine WC.seqR rfl ?_
      refine WL.y rfl (Y.move) ?_
      refine WL.y rfl (Y.move) ?_
      refine WL.call rfl (C.func go9) (forget_ret v hc59 hg (by omega)) ?_
      rintro _ w64 ⟨hc64, k64⟩
      refine WL.nil ?_
      have e0 : flUp 0 v = v := by unfold flUp; split <;> omega
      rw [e0] at hc64
      have hT64 : TabW w64 M0 w.heap.size L 0 := (hT0.bel hb59).kept k64 (fun y hy hm => by have := (hM0 y hy).2.1; omega)
      have kD : Below w.heap.size w w64 := (Below.step kC hb59).trans (k64.below (fun y h => by omega) (by have := hb59.size; omega))
      generalize (fun y => (wC.heap.size ≤ y ∧ y < w59.heap.size) ∨ w59.heap.size ≤ y) = MC at *
      by_cases cv : v ≤ x
      · refine WC.seqR rfl ?_
        refine WL.y rfl (Y.move) ?_
        refine WL.y rfl (Y.move) ?_
        refine WL.y rfl (Y.move) ?_
        refine WL.call rfl (C.func go10) (at0_ret c x hx0 hT64 hg (by omega)) ?_
        rintro _ w69 ⟨rfl, hb69⟩
        refine WL.y rfl (Y.move) ?_
        refine WL.y rfl (Y.extract rfl rfl) ?_
        refine WL.y rfl (Y.extract rfl rfl) ?_
        refine WL.y rfl (Y.assign) ?_
        refine WL.y rfl (Y.assign) ?_
        refine WL.nil ?_
        refine WC.seqR rfl ?_
        refine WL.y rfl (Y.move) ?_
        refine WL.y rfl (Y.move) ?_
        refine WL.y rfl (Y.move) ?_
        refine WL.call rfl (C.func go10) (at0_ret c x cv (hc64.bel hb69) hg (by omega)) ?_
        rintro _ w76 ⟨rfl, hb76⟩
        refine WL.y rfl (Y.move) ?_
        refine WL.y rfl (Y.extract rfl rfl) ?_
        refine WL.y rfl (Y.extract rfl rfl) ?_
        refine WL.y rfl (Y.assign) ?_
        refine WL.y rfl (Y.assign) ?_
        refine WL.nil ?_
        refine WC.seqR rfl ?_
        refine WL.y rfl (Y.move) ?_
        refine WL.y rfl (Y.move) ?_
        refine WL.call rfl (C.func go11) (who2_ret x ((hT64.bel hb69).bel hb76) hg (by omega)) ?_
        rintro _ w82 ⟨rfl, hb82⟩
        refine WL.y rfl (Y.move) ?_
        refine WL.y rfl (Y.extract rfl rfl) ?_
        refine WL.y rfl (Y.extract rfl rfl) ?_
        refine WL.y rfl (Y.extract rfl rfl) ?_
        refine WL.y rfl (Y.assign) ?_
        refine WL.y rfl (Y.assign) ?_
        refine WL.y rfl (Y.assign) ?_
        refine WL.nil ?_
        refine WC.seqR rfl ?_
        refine WL.y rfl (Y.move) ?_
        refine WL.y rfl (Y.move) ?_
        refine WL.call rfl (C.func go11) (whoS_ret x cv hx0 (((hc64.bel hb69).bel hb76).bel hb82) hg (by omega)) ?_
        rintro _ w89 ⟨rfl, hb89⟩
        have kE := Below.step (Below.step (Below.step (Below.step kD hb69) hb76) hb82) hb89
        have hT := (((hT64.bel hb69).bel hb76).bel hb82).bel hb89
        have hC := (((hc64.bel hb69).bel hb76).bel hb82).bel hb89
        refine WL.y rfl (Y.move) ?_
        refine WL.y rfl (Y.extract rfl rfl) ?_
        refine WL.y rfl (Y.extract rfl rfl) ?_
        refine WL.y rfl (Y.extract rfl rfl) ?_
        refine WL.y rfl (Y.assign) ?_
        refine WL.y rfl (Y.assign) ?_
        refine WL.y rfl (Y.assign) ?_
        refine WL.nil ?_
        refine WC.seq ?_
        refine WC.seqR rfl ?_
        refine WL.y rfl (Y.move) ?_
        refine WL.y rfl (Y.not rfl) ?_
        refine WL.y rfl (Y.move) ?_
        refine WL.y rfl (Y.move) ?_
        refine WL.y rfl (Y.move) ?_
        refine WL.y rfl (Y.move) ?_
        refine WL.y rfl (Y.dT (Y.geq rfl rfl) (by omega)) ?_
        refine WL.y rfl (Y.bF (Y.neb Try.underlying4 rfl rfl) (rfl)) ?_
        refine WL.y rfl (Y.pickF rfl) ?_
        refine WL.y rfl (Y.move) ?_
        refine WL.y rfl (Y.move) ?_
        refine WL.y rfl (Y.move) ?_
        refine WL.call rfl (C.func go13) (last_ret c hC) ?_
        rintro _ _ ⟨rfl, rfl⟩
        refine WL.y rfl (Y.move) ?_
        refine WL.y rfl (Y.move) ?_
        refine WL.call rfl (C.func go13) (last_ret c hT) ?_
        rintro _ _ ⟨rfl, rfl⟩
        refine WL.y rfl (Y.dF (Y.nei rfl rfl) (by omega)) ?_
        refine WL.y rfl (Y.pickF rfl) ?_
        refine WL.y rfl (Y.move) ?_
        refine WL.y rfl (Y.move) ?_
        refine WL.call rfl (C.func go14) (newest_ret hC) ?_
        rintro _ _ ⟨rfl, rfl⟩
        refine WL.y rfl (Y.move) ?_
        refine WL.call rfl (C.func go14) (newest_ret hT) ?_
        rintro _ _ ⟨rfl, rfl⟩
        refine WL.y rfl (Y.dF (Y.nei rfl rfl) (by omega)) ?_
        refine WL.y rfl (Y.pickF rfl) ?_
        refine WL.y rfl (Y.move) ?_
        refine WL.y rfl (Y.move) ?_
        refine WL.call rfl (C.func go15) (clients_ret hC (by omega)) ?_
        rintro v120 w120 ⟨hc120, hb120⟩
        refine WL.y rfl (Y.move) ?_
        refine WL.call rfl (C.func go15) (clients_ret (hT.bel hb120) (by omega)) ?_
        rintro v122 w122 ⟨hc122, hb122⟩
        refine WL.call rfl (C.func go21) (same_ret (cliL L) (hc120.bel hb122) hc122 (by omega)) ?_
        rintro _ w123 ⟨rfl, hb123⟩
        refine WL.y rfl (Y.not rfl) ?_
        refine WL.y rfl (Y.pickF rfl) ?_
        refine WL.nil ?_
        refine WC.condF (rfl) ?_
        refine WC.skip (thenQ.normal ?_)
        refine WC.seq ?_
        refine WC.seqR rfl ?_
        refine WL.y rfl (Y.move) ?_
        refine WL.nil ?_
        refine WC.condT (rfl) ?_
        refine WC.seqR rfl ?_
        refine WL.y rfl (Y.move) ?_
        refine WL.y rfl (Y.move) ?_
        refine WL.y rfl (Y.dT (Y.eqi rfl rfl) (by omega)) ?_
        refine WL.y rfl (Y.move) ?_
        refine WL.y rfl (Y.move) ?_
        refine WL.y rfl (Y.move) ?_
        refine WL.y rfl (Y.dT (Y.eqi rfl rfl) (by omega)) ?_
        refine WL.y rfl (Y.pickT rfl) ?_
        refine WL.y rfl (Y.move) ?_
        refine WL.y rfl (Y.move) ?_
        refine WL.y rfl (Y.move) ?_
        refine WL.y rfl (Y.dT (Y.eqi rfl rfl) (by omega)) ?_
        refine WL.y rfl (Y.pickT rfl) ?_
        refine WL.y rfl (Y.move) ?_
        refine WL.y rfl (Y.move) ?_
        refine WL.y rfl (Y.move) ?_
        refine WL.y rfl (Y.bT (Y.eqb Try.underlying4 rfl rfl) (by simp)) ?_
        refine WL.y rfl (Y.pickT rfl) ?_
        refine WL.y rfl (Y.move) ?_
        refine WL.call rfl (C.func go17) (known_ret _) ?_
        rintro _ w146 ⟨rfl, hb146⟩
        refine WL.y rfl (Y.pickT rfl) ?_
        refine WL.y rfl (Y.assign) ?_
        refine WL.nil ?_
        refine WC.ret (thenQ.ret (endQ.one (.inr rfl) ?_))
        exact ⟨rfl, Below.step (Below.step (Below.step (Below.step kE hb120) hb122) hb123) hb146⟩
      · skip
        skip
        refine WC.seqR rfl ?_
        refine WL.y rfl (Y.move) ?_
        refine WL.y rfl (Y.move) ?_
        refine WL.y rfl (Y.move) ?_
        refine WL.call rfl (C.func go10) (at0_ret c x hx0 hT64 hg (by omega)) ?_
        rintro _ w69 ⟨rfl, hb69⟩
        refine WL.y rfl (Y.move) ?_
        refine WL.y rfl (Y.extract rfl rfl) ?_
        refine WL.y rfl (Y.extract rfl rfl) ?_
        refine WL.y rfl (Y.assign) ?_
        refine WL.y rfl (Y.assign) ?_
        refine WL.nil ?_
        refine WC.seqR rfl ?_
        refine WL.y rfl (Y.move) ?_
        refine WL.y rfl (Y.move) ?_
        refine WL.y rfl (Y.move) ?_
        refine WL.call rfl (C.func go10) (atN_ret c x cv (hc64.bel hb69) hg (by omega)) ?_
        rintro _ w76 ⟨rfl, hb76⟩
        refine WL.y rfl (Y.move) ?_
        refine WL.y rfl (Y.extract rfl rfl) ?_
        refine WL.y rfl (Y.extract rfl rfl) ?_
        refine WL.y rfl (Y.assign) ?_
        refine WL.y rfl (Y.assign) ?_
        refine WL.nil ?_
        refine WC.seqR rfl ?_
        refine WL.y rfl (Y.move) ?_
        refine WL.y rfl (Y.move) ?_
        refine WL.call rfl (C.func go11) (who2_ret x ((hT64.bel hb69).bel hb76) hg (by omega)) ?_
        rintro _ w82 ⟨rfl, hb82⟩
        refine WL.y rfl (Y.move) ?_
        refine WL.y rfl (Y.extract rfl rfl) ?_
        refine WL.y rfl (Y.extract rfl rfl) ?_
        refine WL.y rfl (Y.extract rfl rfl) ?_
        refine WL.y rfl (Y.assign) ?_
        refine WL.y rfl (Y.assign) ?_
        refine WL.y rfl (Y.assign) ?_
        refine WL.nil ?_
        refine WC.seqR rfl ?_
        refine WL.y rfl (Y.move) ?_
        refine WL.y rfl (Y.move) ?_
        refine WL.call rfl (C.func go11) (whoN_ret x cv (((hc64.bel hb69).bel hb76).bel hb82) hg (by omega)) ?_
        rintro _ w89 ⟨rfl, hb89⟩
        have kE := Below.step (Below.step (Below.step (Below.step kD hb69) hb76) hb82) hb89
        have hT := (((hT64.bel hb69).bel hb76).bel hb82).bel hb89
        have hC := (((hc64.bel hb69).bel hb76).bel hb82).bel hb89
        refine WL.y rfl (Y.move) ?_
        refine WL.y rfl (Y.extract rfl rfl) ?_
        refine WL.y rfl (Y.extract rfl rfl) ?_
        refine WL.y rfl (Y.extract rfl rfl) ?_
        refine WL.y rfl (Y.assign) ?_
        refine WL.y rfl (Y.assign) ?_
        refine WL.y rfl (Y.assign) ?_
        refine WL.nil ?_
        refine WC.seq ?_
        refine WC.seqR rfl ?_
        refine WL.y rfl (Y.move) ?_
        refine WL.y rfl (Y.not rfl) ?_
        refine WL.y rfl (Y.move) ?_
        refine WL.y rfl (Y.move) ?_
        refine WL.y rfl (Y.move) ?_
        refine WL.y rfl (Y.move) ?_
        refine WL.y rfl (Y.dF (Y.geq rfl rfl) (by omega)) ?_
        refine WL.y rfl (Y.bF (Y.neb Try.underlying4 rfl rfl) (rfl)) ?_
        refine WL.y rfl (Y.pickF rfl) ?_
        refine WL.y rfl (Y.move) ?_
        refine WL.y rfl (Y.move) ?_
        refine WL.y rfl (Y.move) ?_
        refine WL.call rfl (C.func go13) (last_ret c hC) ?_
        rintro _ _ ⟨rfl, rfl⟩
        refine WL.y rfl (Y.move) ?_
        refine WL.y rfl (Y.move) ?_
        refine WL.call rfl (C.func go13) (last_ret c hT) ?_
        rintro _ _ ⟨rfl, rfl⟩
        refine WL.y rfl (Y.dF (Y.nei rfl rfl) (by omega)) ?_
        refine WL.y rfl (Y.pickF rfl) ?_
        refine WL.y rfl (Y.move) ?_
        refine WL.y rfl (Y.move) ?_
        refine WL.call rfl (C.func go14) (newest_ret hC) ?_
        rintro _ _ ⟨rfl, rfl⟩
        refine WL.y rfl (Y.move) ?_
        refine WL.call rfl (C.func go14) (newest_ret hT) ?_
        rintro _ _ ⟨rfl, rfl⟩
        refine WL.y rfl (Y.dF (Y.nei rfl rfl) (by omega)) ?_
        refine WL.y rfl (Y.pickF rfl) ?_
        refine WL.y rfl (Y.move) ?_
        refine WL.y rfl (Y.move) ?_
        refine WL.call rfl (C.func go15) (clients_ret hC (by omega)) ?_
        rintro v120 w120 ⟨hc120, hb120⟩
        refine WL.y rfl (Y.move) ?_
        refine WL.call rfl (C.func go15) (clients_ret (hT.bel hb120) (by omega)) ?_
        rintro v122 w122 ⟨hc122, hb122⟩
        refine WL.call rfl (C.func go21) (same_ret (cliL L) (hc120.bel hb122) hc122 (by omega)) ?_
        rintro _ w123 ⟨rfl, hb123⟩
        refine WL.y rfl (Y.not rfl) ?_
        refine WL.y rfl (Y.pickF rfl) ?_
        refine WL.nil ?_
        refine WC.condF (rfl) ?_
        refine WC.skip (thenQ.normal ?_)
        refine WC.seq ?_
        refine WC.seqR rfl ?_
        refine WL.y rfl (Y.move) ?_
        refine WL.nil ?_
        refine WC.condF (rfl) ?_
        refine WC.skip (thenQ.normal ?_)
        refine WC.seqR rfl ?_
        refine WL.y rfl (Y.move) ?_
        refine WL.y rfl (Y.dT (Y.eqi rfl rfl) (by omega)) ?_
        refine WL.y rfl (Y.move) ?_
        refine WL.y rfl (Y.move) ?_
        refine WL.y rfl (Y.dT (Y.eqi rfl rfl) (by omega)) ?_
        refine WL.y rfl (Y.pickT rfl) ?_
        refine WL.y rfl (Y.move) ?_
        refine WL.y rfl (Y.move) ?_
        refine WL.y rfl (Y.dT (Y.eqi rfl rfl) (by omega)) ?_
        refine WL.y rfl (Y.pickT rfl) ?_
        refine WL.y rfl (Y.move) ?_
        refine WL.y rfl (Y.move) ?_
        refine WL.y rfl (Y.not rfl) ?_
        refine WL.y rfl (Y.pickT rfl) ?_
        refine WL.y rfl (Y.move) ?_
        refine WL.call rfl (C.func go17) (known_ret _) ?_
        rintro _ w163 ⟨rfl, hb163⟩
        refine WL.y rfl (Y.pickT rfl) ?_
        refine WL.y rfl (Y.assign) ?_
        refine WL.nil ?_
        refine WC.ret (endQ.one (.inr rfl) ?_)
        exact ⟨rfl, Below.step (Below.step (Below.step (Below.step kE hb120) hb122) hb123) hb163⟩
end Go.Proofs.Ytlhhognabmnlmaa
