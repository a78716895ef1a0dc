/-
  queue: Cut's errors, Of; law23: del, same: walks.
-/
import Derived.Test.YtcbdpcehacklhaaQue3
namespace Go.Proofs.Ytcbdpcehacklhaa
open Go Go.RowKit Go.Cx
set_option linter.unusedVariables false
set_option maxHeartbeats 8000000
theorem qcut_old {w : World} {M : Nat → Prop} {q : Nat} {last : Int} {ms : List Mt} (h : QW w M q last ms) (to : Int) (h1 : to < last) : Ret Try.prog 18 [.pointer (some ⟨q, 0, none⟩), .int .u64 to].toArray w fun v w' => v = .int .i64 15 ∧ Below w.heap.size w w' := by
  obtain ⟨r, hB, hM, hN, hrg⟩ := h
  refine Ret.of (n := 44) (rs := #[.tmp 4]) Try.func18 rfl rfl rfl (by simp) ?_
  refine WC.seqR rfl ?_
  refine WL.y rfl (Y.assign) ?_
  refine WL.nil ?_
  refine WC.seq ?_
  refine WC.seqR rfl ?_
  refine WL.y rfl (Y.move) ?_
  refine WL.y rfl (Y.eqpn Try.underlying32 rfl rfl) ?_
  refine WL.nil ?_
  refine WC.condF (rfl) ?_
  refine WC.skip (thenQ.normal ?_)
  refine WC.seq ?_
  refine WC.seqR rfl ?_
  refine WL.y rfl (Y.move) ?_
  refine WL.y rfl (Y.move) ?_
  refine WL.y rfl (Y.nilCheck rfl) ?_
  refine WL.y rfl (Y.fieldAddr fi36f0 ti33 (by decide) rfl (rfl) _) ?_
  refine WL.y rfl (Y.load1 Try.underlying33 rfl rfl (hB.cell 0)) ?_
  refine WL.y rfl (Y.lss rfl rfl) ?_
  refine WL.nil ?_
  refine WC.condD rfl (fun c0 => ?_) (fun c0 => ?_)
  · refine WC.seqR rfl ?_
    refine WL.y rfl (Y.assign) ?_
    refine WL.nil ?_
    refine WC.ret (thenQ.ret (endQ.one (.inr rfl) ?_))
    exact ⟨rfl, Below.refl _ _⟩
  · exfalso; omega
theorem qcut_range {w : World} {M : Nat → Prop} {q : Nat} {last : Int} {ms : List Mt} (h : QW w M q last ms) (to : Int) (h1 : last + ms.length + 1 ≤ to) : Ret Try.prog 18 [.pointer (some ⟨q, 0, none⟩), .int .u64 to].toArray w fun v w' => v = .int .i64 17 ∧ Below w.heap.size w w' := by
  have hq := h
  obtain ⟨r, hB, hM, hN, hrg⟩ := h
  refine Ret.of (n := 44) (rs := #[.tmp 4]) Try.func18 rfl rfl rfl (by simp) ?_
  refine WC.seqR rfl ?_
  refine WL.y rfl (Y.assign) ?_
  refine WL.nil ?_
  refine WC.seq ?_
  refine WC.seqR rfl ?_
  refine WL.y rfl (Y.move) ?_
  refine WL.y rfl (Y.eqpn Try.underlying32 rfl rfl) ?_
  refine WL.nil ?_
  refine WC.condF (rfl) ?_
  refine WC.skip (thenQ.normal ?_)
  refine WC.seq ?_
  refine WC.seqR rfl ?_
  refine WL.y rfl (Y.move) ?_
  refine WL.y rfl (Y.move) ?_
  refine WL.y rfl (Y.nilCheck rfl) ?_
  refine WL.y rfl (Y.fieldAddr fi36f0 ti33 (by decide) rfl (rfl) _) ?_
  refine WL.y rfl (Y.load1 Try.underlying33 rfl rfl (hB.cell 0)) ?_
  refine WL.y rfl (Y.lss rfl rfl) ?_
  refine WL.nil ?_
  refine WC.condD rfl (fun c0 => ?_) (fun c0 => ?_)
  · exfalso; omega
  · refine WC.skip (thenQ.normal ?_)
    refine WC.seq ?_
    refine WC.seqR rfl ?_
    refine WL.y rfl (Y.move) ?_
    refine WL.y rfl (Y.move) ?_
    refine WL.call rfl (C.func go17) (qnext_ret hq) ?_
    rintro _ w16 ⟨rfl, hb16⟩
    refine WL.y rfl (Y.geq rfl rfl) ?_
    refine WL.nil ?_
    refine WC.condD rfl (fun c1 => ?_) (fun c1 => ?_)
    · refine WC.seqR rfl ?_
      refine WL.y rfl (Y.assign) ?_
      refine WL.nil ?_
      refine WC.ret (thenQ.ret (endQ.one (.inr rfl) ?_))
      exact ⟨rfl, hb16⟩
    · exfalso; omega
theorem qcut_nil (w : World) (to : Int) : Ret Try.prog 18 [.pointer none, .int .u64 to].toArray w fun v w' => v = .int .i64 1 ∧ w = w' := by
  refine Ret.of (n := 44) (rs := #[.tmp 4]) Try.func18 rfl rfl rfl (by simp) ?_
  refine WC.seqR rfl ?_
  refine WL.y rfl (Y.assign) ?_
  refine WL.nil ?_
  refine WC.seq ?_
  refine WC.seqR rfl ?_
  refine WL.y rfl (Y.move) ?_
  refine WL.y rfl (Y.eqpn Try.underlying32 rfl rfl) ?_
  refine WL.nil ?_
  refine WC.condT (rfl) ?_
  refine WC.seqR rfl ?_
  refine WL.y rfl (Y.assign) ?_
  refine WL.nil ?_
  refine WC.ret (thenQ.ret (endQ.one (.inr rfl) ?_))
  exact ⟨rfl, rfl⟩
theorem qof_ret (w : World) (last : Int) (ms : List Mt) (r : Value) (h : NLAt w (numd last ms) r) (h1 : 0 ≤ last ∧ last + ms.length ≤ 4611686018427387903) (h2 : ms.length ≤ 100000) : Ret Try.prog 22 [.int .u64 last, .int .u64 (last + ms.length + 1), r].toArray w fun v w' => ∃ q, v = .tuple #[.pointer (some ⟨q, 0, none⟩), .int .i64 0] ∧ QW w' (fun b => w.heap.size ≤ b) q last ms ∧ Below w.heap.size w w' := by
  have hn := h
  obtain ⟨lc, n1, n2, n3⟩ := h
  have hnl := numd_len last ms
  rw [hnl] at n2
  refine Ret.of (n := 44) (rs := #[.tmp 6, .tmp 7]) Try.func22 rfl rfl rfl (by simp) ?_
  refine WC.seqR rfl ?_
  refine WL.y rfl (Y.assign) ?_
  refine WL.y rfl (Y.assign) ?_
  refine WL.nil ?_
  refine WC.seq ?_
  refine WC.seqR rfl ?_
  refine WL.y rfl (Y.move) ?_
  refine WL.y rfl (Y.dF (Y.gtr rfl rfl) (by omega)) ?_
  refine WL.y rfl (Y.move) ?_
  refine WL.y rfl (Y.move) ?_
  refine WL.y rfl (Y.dF (Y.eqi rfl rfl) (by omega)) ?_
  refine WL.y rfl (Y.pickF rfl) ?_
  refine WL.y rfl (Y.move) ?_
  refine WL.y rfl (Y.move) ?_
  refine WL.y rfl (Y.dF (Y.gtr rfl rfl) (by omega)) ?_
  refine WL.y rfl (Y.pickF rfl) ?_
  refine WL.nil ?_
  refine WC.condF (rfl) ?_
  refine WC.skip (thenQ.normal ?_)
  refine WC.seqR rfl ?_
  refine WL.y rfl (Y.move) ?_
  refine WL.y rfl (Y.addU64 rfl rfl (by omega)) ?_
  refine WL.y rfl (Y.assign) ?_
  refine WL.nil ?_
  refine WC.seq ?_
  refine WC.seqR rfl ?_
  refine WL.y rfl (Y.move) ?_
  refine WL.y rfl (Y.lenSl Try.underlying34 (n2) _) ?_
  refine WL.y rfl (Y.move) ?_
  refine WL.nil ?_
  refine WC.block ?_
  refine WC.loop (fun j => ms.length - j) (fun j f ds w' => j ≤ ms.length ∧ ds = [] ∧ Below w.heap.size w w' ∧ ∃ J, f = Go.Cx.ov J [(0, .int .u64 last), (1, .int .u64 (last + ms.length + 1)), (2, r), (8, .int .u64 (last + 1 + j)), (23, r), (24, .int .i64 ms.length), (25, .int .i64 (j : Int))]) 0 ?_ ?_
  · exact ⟨by omega, rfl, Below.refl _ _, _, ov_mk ⟨rfl, rfl, rfl, int_eq (by omega), rfl, rfl, rfl, trivial⟩⟩
  · rintro j _ _ wL ⟨hj, rfl, kL, J, rfl⟩
    refine WC.seqR rfl ?_
    refine WL.y rfl (Y.lss rfl rfl) ?_
    refine WL.nil ?_
    refine WC.seq ?_
    refine WC.condD rfl (fun h0 => ?_) (fun h0 => ?_)
    · have hjm : j < ms.length := by omega
      have hjl : j < (numd last ms).length := by omega
      have hjc : j < lc.length := by omega
      have hg : (numd last ms)[j].1 = last + 1 + j := by rw [numd_get last ms j hjm hjl]
      have hml : (Value.int .u64 (numd last ms)[j].1 :: lc[j].c).length = 20 := by rw [List.length_cons, lc[j].h]
      refine WC.skip (thenQ.normal ?_)
      refine WC.seq ?_
      refine WC.block ?_
      refine WC.seqR rfl ?_
      refine WL.yex rfl (Y.idx Try.underlying34 ti43 (by decide) (n2.bel kL) rfl (by omega) (by omega)) ?_
      rintro _ ⟨b27, o27, rfl, hc27⟩
      refine WL.y rfl (Y.loadK Try.underlying43 rfl ti43 (hml) rfl (elem_num hjl hjc hc27)) ?_
      refine WL.eex rfl (E.allocX ti43) ?_
      rintro _ w10 ⟨rfl, hB10, hb10⟩
      refine WL.eex rfl (E.storeAllK (us := .int .u64 (numd last ms)[j].1 :: lc[j].c) ti43 hml rfl rfl (one_u64 (n3 j hjl hjc).one) hB10 rfl) ?_
      rintro _ w10s ⟨hB10', hg10⟩
      have b10 : Below wL.heap.size wL w10s := Below.stepG hb10 hg10 (Nat.le_refl _)
      refine WL.nil ?_
      refine WC.seq ?_
      refine WC.seqR rfl ?_
      refine WL.y rfl (Y.fieldAddr fi43f0 ti33 (by decide) rfl (rfl) _) ?_
      refine WL.y rfl (Y.load1 Try.underlying33 rfl rfl (hB10'.cell 0)) ?_
      refine WL.y rfl (Y.move) ?_
      refine WL.y rfl (Y.dF (Y.nei rfl rfl) (by omega)) ?_
      refine WL.nil ?_
      refine WC.condF (rfl) ?_
      refine WC.skip (thenQ.normal ?_)
      refine WC.region rfl ?_
      refine WL.y rfl (Y.move) ?_
      refine WL.y rfl (Y.addU64 rfl rfl (by omega)) ?_
      refine WL.y rfl (Y.assign) ?_
      refine WL.nil (inBlockQ.normal (thenQ.normal ?_))
      refine WC.region rfl ?_
      refine WL.y rfl (Y.add64 rfl rfl (by omega)) ?_
      refine WL.y rfl (Y.move) ?_
      refine WL.nil (thenQ.normal ?_)
      exact ⟨j + 1, by omega, by omega, rfl, Below.step kL b10, _, ov_mk ⟨rfl, rfl, rfl, int_eq (by omega), rfl, rfl, rfl, trivial⟩⟩
    · have hje : j = ms.length := by omega
      subst hje
      have hlen : (numd last ms).length ≤ 517417236585 := by omega
      refine WC.exit (thenQ.exit (thenQ.exit (inBlockQ.hit (thenQ.normal ?_))))
      refine WC.seq ?_
      refine WC.seqR rfl ?_
      refine WL.y rfl (Y.move) ?_
      refine WL.y rfl (Y.move) ?_
      refine WL.y rfl (Y.dF (Y.nei rfl rfl) (by omega)) ?_
      refine WL.nil ?_
      refine WC.condF (rfl) ?_
      refine WC.skip (thenQ.normal ?_)
      refine WC.seqR rfl ?_
      refine WL.y rfl (Y.move) ?_
      refine WL.y rfl (Y.move) ?_
      refine WL.call rfl (C.func go29) (each_ret _ _ _ (hn.bel kL) hlen) ?_
      rintro v41 w41 ⟨h41, hb41⟩
      have hs41 := h41.form
      obtain ⟨x41, n41, c41, rfl⟩ := hs41
      refine WL.y rfl (Y.build (cells := #[.int .u64 last, .slice x41 n41 c41]) (by kernel_rfl) _) ?_
      refine WL.eex rfl (E.boxX) ?_
      rintro _ w43 ⟨rfl, hB43, hb43⟩
      refine WL.y rfl (Y.assign) ?_
      refine WL.y rfl (Y.assign) ?_
      refine WL.nil ?_
      refine WC.ret (endQ.two (.inr rfl) ?_)
      have hq12 : Blk w43 w41.heap.size 36 [.int .u64 last, .slice x41 n41 c41] := hB43
      have sL := kL.size
      have s41 := hb41.size
      have h43 : NLW w43 (fun b => w.heap.size ≤ b ∧ b ≠ w41.heap.size) (numd last ms) (.slice x41 n41 c41) := (h41.mono (fun b h1 h2 => ⟨by omega, by omega⟩)).bel hb43
      exact ⟨_, rfl, ⟨_, hq12, by omega, h43, h1, h2⟩, Below.step (Below.step kL hb41) hb43⟩
def delMt (k : List UInt8) : Mt := .mk 2 k [] 0 false V.nil false V.nil []
theorem delMt_w {w : World} {M : Nat → Prop} {k : List UInt8} (hk : k.length ≤ 140737488351232) : MtW w M (delMt k) (mtcell (delMt k) nilV nilV (.slice none 0 0)) :=
  .mk (bl := 0) (lc := []) ⟨by simp [delMt, Mt.k], by simp [delMt, Mt.i], hk, by simp [delMt, Mt.to], by simp [delMt, Mt.l]⟩ VW.nil VW.nil rfl (fun j h => absurd h (by simp [delMt, Mt.l])) (.inl rfl) OwnK.nil
theorem del_ret (w : World) (k : List UInt8) (hk : k.length ≤ 140737488351232) : Ret Try.prog 11 [strv k].toArray w fun v w' => v = .agg (mtcell (delMt k) nilV nilV (.slice none 0 0)).toArray ∧ Below w.heap.size w w' := by
  refine Ret.of (n := 5) (rs := #[.cell 2 30]) Try.func11 rfl rfl rfl (by simp) ?_
  refine WC.seqR rfl ?_
  refine WL.eex rfl (E.allocX ti30) ?_
  rintro _ w2 ⟨rfl, hB2, hb2⟩
  refine WL.nil ?_
  refine WC.seqR rfl ?_
  refine WL.y rfl (Y.move) ?_
  refine WL.y rfl (Y.build (cells := (mtcell (delMt k) nilV nilV (.slice none 0 0)).toArray) (by kernel_rfl) _) ?_
  refine WL.eex rfl (E.storeAllK (us := mtcell (delMt k) nilV nilV (.slice none 0 0)) ti30 rfl rfl rfl (delMt_w (w := w2) (M := fun _ => True) hk).one hB2 rfl) ?_
  rintro _ w3 ⟨hB3, hg3⟩
  refine WL.nil ?_
  refine WC.ret ?_
  exact endQ.cellN Try.underlying30 rfl ti30 (.inr rfl) rfl hB3.cells ⟨rfl, Below.stepG hb2 hg3 (Nat.le_refl _)⟩
theorem same_ret (la lb : List (Int × Mt)) (ra rb : Value) (w : World) (ha : NLAt w la ra) (hb : NLAt w lb rb) (hl : la.length ≤ 517417236585) : Ret Try.prog 19 [ra, rb].toArray w fun v w' => (∃ e : Bool, v = .bool e ∧ (e = true ↔ la = lb)) ∧ Below w.heap.size w w' := by
  obtain ⟨ca, a1, a2, a3⟩ := ha
  obtain ⟨cb, b1, b2, b3⟩ := hb
  refine Ret.of (n := 42) (rs := #[.tmp 4]) Try.func19 rfl rfl rfl (by simp) ?_
  refine WC.seqR rfl ?_
  refine WL.y rfl (Y.assign) ?_
  refine WL.nil ?_
  refine WC.seq ?_
  refine WC.seqR rfl ?_
  refine WL.y rfl (Y.move) ?_
  refine WL.y rfl (Y.lenSl Try.underlying34 (a2) _) ?_
  refine WL.y rfl (Y.move) ?_
  refine WL.y rfl (Y.lenSl Try.underlying34 (b2) _) ?_
  refine WL.y rfl (Y.nei rfl rfl) ?_
  refine WL.nil ?_
  refine WC.condD rfl (fun c0 => ?_) (fun c0 => ?_)
  · refine WC.seqR rfl ?_
    refine WL.y rfl (Y.assign) ?_
    refine WL.nil ?_
    refine WC.ret (thenQ.ret (endQ.one (.inr rfl) ?_))
    exact ⟨⟨false, rfl, ⟨fun e => Bool.noConfusion e, fun e => absurd (congrArg List.length e) (by omega)⟩⟩, Below.refl _ _⟩
  · refine WC.skip (thenQ.normal ?_)
    refine WC.seq ?_
    refine WC.seqR rfl ?_
    refine WL.y rfl (Y.assign) ?_
    refine WL.nil ?_
    refine WC.block ?_
    refine WC.loop (fun j => la.length - j) (fun j f ds w' => j ≤ la.length ∧ ds = [] ∧ Below w.heap.size w w' ∧ la.take j = lb.take j ∧ ∃ J, f = Go.Cx.ov J [(0, ra), (1, rb), (5, .int .i64 (j : Int))]) 0 ?_ ?_
    · exact ⟨by omega, rfl, Below.refl _ _, rfl, _, ov_mk ⟨rfl, rfl, rfl, trivial⟩⟩
    · rintro j _ _ wL ⟨hj, rfl, kL, ht, J, rfl⟩
      refine WC.seq ?_
      refine WC.seqR rfl ?_
      refine WL.y rfl (Y.move) ?_
      refine WL.y rfl (Y.move) ?_
      refine WL.y rfl (Y.lenSl Try.underlying34 (a2.bel kL) _) ?_
      refine WL.y rfl (Y.lss rfl rfl) ?_
      refine WL.nil ?_
      refine WC.condD rfl (fun h0 => ?_) (fun h0 => ?_)
      · have h1 : j < la.length := by omega
        have h2 : j < lb.length := by omega
        have hja : j < ca.length := by omega
        have hjb : j < cb.length := by omega
        refine WC.skip (thenQ.normal ?_)
        refine WC.seq ?_
        refine WC.block ?_
        refine WC.seq ?_
        by_cases c1 : la[j].1 = lb[j].1
        · refine WC.regionB (fun i => Nat.beq i 22) [(0, .any), (1, .any), (2, .any), (3, .any), (4, .held), (5, .any), (6, .any), (7, .any), (8, .any), (9, .held), (10, .any), (11, .any), (12, .any), (13, .any), (14, .any), (15, .any), (16, .held), (17, .any), (18, .any), (19, .any), (20, .any), (21, .held), (22, .seq), (23, .any), (24, .any)] mixed (by kernel_rfl) (fun w6 hS6 hheap => ?_)
          refine RL.any rfl rfl (fun _ => Y.move) ?_
          refine RL.any rfl rfl (fun _ => Y.move) ?_
          refine RL.yex rfl rfl (Y.idx Try.underlying34 ti43 (by decide) (a2.bel kL) rfl (by omega) (by omega)) ?_
          rintro _ ⟨b19, o19, rfl, hc19⟩
          refine RL.any rfl rfl (fun _ => Y.fieldAddr fi43f0 ti33 (by decide) rfl (rfl) _) ?_
          refine RL.held rfl rfl hS6 (fun _ hb9 => Y.load1 Try.underlying33 rfl rfl (cell_bel (Cells.hd (elem_num h1 hja hc19)) hb9)) ?_
          refine RL.any rfl rfl (fun _ => Y.move) ?_
          refine RL.any rfl rfl (fun _ => Y.move) ?_
          refine RL.yex rfl rfl (Y.idx Try.underlying34 ti43 (by decide) (b2.bel kL) rfl (by omega) (by omega)) ?_
          rintro _ ⟨b24, o24, rfl, hc24⟩
          refine RL.any rfl rfl (fun _ => Y.fieldAddr fi43f0 ti33 (by decide) rfl (rfl) _) ?_
          refine RL.held rfl rfl hS6 (fun _ hb9 => Y.load1 Try.underlying33 rfl rfl (cell_bel (Cells.hd (elem_num h2 hjb hc24)) hb9)) ?_
          refine RL.any rfl rfl (fun _ => Y.dF (Y.nei rfl rfl) (by omega)) ?_
          refine RL.any rfl rfl (fun _ => Y.move) ?_
          refine RL.any rfl rfl (fun _ => Y.move) ?_
          refine RL.any rfl rfl (fun _ => Y.move) ?_
          refine RL.yex rfl rfl (Y.idx Try.underlying34 ti43 (by decide) (a2.bel kL) rfl (by omega) (by omega)) ?_
          rintro _ ⟨b31, o31, rfl, hc31⟩
          refine RL.any rfl rfl (fun _ => Y.fieldAddr fi43f1 ti30 (by decide) rfl (rfl) _) ?_
          refine RL.held rfl rfl hS6 (fun _ hb9 => Y.loadK Try.underlying30 rfl ti30 (ca[j].h) rfl (Cells.bel (Cells.tl (elem_num h1 hja hc31)) hb9)) ?_
          refine RL.any rfl rfl (fun _ => Y.move) ?_
          refine RL.any rfl rfl (fun _ => Y.move) ?_
          refine RL.yex rfl rfl (Y.idx Try.underlying34 ti43 (by decide) (b2.bel kL) rfl (by omega) (by omega)) ?_
          rintro _ ⟨b36, o36, rfl, hc36⟩
          refine RL.any rfl rfl (fun _ => Y.fieldAddr fi43f1 ti30 (by decide) rfl (rfl) _) ?_
          refine RL.held rfl rfl hS6 (fun _ hb9 => Y.loadK Try.underlying30 rfl ti30 (cb[j].h) rfl (Cells.bel (Cells.tl (elem_num h2 hjb hc36)) hb9)) ?_
          refine RL.call rfl rfl (C.func go15) (rmequal_ret _ _ _ _ _ (((a3 j h1 hja).bel kL).bel hS6) (((b3 j h2 hjb).bel kL).bel hS6)) ?_
          rintro _ w39 ⟨⟨e39, rfl, he39⟩, hb39⟩
          refine ⟨.inl rfl, ?_⟩
          refine RL.any rfl rfl (fun _ => Y.not rfl) ?_
          refine RL.any rfl rfl (fun _ => Y.pickF rfl) ?_
          refine RL.nil (thenQ.normal ?_)
          have hbd := Below.step (Below.step kL hS6) hb39
          cases e39 with
          | false =>
            have hne : ¬ la = lb := fun e => Bool.noConfusion (he39.2 (by subst e; rfl))
            refine WC.condT (rfl) ?_
            refine WC.seqR rfl ?_
            refine WL.y rfl (Y.assign) ?_
            refine WL.nil ?_
            refine WC.ret (inBlockQ.ret (thenQ.ret (thenQ.ret (inBlockQ.ret (thenQ.ret (endQ.one (.inr rfl) ?_))))))
            exact ⟨⟨false, rfl, ⟨fun e => Bool.noConfusion e, fun e => absurd e hne⟩⟩, hbd⟩
          | true =>
            have heq : la[j] = lb[j] := Prod.ext c1 (he39.1 rfl)
            skip
            refine WC.condF (rfl) ?_
            refine WC.skip (inBlockQ.normal (thenQ.normal ?_))
            refine WC.region rfl ?_
            refine WL.y rfl (Y.move) ?_
            refine WL.y rfl (Y.add64 rfl rfl (by omega)) ?_
            refine WL.y rfl (Y.assign) ?_
            refine WL.nil (thenQ.normal ?_)
            exact ⟨j + 1, by omega, by omega, rfl, hbd, take_step ht h1 h2 heq, _, ov_mk ⟨rfl, rfl, rfl, trivial⟩⟩
        · have hne : ¬ la = lb := fun e => c1 (by subst e; rfl)
          skip
          refine WC.regionB (fun _ => false) [(0, .any), (1, .any), (2, .any), (3, .any), (4, .held), (5, .any), (6, .any), (7, .any), (8, .any), (9, .held), (10, .any), (11, .any), (12, .any), (13, .any), (14, .any), (15, .any), (16, .held), (17, .any), (18, .any), (19, .any), (20, .any), (21, .held), (22, .any), (23, .any), (24, .any)] mixed (by kernel_rfl) (fun w6 hS6 hheap => ?_)
          refine RL.any rfl rfl (fun _ => Y.move) ?_
          refine RL.any rfl rfl (fun _ => Y.move) ?_
          refine RL.yex rfl rfl (Y.idx Try.underlying34 ti43 (by decide) (a2.bel kL) rfl (by omega) (by omega)) ?_
          rintro _ ⟨b19, o19, rfl, hc19⟩
          refine RL.any rfl rfl (fun _ => Y.fieldAddr fi43f0 ti33 (by decide) rfl (rfl) _) ?_
          refine RL.held rfl rfl hS6 (fun _ hb9 => Y.load1 Try.underlying33 rfl rfl (cell_bel (Cells.hd (elem_num h1 hja hc19)) hb9)) ?_
          refine RL.any rfl rfl (fun _ => Y.move) ?_
          refine RL.any rfl rfl (fun _ => Y.move) ?_
          refine RL.yex rfl rfl (Y.idx Try.underlying34 ti43 (by decide) (b2.bel kL) rfl (by omega) (by omega)) ?_
          rintro _ ⟨b24, o24, rfl, hc24⟩
          refine RL.any rfl rfl (fun _ => Y.fieldAddr fi43f0 ti33 (by decide) rfl (rfl) _) ?_
          refine RL.held rfl rfl hS6 (fun _ hb9 => Y.load1 Try.underlying33 rfl rfl (cell_bel (Cells.hd (elem_num h2 hjb hc24)) hb9)) ?_
          refine RL.any rfl rfl (fun _ => Y.dT (Y.nei rfl rfl) (by omega)) ?_
          refine RL.any rfl rfl (fun _ => Y.move) ?_
          refine RL.off rfl rfl ?_
          refine RL.off rfl rfl ?_
          refine RL.off rfl rfl ?_
          refine RL.off rfl rfl ?_
          refine RL.offH rfl rfl hS6 ?_
          refine RL.off rfl rfl ?_
          refine RL.off rfl rfl ?_
          refine RL.off rfl rfl ?_
          refine RL.off rfl rfl ?_
          refine RL.offH rfl rfl hS6 ?_
          refine RL.off rfl rfl ?_
          refine RL.off rfl rfl ?_
          refine RL.any rfl rfl (fun _ => Y.pickT rfl) ?_
          refine RL.nil (thenQ.normal ?_)
          refine WC.condT (rfl) ?_
          refine WC.seqR rfl ?_
          refine WL.y rfl (Y.assign) ?_
          refine WL.nil ?_
          refine WC.ret (inBlockQ.ret (thenQ.ret (thenQ.ret (inBlockQ.ret (thenQ.ret (endQ.one (.inr rfl) ?_))))))
          exact ⟨⟨false, rfl, ⟨fun e => Bool.noConfusion e, fun e => absurd e hne⟩⟩, Below.step kL hS6⟩
      · have he : la = lb := take_all ht (by omega) (by omega)
        refine WC.exit (thenQ.exit (thenQ.exit (inBlockQ.hit (thenQ.normal ?_))))
        refine WC.seqR rfl ?_
        refine WL.y rfl (Y.assign) ?_
        refine WL.nil ?_
        refine WC.ret (endQ.one (.inr rfl) ?_)
        exact ⟨⟨true, rfl, fun _ => he, fun _ => rfl⟩, kL⟩
end Go.Proofs.Ytcbdpcehacklhaa
