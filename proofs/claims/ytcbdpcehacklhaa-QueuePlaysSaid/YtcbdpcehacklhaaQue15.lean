/-
  law23: do: walk.
-/
import Derived.Test.YtcbdpcehacklhaaQue14
namespace Go.Proofs.Ytcbdpcehacklhaa
open Go Go.RowKit Go.Cx
set_option linter.unusedVariables false
set_option maxHeartbeats 8000000
set_option maxRecDepth 20000
/-- an act's cells -/
def actc (k : Int) (c : List Value) (x n : Int) : List Value := .int .i64 k :: (c ++ [.int .u64 x, .int .i64 n])
/-- what an act leaves -/
def DoR (w0 w' : World) (v : Value) (rb : Nat) (last : Int) (ms : List Mt) : Prop := ∃ (q' : Nat) (l' : Int) (ms' : List Mt), v = .tuple #[.pointer (some ⟨q', 0, none⟩), .bool true] ∧ St (fun _ => False) w0 w' q' l' ms' rb l' ms' ∧ l' + ms'.length ≤ last + ms.length + 1 ∧ ms'.length ≤ ms.length + 1
theorem wrap_u64 (n : Int) : 0 ≤ IntKind.u64.wrap n := by
  unfold IntKind.wrap
  simp [IntKind.signed, IntKind.bits]
  omega
theorem do_ret {w0 w : World} {q rb : Nat} {last : Int} {ms : List Mt} (h : St (fun _ => False) w0 w q last ms rb last ms) (k : Int) (m : Mt) (c : List Value) (hm : MtAt w0 m c) (x : Int) (n : Int) (hr : last + ms.length + 2 ≤ 4611686018427387903) (hl : ms.length < 99990) (h0 : 0 ≤ last) :
    Ret Try.prog 25 [.pointer (some ⟨q, 0, none⟩), .pointer (some ⟨rb, 0, none⟩), .agg (actc k c x n).toArray].toArray w fun v w' => DoR w0 w' v rb last ms := by
  have hcl := hm.len
  have hqq := nineteen hcl
  obtain ⟨a0, a1, a2, a3, a4, a5, a6, a7, a8, a9, b0, b1, b2, b3, b4, b5, b6, b7, b8, rfl⟩ := hqq
  have hw0 : Below w0.heap.size w0 w := h.below
  refine Ret.of (n := 98) (rs := #[.tmp 6, .tmp 7]) Try.func25 rfl rfl rfl (by simp) ?_
  refine WC.seqR rfl ?_
  refine WL.eex rfl (E.boxX) ?_
  rintro _ w5 ⟨rfl, hB5, hb5⟩
  refine WL.y rfl (Y.assign) ?_
  refine WL.y rfl (Y.assign) ?_
  refine WL.nil ?_
  refine WC.seq ?_
  refine WC.seqR rfl ?_
  refine WL.y rfl (Y.fieldAddr fi69f0 ti3 (by decide) rfl (rfl) _) ?_
  refine WL.y rfl (Y.load1 Try.underlying3 rfl rfl ((show Blk _ _ _ (actc k [a0, a1, a2, a3, a4, a5, a6, a7, a8, a9, b0, b1, b2, b3, b4, b5, b6, b7, b8] x n) from hB5).cell 0)) ?_
  refine WL.nil ?_
  refine WC.block ?_
  refine WC.seqR rfl ?_
  refine WL.y rfl (Y.eqi rfl rfl) ?_
  refine WL.y rfl (Y.assign) ?_
  refine WL.nil ?_
  have hA : Blk w5 w.heap.size 69 (actc k [a0, a1, a2, a3, a4, a5, a6, a7, a8, a9, b0, b1, b2, b3, b4, b5, b6, b7, b8] x n) := hB5
  have h5 := h.frame (G := fun b => b = w.heap.size) hb5 (fun b e => by subst e; exact ⟨Nat.le_refl _, hA.lt⟩)
  have s5 := hb5.size
  have hk5 := Below.step hw0 hb5
  clear hB5
  refine WC.condD rfl (fun k1 => ?_) (fun k1 => ?_)
  · have hm5 := hm.bel hk5
    refine WC.seqR rfl ?_
    refine WL.y rfl (Y.move) ?_
    refine WL.y rfl (Y.fieldAddr fi69f1 ti30 (by decide) rfl (rfl) _) ?_
    refine WL.y rfl (Y.loadK Try.underlying30 rfl ti30 (hcl) rfl ((hA.cells).sub 1 19)) ?_
    refine WL.call rfl (C.func go9) (rmcopy_ret m _ _ hm5) ?_
    rintro _ w22 ⟨c22, rfl, h22, hb22⟩
    refine WL.call rfl (C.func go10) ((h5.bel hb22).add m _ h22.at (by omega) (by omega)) ?_
    rintro _ w23 ⟨rfl, h23, k23⟩
    refine WL.y rfl (Y.move) ?_
    refine WL.y rfl (Y.extract rfl rfl) ?_
    refine WL.y rfl (Y.extract rfl rfl) ?_
    refine WL.y rfl (Y.assign) ?_
    refine WL.y rfl (Y.assign) ?_
    refine WL.nil ?_
    have hA23 := (hA.bel hb22).kept k23 (fun h => h rfl)
    refine WC.seqR rfl ?_
    refine WL.y rfl (Y.move) ?_
    refine WL.y rfl (Y.fieldAddr fi69f1 ti30 (by decide) rfl (rfl) _) ?_
    refine WL.y rfl (Y.loadK Try.underlying30 rfl ti30 (hcl) rfl ((hA23.cells).sub 1 19)) ?_
    refine WL.call rfl (C.func go24) (h23.radd m _ hm (by omega) (by omega)) ?_
    rintro _ w30 ⟨rfl, h30, k30⟩
    refine WL.y rfl (Y.move) ?_
    refine WL.y rfl (Y.extract rfl rfl) ?_
    refine WL.y rfl (Y.extract rfl rfl) ?_
    refine WL.y rfl (Y.assign) ?_
    refine WL.y rfl (Y.assign) ?_
    refine WL.nil ?_
    refine WC.seqR rfl ?_
    refine WL.y rfl (Y.move) ?_
    refine WL.y rfl (Y.move) ?_
    refine WL.y rfl (Y.move) ?_
    refine WL.y rfl (Y.dT (Y.eqi rfl rfl) (rfl)) ?_
    refine WL.y rfl (Y.move) ?_
    refine WL.y rfl (Y.move) ?_
    refine WL.y rfl (Y.move) ?_
    refine WL.y rfl (Y.dT (Y.eqi rfl rfl) (rfl)) ?_
    refine WL.y rfl (Y.pickT rfl) ?_
    refine WL.y rfl (Y.assign) ?_
    refine WL.y rfl (Y.assign) ?_
    refine WL.nil ?_
    refine WC.ret (inBlockQ.ret (thenQ.ret (endQ.two (.inr rfl) ?_)))
    exact ⟨q, last, ms ++ [m], rfl, h30.unframe, by rw [List.length_append]; show last + ((ms.length + 1 : Nat) : Int) ≤ _; omega, by rw [List.length_append]; exact Nat.le_refl _⟩
  · refine WC.seqR rfl ?_
    refine WL.y rfl (Y.eqi rfl rfl) ?_
    refine WL.y rfl (Y.assign) ?_
    refine WL.nil ?_
    refine WC.condD rfl (fun k2 => ?_) (fun k2 => ?_)
    · have hqq := h5.cuts x
      obtain ⟨e, l', ms', ⟨e1, e2⟩, hc1, hc2⟩ := hqq
      refine WC.seq ?_
      refine WC.regionK ((fun b => ¬ b = w.heap.size)) (fun i => Nat.beq i 8) [(0, .any), (1, .any), (2, .any), (3, .held), (5, .any), (6, .any), (7, .held), (4, .seq), (8, .seq), (9, .any), (10, .any), (11, .any)] mixed (by kernel_rfl) (fun w7 hS7 hheap => ?_)
      refine RL.any rfl rfl (fun _ => Y.move) ?_
      refine RL.any rfl rfl (fun _ => Y.move) ?_
      refine RL.any rfl rfl (fun _ => Y.fieldAddr fi69f2 ti33 (by decide) rfl (rfl) _) ?_
      refine RL.held rfl rfl (Kept.refl _ _) (fun _ hb9 => Y.load1 Try.underlying33 rfl rfl (Go.Cx.cell_kept ((hA.bel hS7).cell 20) hb9 (fun h => h rfl))) ?_
      refine RL.any rfl rfl (fun _ => Y.move) ?_
      refine RL.any rfl rfl (fun _ => Y.fieldAddr fi69f2 ti33 (by decide) rfl (rfl) _) ?_
      refine RL.held rfl rfl (Kept.refl _ _) (fun _ hb9 => Y.load1 Try.underlying33 rfl rfl (Go.Cx.cell_kept ((hA.bel hS7).cell 20) hb9 (fun h => h rfl))) ?_
      refine RL.call rfl rfl (C.func go18) (hc1 _ (h5.bel hS7)) ?_
      rintro _ w48 ⟨rfl, h48, k48⟩
      refine ⟨.inr (fun h => h.trans (k48)), ?_⟩
      refine RL.call rfl rfl (C.func go32) (hc2 _ h48) ?_
      rintro _ w52 ⟨rfl, h52, k52⟩
      refine ⟨.inl rfl, ?_⟩
      refine RL.any rfl rfl (fun _ => Y.dT (Y.eqi rfl rfl) (rfl)) ?_
      refine RL.any rfl rfl (fun _ => Y.assign) ?_
      refine RL.any rfl rfl (fun _ => Y.assign) ?_
      refine RL.nil (thenQ.normal ?_)
      refine WC.ret (inBlockQ.ret (thenQ.ret (endQ.two (.inr rfl) ?_)))
      exact ⟨q, l', ms', rfl, h52.unframe, by omega, by omega⟩
    · refine WC.seqR rfl ?_
      refine WL.y rfl (Y.eqi rfl rfl) ?_
      refine WL.y rfl (Y.assign) ?_
      refine WL.nil ?_
      refine WC.condD rfl (fun k3 => ?_) (fun k3 => ?_)
      · have hqq := id h5
        obtain ⟨MQ, MR, hw, hQ, hR, hd, hF, q1, ⟨r, hBr, hMr, hLr, hrg⟩⟩ := hqq
        have hqq := hLr.sl
        obtain ⟨bl, lc, n1, hs, n4⟩ := hqq
        have hwn := wrap_u64 n
        have hD0 : 0 ≤ IntKind.u64.wrap n % ((ms.length : Int) + 1) := Int.emod_nonneg _ (by omega)
        have hD1 : IntKind.u64.wrap n % ((ms.length : Int) + 1) < (ms.length : Int) + 1 := Int.emod_lt_of_pos _ (by omega)
        refine WC.seq ?_
        refine WC.regionB (fun _ => false) [(0, .any), (1, .any), (2, .any), (3, .held), (4, .any), (5, .held), (6, .any), (7, .any), (8, .any), (9, .any), (10, .held), (11, .any), (12, .any), (13, .any), (14, .any), (15, .any), (16, .any)] mixed (by kernel_rfl) (fun w9 hS9 hheap => ?_)
        refine RL.any rfl rfl (fun _ => Y.move) ?_
        refine RL.any rfl rfl (fun _ => Y.nilCheck rfl) ?_
        refine RL.any rfl rfl (fun _ => Y.fieldAddr fi63f0 ti33 (by decide) rfl (rfl) _) ?_
        refine RL.held rfl rfl hS9 (fun _ hb9 => Y.load1 Try.underlying33 rfl rfl (cell_bel (hBr.cell 0) hb9)) ?_
        refine RL.any rfl rfl (fun _ => Y.fieldAddr fi69f3 ti3 (by decide) rfl (rfl) _) ?_
        refine RL.held rfl rfl hS9 (fun _ hb9 => Y.load1 Try.underlying3 rfl rfl (cell_bel (hA.cell 21) hb9)) ?_
        refine RL.any rfl rfl (fun _ => Y.convi Try.underlying3 Try.underlying77 rfl) ?_
        refine RL.any rfl rfl (fun _ => Y.move) ?_
        refine RL.any rfl rfl (fun _ => Y.nilCheck rfl) ?_
        refine RL.any rfl rfl (fun _ => Y.fieldAddr fi63f2 ti34 (by decide) rfl (rfl) _) ?_
        refine RL.held rfl rfl hS9 (fun _ hb9 => Y.load1 Try.underlying34 rfl rfl (cell_bel (hBr.cell 2) hb9)) ?_
        refine RL.any rfl rfl (fun _ => Y.lenSl Try.underlying34 (hs) _) ?_
        refine RL.any rfl rfl (fun _ => Y.add64 rfl rfl (by omega)) ?_
        refine RL.any rfl rfl (fun _ => Y.conviR Try.underlying3 Try.underlying77 rfl (by simp only [IntKind.min, IntKind.max, IntKind.signed, IntKind.bits]; omega)) ?_
        refine RL.any rfl rfl (fun _ => Y.rem rfl rfl (by exact hwn) (by omega)) ?_
        refine RL.any rfl rfl (fun _ => Y.addU64 rfl rfl (by omega)) ?_
        refine RL.any rfl rfl (fun _ => Y.assign) ?_
        refine RL.nil (thenQ.normal ?_)
        have h9 := h5.bel hS9
        generalize hDd : IntKind.u64.wrap n % ((ms.length : Int) + 1) = D at hD0 hD1
        have hqq := h9.cuts (last + D)
        obtain ⟨e, l', ms', ⟨e1, e2⟩, hc1, hc2⟩ := hqq
        subst hDd
        refine WC.seqR rfl ?_
        refine WL.y rfl (Y.move) ?_
        refine WL.y rfl (Y.move) ?_
        refine WL.y rfl (Y.move) ?_
        refine WL.call rfl (C.func go18) (hc1 _ h9) ?_
        rintro _ w75 ⟨rfl, h75, k75⟩
        refine WL.y rfl (Y.move) ?_
        refine WL.y rfl (Y.move) ?_
        refine WL.call rfl (C.func go32) (hc2 _ h75) ?_
        rintro _ w78 ⟨rfl, h78, k78⟩
        refine WL.y rfl (Y.dT (Y.eqi rfl rfl) (rfl)) ?_
        refine WL.y rfl (Y.assign) ?_
        refine WL.y rfl (Y.assign) ?_
        refine WL.nil ?_
        refine WC.ret (inBlockQ.ret (thenQ.ret (endQ.two (.inr rfl) ?_)))
        exact ⟨q, l', ms', rfl, h78.unframe, by omega, by omega⟩
      · refine WC.seqR rfl ?_
        refine WL.y rfl (Y.eqi rfl rfl) ?_
        refine WL.y rfl (Y.assign) ?_
        refine WL.nil ?_
        refine WC.condD rfl (fun k4 => ?_) (fun k4 => ?_)
        · have hqq := id h5
          obtain ⟨MQ, MR, hw, hQ, hR, hd, hF, q1, r1⟩ := hqq
          refine WC.seqR rfl ?_
          refine WL.y rfl (Y.move) ?_
          refine WL.call rfl (C.func go23) (qcopy_ret q1) ?_
          rintro _ w83 ⟨cp, rfl, h83, hb83⟩
          refine WL.y rfl (Y.assign) ?_
          refine WL.nil ?_
          refine WC.seq ?_
          refine WC.seqR rfl ?_
          refine WL.y rfl (Y.move) ?_
          refine WL.y rfl (Y.eqpn Try.underlying32 rfl rfl) ?_
          refine WL.nil ?_
          refine WC.condF (rfl) ?_
          refine WC.skip (thenQ.normal ?_)
          have s83 := hb83.size
          have hf83 := h.frame (G := fun b => w5.heap.size ≤ b ∧ b < w83.heap.size) (Below.step hb5 hb83) (fun b e => ⟨by omega, e.2⟩)
          have c83 := h83.mono (M' := fun b => w5.heap.size ≤ b ∧ b < w83.heap.size) (fun b h1 h2 => ⟨h2, h1⟩)
          refine WC.seqR rfl ?_
          refine WL.y rfl (Y.move) ?_
          refine WL.call rfl (C.func go11) (del_ret _ [115, 112, 111, 105, 108, 116] (by simp)) ?_
          rintro _ w88 ⟨rfl, hb88⟩
          refine WL.call rfl (C.func go10) ((hf83.bel hb88).add (delMt [115, 112, 111, 105, 108, 116]) _ (dc_at (by simp)) (by omega) (by omega)) ?_
          rintro _ w89 ⟨rfl, h89, k89⟩
          refine WL.nil ?_
          have c89 := (c83.bel hb88).kept k89 (fun b h1 h2 => h2 h1)
          have hqq := id h89
          obtain ⟨MQ2, MR2, -, -, -, -, -, -, ⟨r2, hBr2, -, -, -⟩⟩ := hqq
          have en : ((ms ++ [delMt [115, 112, 111, 105, 108, 116]]).length : Int) = ms.length + 1 := by simp
          refine WC.seqR rfl ?_
          refine WL.y rfl (Y.move) ?_
          refine WL.y rfl (Y.move) ?_
          refine WL.y rfl (Y.nilCheck rfl) ?_
          refine WL.y rfl (Y.fieldAddr fi63f1 ti33 (by decide) rfl (rfl) _) ?_
          refine WL.y rfl (Y.load1 Try.underlying33 rfl rfl (hBr2.cell 1)) ?_
          refine WL.call rfl (C.func go18) (h89.cut (last + ms.length + 1) (by omega) (by omega)) ?_
          rintro _ w95 ⟨rfl, h95, k95⟩
          refine WL.nil ?_
          refine WC.seqR rfl ?_
          refine WL.y rfl (Y.move) ?_
          refine WL.y rfl (Y.assign) ?_
          refine WL.y rfl (Y.assign) ?_
          refine WL.nil ?_
          refine WC.ret (inBlockQ.ret (thenQ.ret (endQ.two (.inr rfl) ?_)))
          have c95 := c89.kept k95 (fun b h1 h2 => h2 h1)
          have sw := hw0.size
          exact ⟨cp, last, ms, rfl, h95.swap (fun b h => by have := h.1; omega) c95, by omega, by omega⟩
        · refine WC.skip (inBlockQ.normal (thenQ.normal ?_))
          refine WC.seqR rfl ?_
          refine WL.y rfl (Y.move) ?_
          refine WL.y rfl (Y.assign) ?_
          refine WL.y rfl (Y.assign) ?_
          refine WL.nil ?_
          refine WC.ret (endQ.two (.inr rfl) ?_)
          exact ⟨q, last, ms, rfl, h5.unframe, by omega, by omega⟩
end Go.Proofs.Ytcbdpcehacklhaa
