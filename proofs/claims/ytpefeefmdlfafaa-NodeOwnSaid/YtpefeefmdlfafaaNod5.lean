/-
  Nodes in memory; node: what a node tells: walks.
-/
import Derived.Test.YtpefeefmdlfafaaNod4
namespace Go.Proofs.Ytpefeefmdlfafaa
open Go Go.RowKit Go.Cx
set_option linter.unusedVariables false
set_option maxHeartbeats 8000000
abbrev ptr (b : Nat) : Value := .pointer (some ⟨b, 0, none⟩)
/-- a node's cells -/
def ndc (s : Sh) (ev kv : Value) : List Value := [ev, kv, .int .i64 (hS s), .int .i64 ((flatS s).length : Int), strv (firstS (flatS s)), strv (lastS (flatS s)), .bool (!soundL s.kids)]
/-- a node in memory, in blocks of M -/
inductive NdR (w : World) (M : Nat → Prop) : Sh → Nat → Prop where
  | mk {s : Sh} {b : Nat} {ev kv : Value} {bs : List Nat} {bl : Nat} (hB : Blk w b 61 (ndc s ev kv)) (hM : M b) (he : EW w M s.es ev) (h1 : bs.length = s.kids.length) (hk : kv = .slice none 0 0 ∨ M bl) (hs : OwnK w bl 29 1 kv s.kids.length (bs.map ptr)) (h2 : ∀ j (h : j < s.kids.length) (h' : j < bs.length), NdR w M s.kids[j] bs[j]) (ok : OkS s) : NdR w M s b
theorem NdR.kept {w w' : World} {M M' : Nat → Prop} (hk : Kept M' w w') (hM : ∀ b, M b → ¬ M' b) : ∀ {s : Sh} {b : Nat}, NdR w M s b → NdR w' M s b := by
  intro s
  induction s using Sh.ind with
  | h s ih =>
    intro b h
    cases h with
    | mk hB hm he h1 hkv hs h2 ok =>
      refine .mk (hB.kept hk (hM _ hm)) hm (EW.kept hk hM he) h1 hkv ?_ (fun j h h' => ih _ (List.getElem_mem h) (h2 j h h')) ok
      rcases hkv with e | e
      · rw [e] at hs ⊢; exact own_nilAny hs
      · exact hs.kept hk (hM _ e)
theorem NdR.bel {w w' : World} {M : Nat → Prop} {s : Sh} {b : Nat} (h : NdR w M s b) (hb : Below w.heap.size w w') : NdR w' M s b := NdR.kept (M' := fun _ => False) (Kept.of_bel hb) (fun _ _ h => h) h
theorem NdR.mono {w : World} {M M' : Nat → Prop} (hM : ∀ b, b < w.heap.size → M b → M' b) : ∀ {s : Sh} {b : Nat}, NdR w M s b → NdR w M' s b := by
  intro s
  induction s using Sh.ind with
  | h s ih =>
    intro b h
    cases h with
    | mk hB hm he h1 hkv hs h2 ok =>
      refine .mk hB (hM _ hB.lt hm) (EW.mono hM he) h1 ?_ hs (fun j h h' => ih _ (List.getElem_mem h) (h2 j h h')) ok
      rcases hkv with e | e
      · exact .inl e
      · rcases hs.2 with ⟨e2, _⟩ | ⟨o, cap, cur, hv, hb, _⟩
        · exact .inl e2
        · exact .inr (hM _ (Array.getElem?_eq_some_iff.1 hb).1 e)
theorem NdR.ok {w : World} {M : Nat → Prop} {s : Sh} {b : Nat} (h : NdR w M s b) : OkS s := by cases h; assumption
theorem NdR.blk {w : World} {M : Nat → Prop} {s : Sh} {b : Nat} (h : NdR w M s b) : ∃ ev kv, Blk w b 61 (ndc s ev kv) := by cases h with | mk hB => exact ⟨_, _, hB⟩
theorem okS_len {s : Sh} (h : OkS s) : s.es.length ≤ 8 ∧ s.kids.length ≤ 8 := by
  cases h with
  | leaf h _ => exact ⟨h, by simp [Sh.kids]⟩
  | inner _ h => exact ⟨by simp [Sh.es], h.1.2⟩
theorem nheight_ret {w : World} {M : Nat → Prop} {s : Sh} {b : Nat} (h : NdR w M s b) : Ret Try.prog 13 [ptr b].toArray w fun v w' => v = .int .i64 (hS s) ∧ w = w' := by
  have hqq := h.blk
  obtain ⟨ev, kv, hB⟩ := hqq
  refine Ret.of (n := 9) (rs := #[.tmp 2]) Try.func13 rfl rfl rfl (by simp) ?_
  refine WC.seqR rfl ?_
  refine WL.y rfl (Y.assign) ?_
  refine WL.nil ?_
  refine WC.seq ?_
  refine WC.seqR rfl ?_
  refine WL.y rfl (Y.move) ?_
  refine WL.y rfl (Y.eqpn Try.underlying29 rfl rfl) ?_
  refine WL.nil ?_
  refine WC.condF (rfl) ?_
  refine WC.skip (thenQ.normal ?_)
  refine WC.seqR rfl ?_
  refine WL.y rfl (Y.move) ?_
  refine WL.y rfl (Y.nilCheck rfl) ?_
  refine WL.y rfl (Y.fieldAddr fi61f2 ti3 (by decide) rfl (rfl) _) ?_
  refine WL.y rfl (Y.load1 Try.underlying3 rfl rfl (hB.cell 2)) ?_
  refine WL.y rfl (Y.assign) ?_
  refine WL.nil ?_
  refine WC.ret (endQ.one (.inr rfl) ?_)
  exact ⟨rfl, rfl⟩
theorem nheight_nil (w : World) : Ret Try.prog 13 [.pointer none].toArray w fun v w' => v = .int .i64 0 ∧ w = w' := by
  refine Ret.of (n := 9) (rs := #[.tmp 2]) Try.func13 rfl rfl rfl (by simp) ?_
  refine WC.seqR rfl ?_
  refine WL.y rfl (Y.assign) ?_
  refine WL.nil ?_
  refine WC.seq ?_
  refine WC.seqR rfl ?_
  refine WL.y rfl (Y.move) ?_
  refine WL.y rfl (Y.eqpn Try.underlying29 rfl rfl) ?_
  refine WL.nil ?_
  refine WC.condT (rfl) ?_
  refine WC.seqR rfl ?_
  refine WL.y rfl (Y.assign) ?_
  refine WL.nil ?_
  refine WC.ret (thenQ.ret (endQ.one (.inr rfl) ?_))
  exact ⟨rfl, rfl⟩
theorem ncount_ret {w : World} {M : Nat → Prop} {s : Sh} {b : Nat} (h : NdR w M s b) : Ret Try.prog 15 [ptr b].toArray w fun v w' => v = .int .i64 ((flatS s).length : Int) ∧ w = w' := by
  have hqq := h.blk
  obtain ⟨ev, kv, hB⟩ := hqq
  refine Ret.of (n := 9) (rs := #[.tmp 2]) Try.func15 rfl rfl rfl (by simp) ?_
  refine WC.seqR rfl ?_
  refine WL.y rfl (Y.assign) ?_
  refine WL.nil ?_
  refine WC.seq ?_
  refine WC.seqR rfl ?_
  refine WL.y rfl (Y.move) ?_
  refine WL.y rfl (Y.eqpn Try.underlying29 rfl rfl) ?_
  refine WL.nil ?_
  refine WC.condF (rfl) ?_
  refine WC.skip (thenQ.normal ?_)
  refine WC.seqR rfl ?_
  refine WL.y rfl (Y.move) ?_
  refine WL.y rfl (Y.nilCheck rfl) ?_
  refine WL.y rfl (Y.fieldAddr fi61f3 ti3 (by decide) rfl (rfl) _) ?_
  refine WL.y rfl (Y.load1 Try.underlying3 rfl rfl (hB.cell 3)) ?_
  refine WL.y rfl (Y.assign) ?_
  refine WL.nil ?_
  refine WC.ret (endQ.one (.inr rfl) ?_)
  exact ⟨rfl, rfl⟩
theorem ncount_nil (w : World) : Ret Try.prog 15 [.pointer none].toArray w fun v w' => v = .int .i64 0 ∧ w = w' := by
  refine Ret.of (n := 9) (rs := #[.tmp 2]) Try.func15 rfl rfl rfl (by simp) ?_
  refine WC.seqR rfl ?_
  refine WL.y rfl (Y.assign) ?_
  refine WL.nil ?_
  refine WC.seq ?_
  refine WC.seqR rfl ?_
  refine WL.y rfl (Y.move) ?_
  refine WL.y rfl (Y.eqpn Try.underlying29 rfl rfl) ?_
  refine WL.nil ?_
  refine WC.condT (rfl) ?_
  refine WC.seqR rfl ?_
  refine WL.y rfl (Y.assign) ?_
  refine WL.nil ?_
  refine WC.ret (thenQ.ret (endQ.one (.inr rfl) ?_))
  exact ⟨rfl, rfl⟩
theorem nfirst_ret {w : World} {M : Nat → Prop} {s : Sh} {b : Nat} (h : NdR w M s b) : Ret Try.prog 25 [ptr b].toArray w fun v w' => v = strv (firstS (flatS s)) ∧ w = w' := by
  have hqq := h.blk
  obtain ⟨ev, kv, hB⟩ := hqq
  refine Ret.of (n := 9) (rs := #[.tmp 2]) Try.func25 rfl rfl rfl (by simp) ?_
  refine WC.seqR rfl ?_
  refine WL.y rfl (Y.assign) ?_
  refine WL.nil ?_
  refine WC.seq ?_
  refine WC.seqR rfl ?_
  refine WL.y rfl (Y.move) ?_
  refine WL.y rfl (Y.eqpn Try.underlying29 rfl rfl) ?_
  refine WL.nil ?_
  refine WC.condF (rfl) ?_
  refine WC.skip (thenQ.normal ?_)
  refine WC.seqR rfl ?_
  refine WL.y rfl (Y.move) ?_
  refine WL.y rfl (Y.nilCheck rfl) ?_
  refine WL.y rfl (Y.fieldAddr fi61f4 ti9 (by decide) rfl (rfl) _) ?_
  refine WL.y rfl (Y.load1 Try.underlying9 rfl rfl (hB.cell 4)) ?_
  refine WL.y rfl (Y.assign) ?_
  refine WL.nil ?_
  refine WC.ret (endQ.one (.inr rfl) ?_)
  exact ⟨rfl, rfl⟩
theorem nfirst_nil (w : World) : Ret Try.prog 25 [.pointer none].toArray w fun v w' => v = strv [] ∧ w = w' := by
  refine Ret.of (n := 9) (rs := #[.tmp 2]) Try.func25 rfl rfl rfl (by simp) ?_
  refine WC.seqR rfl ?_
  refine WL.y rfl (Y.assign) ?_
  refine WL.nil ?_
  refine WC.seq ?_
  refine WC.seqR rfl ?_
  refine WL.y rfl (Y.move) ?_
  refine WL.y rfl (Y.eqpn Try.underlying29 rfl rfl) ?_
  refine WL.nil ?_
  refine WC.condT (rfl) ?_
  refine WC.seqR rfl ?_
  refine WL.y rfl (Y.assign) ?_
  refine WL.nil ?_
  refine WC.ret (thenQ.ret (endQ.one (.inr rfl) ?_))
  exact ⟨rfl, rfl⟩
theorem nlast_ret {w : World} {M : Nat → Prop} {s : Sh} {b : Nat} (h : NdR w M s b) : Ret Try.prog 26 [ptr b].toArray w fun v w' => v = strv (lastS (flatS s)) ∧ w = w' := by
  have hqq := h.blk
  obtain ⟨ev, kv, hB⟩ := hqq
  refine Ret.of (n := 9) (rs := #[.tmp 2]) Try.func26 rfl rfl rfl (by simp) ?_
  refine WC.seqR rfl ?_
  refine WL.y rfl (Y.assign) ?_
  refine WL.nil ?_
  refine WC.seq ?_
  refine WC.seqR rfl ?_
  refine WL.y rfl (Y.move) ?_
  refine WL.y rfl (Y.eqpn Try.underlying29 rfl rfl) ?_
  refine WL.nil ?_
  refine WC.condF (rfl) ?_
  refine WC.skip (thenQ.normal ?_)
  refine WC.seqR rfl ?_
  refine WL.y rfl (Y.move) ?_
  refine WL.y rfl (Y.nilCheck rfl) ?_
  refine WL.y rfl (Y.fieldAddr fi61f5 ti9 (by decide) rfl (rfl) _) ?_
  refine WL.y rfl (Y.load1 Try.underlying9 rfl rfl (hB.cell 5)) ?_
  refine WL.y rfl (Y.assign) ?_
  refine WL.nil ?_
  refine WC.ret (endQ.one (.inr rfl) ?_)
  exact ⟨rfl, rfl⟩
theorem nlast_nil (w : World) : Ret Try.prog 26 [.pointer none].toArray w fun v w' => v = strv [] ∧ w = w' := by
  refine Ret.of (n := 9) (rs := #[.tmp 2]) Try.func26 rfl rfl rfl (by simp) ?_
  refine WC.seqR rfl ?_
  refine WL.y rfl (Y.assign) ?_
  refine WL.nil ?_
  refine WC.seq ?_
  refine WC.seqR rfl ?_
  refine WL.y rfl (Y.move) ?_
  refine WL.y rfl (Y.eqpn Try.underlying29 rfl rfl) ?_
  refine WL.nil ?_
  refine WC.condT (rfl) ?_
  refine WC.seqR rfl ?_
  refine WL.y rfl (Y.assign) ?_
  refine WL.nil ?_
  refine WC.ret (thenQ.ret (endQ.one (.inr rfl) ?_))
  exact ⟨rfl, rfl⟩
theorem EW.sl {w : World} {M : Nat → Prop} {l : List En} {r : Value} (h : EW w M l r) : ∃ cs, SlK w 7 r l.length cs := by
  obtain ⟨bl, lc, h1, h2, h3, h4⟩ := h
  exact ⟨_, h3.sl⟩
theorem nsize_ret {w : World} {M : Nat → Prop} {s : Sh} {b : Nat} (h : NdR w M s b) : Ret Try.prog 23 [ptr b].toArray w fun v w' => v = .int .i64 ((s.es.length : Int) + s.kids.length) ∧ Below w.heap.size w w' := by
  have hok := okS_len h.ok
  cases h with
  | mk hB hm he h1 hkv hs h2 ok =>
  have hqq := he.sl
  obtain ⟨cs, hes⟩ := hqq
  have hks := hs.sl
  refine Ret.of (n := 16) (rs := #[.tmp 2]) Try.func23 rfl rfl rfl (by simp) ?_
  refine WC.seqR rfl ?_
  refine WL.y rfl (Y.assign) ?_
  refine WL.nil ?_
  refine WC.seq ?_
  refine WC.seqR rfl ?_
  refine WL.y rfl (Y.move) ?_
  refine WL.y rfl (Y.eqpn Try.underlying29 rfl rfl) ?_
  refine WL.nil ?_
  refine WC.condF (rfl) ?_
  refine WC.skip (thenQ.normal ?_)
  refine WC.seq ?_
  refine WC.regionB (fun _ => false) [(0, .any), (1, .any), (2, .any), (3, .held), (4, .any), (5, .any), (6, .any), (7, .any), (8, .held), (9, .any), (10, .any), (11, .any)] mixed (by kernel_rfl) (fun w3 hS3 hheap => ?_)
  refine RL.any rfl rfl (fun _ => Y.move) ?_
  refine RL.any rfl rfl (fun _ => Y.nilCheck rfl) ?_
  refine RL.any rfl rfl (fun _ => Y.fieldAddr fi61f0 ti22 (by decide) rfl (rfl) _) ?_
  refine RL.held rfl rfl hS3 (fun _ hb9 => Y.load1 Try.underlying22 rfl rfl (cell_bel (hB.cell 0) hb9)) ?_
  refine RL.any rfl rfl (fun _ => Y.lenSl Try.underlying22 (hes) _) ?_
  refine RL.any rfl rfl (fun _ => Y.move) ?_
  refine RL.any rfl rfl (fun _ => Y.nilCheck rfl) ?_
  refine RL.any rfl rfl (fun _ => Y.fieldAddr fi61f1 ti49 (by decide) rfl (rfl) _) ?_
  refine RL.held rfl rfl hS3 (fun _ hb9 => Y.load1 Try.underlying49 rfl rfl (cell_bel (hB.cell 1) hb9)) ?_
  refine RL.any rfl rfl (fun _ => Y.lenSl Try.underlying49 (hks) _) ?_
  refine RL.any rfl rfl (fun _ => Y.add64 rfl rfl (by omega)) ?_
  refine RL.any rfl rfl (fun _ => Y.assign) ?_
  refine RL.nil (thenQ.normal ?_)
  refine WC.ret (endQ.one (.inr rfl) ?_)
  exact ⟨rfl, hS3⟩
theorem nsize_nil (w : World) : Ret Try.prog 23 [.pointer none].toArray w fun v w' => v = .int .i64 0 ∧ w = w' := by
  refine Ret.of (n := 16) (rs := #[.tmp 2]) Try.func23 rfl rfl rfl (by simp) ?_
  refine WC.seqR rfl ?_
  refine WL.y rfl (Y.assign) ?_
  refine WL.nil ?_
  refine WC.seq ?_
  refine WC.seqR rfl ?_
  refine WL.y rfl (Y.move) ?_
  refine WL.y rfl (Y.eqpn Try.underlying29 rfl rfl) ?_
  refine WL.nil ?_
  refine WC.condT (rfl) ?_
  refine WC.seqR rfl ?_
  refine WL.y rfl (Y.assign) ?_
  refine WL.nil ?_
  refine WC.ret (thenQ.ret (endQ.one (.inr rfl) ?_))
  exact ⟨rfl, rfl⟩
theorem nsound_ret {w : World} {M : Nat → Prop} {s : Sh} {b : Nat} (h : NdR w M s b) (root : Bool) : Ret Try.prog 14 [ptr b, .bool root].toArray w fun v w' => v = .bool (soundS s root) ∧ Below w.heap.size w w' := by
  have hse := soundS_eq s root
  have hqq := h.blk
  obtain ⟨ev, kv, hB⟩ := hqq
  refine Ret.of (n := 21) (rs := #[.tmp 4]) Try.func14 rfl rfl rfl (by simp) ?_
  refine WC.seqR rfl ?_
  refine WL.y rfl (Y.assign) ?_
  refine WL.nil ?_
  refine WC.seq ?_
  refine WC.seqR rfl ?_
  refine WL.y rfl (Y.move) ?_
  refine WL.y rfl (Y.eqpn Try.underlying29 rfl rfl) ?_
  refine WL.nil ?_
  refine WC.condF (rfl) ?_
  refine WC.skip (thenQ.normal ?_)
  cases hth : soundL s.kids with
  | false =>
    rw [hth, Bool.and_false] at hse
    have hB' : w.cell? ⟨b, 6, none⟩ = some (.bool true) := by
      have := hB.cell 6
      rw [this]
      show some (Value.bool (!soundL s.kids)) = _
      rw [hth]; rfl
    refine WC.seqR rfl ?_
    refine WL.y rfl (Y.move) ?_
    refine WL.y rfl (Y.nilCheck rfl) ?_
    refine WL.y rfl (Y.fieldAddr fi61f6 ti4 (by decide) rfl (rfl) _) ?_
    refine WL.y rfl (Y.load1 Try.underlying4 rfl rfl (hB')) ?_
    refine WL.y rfl (Y.bF (Y.not rfl) (rfl)) ?_
    refine WL.y rfl (Y.move) ?_
    refine WL.off rfl ?_
    refine WL.off rfl ?_
    refine WL.off rfl ?_
    refine WL.off rfl ?_
    refine WL.off rfl ?_
    refine WL.off rfl ?_
    refine WL.y rfl (Y.pickF rfl) ?_
    refine WL.y rfl (Y.assign) ?_
    refine WL.nil ?_
    refine WC.ret (endQ.one (.inr rfl) ?_)
    exact ⟨congrArg Value.bool hse.symm, Below.refl _ _⟩
  | true =>
    rw [hth, Bool.and_true] at hse
    have hB' : w.cell? ⟨b, 6, none⟩ = some (.bool false) := by
      have := hB.cell 6
      rw [this]
      show some (Value.bool (!soundL s.kids)) = _
      rw [hth]; rfl
    cases root with
    | true =>
      refine WC.seqR rfl ?_
      refine WL.y rfl (Y.move) ?_
      refine WL.y rfl (Y.nilCheck rfl) ?_
      refine WL.y rfl (Y.fieldAddr fi61f6 ti4 (by decide) rfl (rfl) _) ?_
      refine WL.y rfl (Y.load1 Try.underlying4 rfl rfl (hB')) ?_
      refine WL.y rfl (Y.bT (Y.not rfl) (rfl)) ?_
      refine WL.y rfl (Y.move) ?_
      refine WL.y rfl (Y.move) ?_
      refine WL.y rfl (Y.move) ?_
      refine WL.off rfl ?_
      refine WL.off rfl ?_
      refine WL.off rfl ?_
      refine WL.y rfl (Y.pickT rfl) ?_
      refine WL.y rfl (Y.pickT rfl) ?_
      refine WL.y rfl (Y.assign) ?_
      refine WL.nil ?_
      refine WC.ret (endQ.one (.inr rfl) ?_)
      exact ⟨congrArg Value.bool hse.symm, Below.refl _ _⟩
    | false =>
      skip
      refine WC.seqR rfl ?_
      refine WL.y rfl (Y.move) ?_
      refine WL.y rfl (Y.nilCheck rfl) ?_
      refine WL.y rfl (Y.fieldAddr fi61f6 ti4 (by decide) rfl (rfl) _) ?_
      refine WL.y rfl (Y.load1 Try.underlying4 rfl rfl (hB')) ?_
      refine WL.y rfl (Y.bT (Y.not rfl) (rfl)) ?_
      refine WL.y rfl (Y.move) ?_
      refine WL.y rfl (Y.move) ?_
      refine WL.y rfl (Y.move) ?_
      refine WL.y rfl (Y.move) ?_
      refine WL.call rfl (C.func go23) (nsize_ret h) ?_
      rintro _ w17 ⟨rfl, hb17⟩
      refine WL.y rfl (Y.geq rfl rfl) ?_
      refine WL.y rfl (Y.pickF rfl) ?_
      refine WL.y rfl (Y.pickT rfl) ?_
      refine WL.y rfl (Y.assign) ?_
      refine WL.nil ?_
      refine WC.ret (endQ.one (.inr rfl) ?_)
      have e : decide ((4 : Int) ≤ (s.es.length : Int) + s.kids.length) = decide (4 ≤ s.es.length + s.kids.length) := by
        by_cases h : 4 ≤ s.es.length + s.kids.length
        · rw [decide_eq_true h, decide_eq_true (by omega)]
        · rw [decide_eq_false h, decide_eq_false (by omega)]
      exact ⟨congrArg Value.bool (e.trans hse.symm), hb17⟩
theorem nsound_nil (w : World) (root : Bool) : Ret Try.prog 14 [.pointer none, .bool root].toArray w fun v w' => v = .bool root ∧ w = w' := by
  refine Ret.of (n := 21) (rs := #[.tmp 4]) Try.func14 rfl rfl rfl (by simp) ?_
  refine WC.seqR rfl ?_
  refine WL.y rfl (Y.assign) ?_
  refine WL.nil ?_
  refine WC.seq ?_
  refine WC.seqR rfl ?_
  refine WL.y rfl (Y.move) ?_
  refine WL.y rfl (Y.eqpn Try.underlying29 rfl rfl) ?_
  refine WL.nil ?_
  refine WC.condT (rfl) ?_
  refine WC.seqR rfl ?_
  refine WL.y rfl (Y.move) ?_
  refine WL.y rfl (Y.assign) ?_
  refine WL.nil ?_
  refine WC.ret (thenQ.ret (endQ.one (.inr rfl) ?_))
  exact ⟨rfl, rfl⟩
theorem nnodes0_ret (s : Sh) : ∀ (w : World) (M : Nat → Prop) (b : Nat), NdR w M s b → nodesS s ≤ 1000000 → Ret Try.prog 40 [ptr b].toArray w fun v w' => v = .int .i64 (nodesS s) ∧ Below w.heap.size w w' := by
  induction s using Sh.ind with
  | h s ih =>
    intro w M b h hb
    have hok := okS_len h.ok
    have hne := nodesS_eq s
    cases h with
    | @mk _ _ ev kv bs bl hB hm he h1 hkv hs h2 ok =>
    have hks := hs.sl
    refine Ret.of (n := 23) (rs := #[.tmp 2]) Try.func40 rfl rfl rfl (by simp) ?_
    refine WC.seqR rfl ?_
    refine WL.y rfl (Y.assign) ?_
    refine WL.nil ?_
    refine WC.seq ?_
    refine WC.seqR rfl ?_
    refine WL.y rfl (Y.move) ?_
    refine WL.y rfl (Y.eqpn Try.underlying29 rfl rfl) ?_
    refine WL.nil ?_
    refine WC.condF (rfl) ?_
    refine WC.skip (thenQ.normal ?_)
    refine WC.seqR rfl ?_
    refine WL.y rfl (Y.assign) ?_
    refine WL.nil ?_
    refine WC.seq ?_
    refine WC.seqR rfl ?_
    refine WL.y rfl (Y.move) ?_
    refine WL.y rfl (Y.nilCheck rfl) ?_
    refine WL.y rfl (Y.fieldAddr fi61f1 ti49 (by decide) rfl (rfl) _) ?_
    refine WL.y rfl (Y.load1 Try.underlying49 rfl rfl (hB.cell 1)) ?_
    refine WL.y rfl (Y.lenSl Try.underlying49 (hks) _) ?_
    refine WL.y rfl (Y.move) ?_
    refine WL.nil ?_
    refine WC.block ?_
    refine WC.loop (fun j => s.kids.length - j) (fun j f ds w' => j ≤ s.kids.length ∧ ds = [] ∧ Below w.heap.size w w' ∧ ∃ J, f = Go.Cx.ov J [(3, .int .i64 (1 + (nodesL (s.kids.take j) : Int))), (11, kv), (12, .int .i64 (s.kids.length : Int)), (13, .int .i64 (j : Int))]) 0 ?_ ?_
    · exact ⟨by omega, rfl, Below.refl _ _, _, ov_mk ⟨int_eq (by rw [List.take_zero, nodesL]; rfl), rfl, rfl, rfl, trivial⟩⟩
    · rintro j _ _ wL ⟨hj, rfl, kL, J, rfl⟩
      have hle := nodesL_le s.kids j
      refine WC.seqR rfl ?_
      refine WL.y rfl (Y.lss rfl rfl) ?_
      refine WL.nil ?_
      refine WC.seq ?_
      refine WC.condD rfl (fun h0 => ?_) (fun h0 => ?_)
      · have hjl : j < s.kids.length := by omega
        have hjc : j < bs.length := by omega
        have hst := nodesL_take s.kids j hjl
        have hle2 := nodesL_le s.kids (j + 1)
        have hmm := nodesL_mem (List.getElem_mem hjl)
        have hel : ∀ {b o : Nat} {w' : World}, Cells w' b o (((bs.map ptr).drop ((j : Int).toNat * 1)).take 1) → w'.cell? ⟨b, o, none⟩ = some (ptr bs[j]) := by
          intro b o w' hc
          refine hc 0 _ ?_
          rw [Int.toNat_natCast, Nat.mul_one, List.getElem?_take, if_pos (by omega), List.getElem?_drop, List.getElem?_map, Nat.add_zero, List.getElem?_eq_getElem hjc]
          rfl
        refine WC.skip (thenQ.normal ?_)
        refine WC.seq ?_
        refine WC.block ?_
        refine WC.seqR rfl ?_
        refine WL.yex rfl (Y.idx Try.underlying49 ti29 (by decide) (hks.bel kL) rfl (by omega) (by omega)) ?_
        rintro _ ⟨b15, o15, rfl, hc15⟩
        refine WL.y rfl (Y.load1 Try.underlying29 rfl rfl (hel hc15)) ?_
        refine WL.y rfl (Y.assign) ?_
        refine WL.nil ?_
        refine WC.region rfl ?_
        refine WL.y rfl (Y.move) ?_
        refine WL.y rfl (Y.move) ?_
        refine WL.call rfl (C.func go40) (ih _ (List.getElem_mem hjl) _ M _ ((h2 j hjl hjc).bel kL) (by omega)) ?_
        rintro _ w19 ⟨rfl, hb19⟩
        refine WL.y rfl (Y.add64 rfl rfl (by omega)) ?_
        refine WL.y rfl (Y.assign) ?_
        refine WL.nil (inBlockQ.normal (thenQ.normal ?_))
        refine WC.region rfl ?_
        refine WL.y rfl (Y.add64 rfl rfl (by omega)) ?_
        refine WL.y rfl (Y.move) ?_
        refine WL.nil (thenQ.normal ?_)
        exact ⟨j + 1, by omega, by omega, rfl, Below.step kL hb19, _, ov_mk ⟨int_eq (by omega), rfl, rfl, rfl, trivial⟩⟩
      · have hje : j = s.kids.length := by omega
        subst hje
        rw [List.take_length]
        refine WC.exit (thenQ.exit (thenQ.exit (inBlockQ.hit (thenQ.normal ?_))))
        refine WC.seqR rfl ?_
        refine WL.y rfl (Y.move) ?_
        refine WL.y rfl (Y.assign) ?_
        refine WL.nil ?_
        refine WC.ret (endQ.one (.inr rfl) ?_)
        exact ⟨int_eq (by omega), kL⟩
theorem nnodes0_nil (w : World) : Ret Try.prog 40 [.pointer none].toArray w fun v w' => v = .int .i64 0 ∧ w = w' := by
  refine Ret.of (n := 23) (rs := #[.tmp 2]) Try.func40 rfl rfl rfl (by simp) ?_
  refine WC.seqR rfl ?_
  refine WL.y rfl (Y.assign) ?_
  refine WL.nil ?_
  refine WC.seq ?_
  refine WC.seqR rfl ?_
  refine WL.y rfl (Y.move) ?_
  refine WL.y rfl (Y.eqpn Try.underlying29 rfl rfl) ?_
  refine WL.nil ?_
  refine WC.condT (rfl) ?_
  refine WC.seqR rfl ?_
  refine WL.y rfl (Y.assign) ?_
  refine WL.nil ?_
  refine WC.ret (thenQ.ret (endQ.one (.inr rfl) ?_))
  exact ⟨rfl, rfl⟩
theorem nnodes_ret {w : World} {M : Nat → Prop} {s : Sh} {b : Nat} (h : NdR w M s b) (hn : nodesS s ≤ 1000000) : Ret Try.prog 24 [ptr b].toArray w fun v w' => v = .int .i64 (nodesS s) ∧ Below w.heap.size w w' := by
  refine Ret.of (n := 5) (rs := #[.tmp 2]) Try.func24 rfl rfl rfl (by simp) ?_
  refine WC.seqR rfl ?_
  refine WL.y rfl (Y.assign) ?_
  refine WL.nil ?_
  refine WC.seqR rfl ?_
  refine WL.y rfl (Y.move) ?_
  refine WL.call rfl (C.func go40) (nnodes0_ret s _ M b h hn) ?_
  rintro _ w4 ⟨rfl, hb4⟩
  refine WL.y rfl (Y.assign) ?_
  refine WL.nil ?_
  refine WC.ret (endQ.one (.inr rfl) ?_)
  exact ⟨rfl, hb4⟩
theorem nnodes_nil (w : World) : Ret Try.prog 24 [.pointer none].toArray w fun v w' => v = .int .i64 0 ∧ w = w' := by
  refine Ret.of (n := 5) (rs := #[.tmp 2]) Try.func24 rfl rfl rfl (by simp) ?_
  refine WC.seqR rfl ?_
  refine WL.y rfl (Y.assign) ?_
  refine WL.nil ?_
  refine WC.seqR rfl ?_
  refine WL.y rfl (Y.move) ?_
  refine WL.call rfl (C.func go40) (nnodes0_nil _) ?_
  rintro _ _ ⟨rfl, rfl⟩
  refine WL.y rfl (Y.assign) ?_
  refine WL.nil ?_
  refine WC.ret (endQ.one (.inr rfl) ?_)
  exact ⟨rfl, rfl⟩
theorem nentries_ret {w : World} {M : Nat → Prop} {s : Sh} {b : Nat} (h : NdR w M s b) : Ret Try.prog 17 [ptr b].toArray w fun v w' => EW w' (fun b => w.heap.size ≤ b) s.es v ∧ Below w.heap.size w w' := by
  have hok := okS_len h.ok
  cases h with
  | @mk _ _ ev kv bs bl hB hm he h1 hkv hs h2 ok =>
  have hqq := he.sl
  obtain ⟨cs, hes⟩ := hqq
  refine Ret.of (n := 18) (rs := #[.tmp 2]) Try.func17 rfl rfl rfl (by simp) ?_
  refine WC.seqR rfl ?_
  refine WL.y rfl (Y.assign) ?_
  refine WL.nil ?_
  refine WC.seq ?_
  refine WC.seqR rfl ?_
  refine WL.y rfl (Y.move) ?_
  refine WL.y rfl (Y.bF (Y.eqpn Try.underlying29 rfl rfl) (rfl)) ?_
  refine WL.y rfl (Y.move) ?_
  refine WL.y rfl (Y.move) ?_
  refine WL.y rfl (Y.nilCheck rfl) ?_
  refine WL.y rfl (Y.fieldAddr fi61f0 ti22 (by decide) rfl (rfl) _) ?_
  refine WL.y rfl (Y.load1 Try.underlying22 rfl rfl (hB.cell 0)) ?_
  refine WL.y rfl (Y.lenSl Try.underlying22 (hes) _) ?_
  refine WL.y rfl (Y.eqi rfl rfl) ?_
  refine WL.y rfl (Y.pickF rfl) ?_
  refine WL.nil ?_
  refine WC.condD rfl (fun c0 => ?_) (fun c0 => ?_)
  · have e0 : s.es = [] := List.eq_nil_of_length_eq_zero (by omega)
    rw [e0]
    refine WC.seqR rfl ?_
    refine WL.y rfl (Y.assign) ?_
    refine WL.nil ?_
    refine WC.ret (thenQ.ret (endQ.one (.inr rfl) ?_))
    exact ⟨EW.nil, Below.refl _ _⟩
  · refine WC.skip (thenQ.normal ?_)
    refine WC.seqR rfl ?_
    refine WL.y rfl (Y.move) ?_
    refine WL.y rfl (Y.nilCheck rfl) ?_
    refine WL.y rfl (Y.fieldAddr fi61f0 ti22 (by decide) rfl (rfl) _) ?_
    refine WL.y rfl (Y.load1 Try.underlying22 rfl rfl (hB.cell 0)) ?_
    refine WL.call rfl (C.func go35) (copies_ret _ _ _ he.at (by omega)) ?_
    rintro v17 w17 ⟨h17, hb17⟩
    refine WL.y rfl (Y.assign) ?_
    refine WL.nil ?_
    refine WC.ret (endQ.one (.inr rfl) ?_)
    exact ⟨h17, hb17⟩
theorem nentries_nil (w : World) : Ret Try.prog 17 [.pointer none].toArray w fun v w' => v = .slice none 0 0 ∧ w = w' := by
  refine Ret.of (n := 18) (rs := #[.tmp 2]) Try.func17 rfl rfl rfl (by simp) ?_
  refine WC.seqR rfl ?_
  refine WL.y rfl (Y.assign) ?_
  refine WL.nil ?_
  refine WC.seq ?_
  refine WC.seqR rfl ?_
  refine WL.y rfl (Y.move) ?_
  refine WL.y rfl (Y.bT (Y.eqpn Try.underlying29 rfl rfl) (rfl)) ?_
  refine WL.y rfl (Y.move) ?_
  refine WL.off rfl ?_
  refine WL.off rfl ?_
  refine WL.off rfl ?_
  refine WL.off rfl ?_
  refine WL.off rfl ?_
  refine WL.off rfl ?_
  refine WL.y rfl (Y.pickT rfl) ?_
  refine WL.nil ?_
  refine WC.condT (rfl) ?_
  refine WC.seqR rfl ?_
  refine WL.y rfl (Y.assign) ?_
  refine WL.nil ?_
  refine WC.ret (thenQ.ret (endQ.one (.inr rfl) ?_))
  exact ⟨rfl, rfl⟩
end Go.Proofs.Ytpefeefmdlfafaa
