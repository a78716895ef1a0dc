/-
  table: what is told of nil, and of a zero one; law20: TableNil: walks.
-/
import Derived.Test.YtlhhognabmnlmaaTab14
namespace Go.Proofs.Ytlhhognabmnlmaa
open Go Go.RowKit Go.Cx
set_option linter.unusedVariables false
set_option maxHeartbeats 8000000
set_option maxRecDepth 20000
theorem forget_nil (w : World) (v : Int) : Ret Try.prog 9 [.pointer none, .int .u64 v].toArray w fun _ w' => w = w' := by
  refine Ret.of (n := 67) (rs := #[]) Try.func9 rfl rfl rfl (by simp) ?_
  refine WC.seq ?_
  refine WC.seqR rfl ?_
  refine WL.y rfl (Y.move) ?_
  refine WL.y rfl (Y.bT (Y.eqpn Try.underlying23 rfl rfl) (rfl)) ?_
  refine WL.y rfl (Y.move) ?_
  refine WL.off rfl ?_
  refine WL.off rfl ?_
  refine WL.off rfl ?_
  refine WL.off rfl ?_
  refine WL.off rfl ?_
  refine WL.off rfl ?_
  refine WL.y rfl (Y.pickT rfl) ?_
  refine WL.nil ?_
  refine WC.condT (rfl) ?_
  refine WC.ret (thenQ.ret (endQ.zero (.inr rfl) ?_))
  exact rfl
theorem at_nil (w : World) (c v : Int) : Ret Try.prog 10 [.pointer none, .int .u64 c, .int .u64 v].toArray w fun r w' => r = .tuple #[.int .u64 0, .bool false] ∧ w = w' := by
  refine Ret.of (n := 37) (rs := #[.tmp 6, .tmp 7]) Try.func10 rfl rfl rfl (by simp) ?_
  refine WC.seqR rfl ?_
  refine WL.y rfl (Y.assign) ?_
  refine WL.y rfl (Y.assign) ?_
  refine WL.nil ?_
  refine WC.seq ?_
  refine WC.seqR rfl ?_
  refine WL.y rfl (Y.move) ?_
  refine WL.y rfl (Y.bT (Y.eqpn Try.underlying23 rfl rfl) (rfl)) ?_
  refine WL.y rfl (Y.move) ?_
  refine WL.off rfl ?_
  refine WL.off rfl ?_
  refine WL.off rfl ?_
  refine WL.off rfl ?_
  refine WL.off rfl ?_
  refine WL.off rfl ?_
  refine WL.y rfl (Y.pickT rfl) ?_
  refine WL.nil ?_
  refine WC.condT (rfl) ?_
  refine WC.seqR rfl ?_
  refine WL.y rfl (Y.assign) ?_
  refine WL.y rfl (Y.assign) ?_
  refine WL.nil ?_
  refine WC.ret (thenQ.ret (endQ.two (.inr rfl) ?_))
  exact ⟨rfl, rfl⟩
theorem who_nil (w : World) (v : Int) : Ret Try.prog 11 [.pointer none, .int .u64 v].toArray w fun r w' => r = .tuple #[.int .u64 0, .int .u64 0, .bool false] ∧ Below w.heap.size w w' := by
  refine Ret.of (n := 57) (rs := #[.tmp 4, .tmp 5, .tmp 6]) Try.func11 rfl rfl rfl (by simp) ?_
  refine WC.seqR rfl ?_
  refine WL.eex rfl (E.boxX) ?_
  rintro _ w2 ⟨rfl, hB2, hb2⟩
  refine WL.eex rfl (E.boxX) ?_
  rintro _ w3 ⟨rfl, hB3, hb3⟩
  refine WL.y rfl (Y.assign) ?_
  refine WL.y rfl (Y.assign) ?_
  refine WL.y rfl (Y.assign) ?_
  refine WL.nil ?_
  refine WC.seq ?_
  have hA := (show Blk w2 w.heap.size 23 [.pointer none] from hB2).bel hb3
  refine WC.seqR rfl ?_
  refine WL.y rfl (Y.load1 Try.underlying23 rfl rfl (hA.cell 0)) ?_
  refine WL.y rfl (Y.eqpn Try.underlying23 rfl rfl) ?_
  refine WL.nil ?_
  refine WC.condT (rfl) ?_
  refine WC.seqR rfl ?_
  refine WL.y rfl (Y.assign) ?_
  refine WL.y rfl (Y.assign) ?_
  refine WL.y rfl (Y.assign) ?_
  refine WL.nil ?_
  refine WC.ret (thenQ.ret (endQ.three (.inr rfl) ?_))
  exact ⟨rfl, Below.step hb2 hb3⟩
theorem note_nil (w : World) (c v i : Int) : Ret Try.prog 12 [.pointer none, .int .u64 c, .int .u64 v, .int .u64 i].toArray w fun r w' => r = .int .i64 1 ∧ w = w' := by
  refine Ret.of (n := 97) (rs := #[.tmp 8]) Try.func12 rfl rfl rfl (by simp) ?_
  refine WC.seqR rfl ?_
  refine WL.y rfl (Y.assign) ?_
  refine WL.nil ?_
  refine WC.seq ?_
  refine WC.seqR rfl ?_
  refine WL.y rfl (Y.move) ?_
  refine WL.y rfl (Y.eqpn Try.underlying23 rfl rfl) ?_
  refine WL.nil ?_
  refine WC.condT (rfl) ?_
  refine WC.seqR rfl ?_
  refine WL.y rfl (Y.assign) ?_
  refine WL.nil ?_
  refine WC.ret (thenQ.ret (endQ.one (.inr rfl) ?_))
  exact ⟨rfl, rfl⟩
theorem last_nil (w : World) (c : Int) : Ret Try.prog 13 [.pointer none, .int .u64 c].toArray w fun r w' => r = .int .u64 0 ∧ w = w' := by
  refine Ret.of (n := 24) (rs := #[.tmp 4]) Try.func13 rfl rfl rfl (by simp) ?_
  refine WC.seqR rfl ?_
  refine WL.y rfl (Y.assign) ?_
  refine WL.nil ?_
  refine WC.seq ?_
  refine WC.seqR rfl ?_
  refine WL.y rfl (Y.move) ?_
  refine WL.y rfl (Y.eqpn Try.underlying23 rfl rfl) ?_
  refine WL.nil ?_
  refine WC.condT (rfl) ?_
  refine WC.seqR rfl ?_
  refine WL.y rfl (Y.assign) ?_
  refine WL.nil ?_
  refine WC.ret (thenQ.ret (endQ.one (.inr rfl) ?_))
  exact ⟨rfl, rfl⟩
theorem newest_nil (w : World) : Ret Try.prog 14 [.pointer none].toArray w fun r w' => r = .int .u64 0 ∧ w = w' := by
  refine Ret.of (n := 9) (rs := #[.tmp 2]) Try.func14 rfl rfl rfl (by simp) ?_
  refine WC.seqR rfl ?_
  refine WL.y rfl (Y.assign) ?_
  refine WL.nil ?_
  refine WC.seq ?_
  refine WC.seqR rfl ?_
  refine WL.y rfl (Y.move) ?_
  refine WL.y rfl (Y.eqpn Try.underlying23 rfl rfl) ?_
  refine WL.nil ?_
  refine WC.condT (rfl) ?_
  refine WC.seqR rfl ?_
  refine WL.y rfl (Y.assign) ?_
  refine WL.nil ?_
  refine WC.ret (thenQ.ret (endQ.one (.inr rfl) ?_))
  exact ⟨rfl, rfl⟩
theorem clients_nil (w : World) : Ret Try.prog 15 [.pointer none].toArray w fun r w' => r = .slice none 0 0 ∧ w = w' := by
  refine Ret.of (n := 11) (rs := #[.tmp 2]) Try.func15 rfl rfl rfl (by simp) ?_
  refine WC.seqR rfl ?_
  refine WL.y rfl (Y.assign) ?_
  refine WL.nil ?_
  refine WC.seq ?_
  refine WC.seqR rfl ?_
  refine WL.y rfl (Y.move) ?_
  refine WL.y rfl (Y.eqpn Try.underlying23 rfl rfl) ?_
  refine WL.nil ?_
  refine WC.condT (rfl) ?_
  refine WC.seqR rfl ?_
  refine WL.y rfl (Y.assign) ?_
  refine WL.nil ?_
  refine WC.ret (thenQ.ret (endQ.one (.inr rfl) ?_))
  exact ⟨rfl, rfl⟩
theorem copy_nil (w : World) : Ret Try.prog 16 [.pointer none].toArray w fun r w' => r = .pointer none ∧ w = w' := by
  refine Ret.of (n := 47) (rs := #[.tmp 2]) Try.func16 rfl rfl rfl (by simp) ?_
  refine WC.seqR rfl ?_
  refine WL.y rfl (Y.assign) ?_
  refine WL.nil ?_
  refine WC.seq ?_
  refine WC.seqR rfl ?_
  refine WL.y rfl (Y.move) ?_
  refine WL.y rfl (Y.eqpn Try.underlying23 rfl rfl) ?_
  refine WL.nil ?_
  refine WC.condT (rfl) ?_
  refine WC.seqR rfl ?_
  refine WL.y rfl (Y.assign) ?_
  refine WL.nil ?_
  refine WC.ret (thenQ.ret (endQ.one (.inr rfl) ?_))
  exact ⟨rfl, rfl⟩
theorem ins0 (w : World) : Ret Try.prog 46 [.slice none 0 0, .int .i64 0, .int .i64 0].toArray w fun _ w' => w = w' := by
  refine Ret.of (n := 49) (rs := #[]) Try.func46 rfl rfl rfl (by simp) ?_
  refine WC.seqR rfl ?_
  refine WL.y rfl (Y.move) ?_
  refine WL.y rfl (Y.add64 rfl rfl (by omega)) ?_
  refine WL.y rfl (Y.assign) ?_
  refine WL.nil ?_
  refine WC.block ?_
  refine WC.loop (fun _ : Unit => 0) (fun _ f ds w' => ds = [] ∧ w = w' ∧ ∃ J, f = Go.Cx.ov J [(2, .int .i64 0), (6, .int .i64 1)]) () ?_ ?_
  · exact ⟨rfl, rfl, _, ov_mk ⟨rfl, rfl, trivial⟩⟩
  · rintro _ _ _ _ ⟨rfl, rfl, J, rfl⟩
    refine WC.seq ?_
    refine WC.seqR rfl ?_
    refine WL.y rfl (Y.move) ?_
    refine WL.y rfl (Y.move) ?_
    refine WL.y rfl (Y.lss rfl rfl) ?_
    refine WL.nil ?_
    refine WC.condD rfl (fun h0 => ?_) (fun h0 => ?_)
    · omega
    · refine WC.exit (thenQ.exit (thenQ.exit (inBlockQ.hit (endQ.zero (.inl rfl) ?_))))
      exact rfl
theorem pdq0 (w : World) : Ret Try.prog 44 [.slice none 0 0, .int .i64 0, .int .i64 0, .int .i64 0].toArray w fun _ w' => w = w' := by
  refine Ret.of (n := 134) (rs := #[]) Try.func44 rfl rfl rfl (by simp) ?_
  refine WC.seqR rfl ?_
  refine WL.y rfl (Y.assign) ?_
  refine WL.nil ?_
  refine WC.seqR rfl ?_
  refine WL.y rfl (Y.assign) ?_
  refine WL.nil ?_
  refine WC.block ?_
  refine WC.loop (fun _ : Unit => 0) (fun _ f ds w' => ds = [] ∧ w = w' ∧ ∃ J, f = Go.Cx.ov J [(0, .slice none 0 0), (1, .int .i64 0), (2, .int .i64 0)]) () ?_ ?_
  · exact ⟨rfl, rfl, _, ov_mk ⟨rfl, rfl, rfl, trivial⟩⟩
  · rintro _ _ _ _ ⟨rfl, rfl, J, rfl⟩
    refine WC.block ?_
    refine WC.seqR rfl ?_
    refine WL.y rfl (Y.move) ?_
    refine WL.y rfl (Y.move) ?_
    refine WL.y rfl (Y.sub64 rfl rfl (by omega)) ?_
    refine WL.y rfl (Y.assign) ?_
    refine WL.nil ?_
    refine WC.seq ?_
    refine WC.seqR rfl ?_
    refine WL.y rfl (Y.move) ?_
    refine WL.y rfl (Y.dT (Y.leq rfl rfl) (by omega)) ?_
    refine WL.nil ?_
    refine WC.condT (rfl) ?_
    refine WC.seqR rfl ?_
    refine WL.y rfl (Y.move) ?_
    refine WL.y rfl (Y.move) ?_
    refine WL.y rfl (Y.move) ?_
    refine WL.call rfl (C.func go46) (ins0 _) ?_
    rintro _ _ rfl
    refine WL.nil ?_
    refine WC.ret (thenQ.ret (inBlockQ.ret (thenQ.ret (inBlockQ.ret (endQ.zero (.inr rfl) ?_)))))
    exact rfl
theorem len64_0 (w : World) : Ret Try.prog 56 [.int .u64 0].toArray w fun v w' => v = .int .i64 0 ∧ w = w' := by
  refine Ret.of (n := 25) (rs := #[.tmp 2]) Try.func56 rfl rfl rfl (by simp) ?_
  refine WC.seqR rfl ?_
  refine WL.y rfl (Y.assign) ?_
  refine WL.nil ?_
  refine WC.seq ?_
  refine WC.seqR rfl ?_
  refine WL.y rfl (Y.move) ?_
  refine WL.y rfl (Y.dF (Y.geq rfl rfl) (by omega)) ?_
  refine WL.nil ?_
  refine WC.condF (rfl) ?_
  refine WC.skip (thenQ.normal ?_)
  refine WC.seq ?_
  refine WC.seqR rfl ?_
  refine WL.y rfl (Y.move) ?_
  refine WL.y rfl (Y.dF (Y.geq rfl rfl) (by omega)) ?_
  refine WL.nil ?_
  refine WC.condF (rfl) ?_
  refine WC.skip (thenQ.normal ?_)
  refine WC.seq ?_
  refine WC.seqR rfl ?_
  refine WL.y rfl (Y.move) ?_
  refine WL.y rfl (Y.dF (Y.geq rfl rfl) (by omega)) ?_
  refine WL.nil ?_
  refine WC.condF (rfl) ?_
  refine WC.skip (thenQ.normal ?_)
  refine WC.seqR rfl ?_
  refine WL.y rfl (Y.move) ?_
  refine WL.y rfl (Y.move) ?_
  refine WL.y rfl (Y.conviR Try.underlying22 Try.underlying5 rfl (by show (0 : Int) ≤ _ ∧ _ ≤ (255 : Int); omega)) ?_
  refine WL.y rfl (Y.idxN 0 Try.underlying9 rfl rfl rfl (by decide) _) ?_
  refine WL.y rfl (Y.u8i Try.underlying5 Try.underlying3 rfl) ?_
  refine WL.y rfl (Y.add64 rfl rfl (by decide)) ?_
  refine WL.y rfl (Y.assign) ?_
  refine WL.nil ?_
  refine WC.ret (endQ.one (.inr rfl) ?_)
  exact ⟨rfl, rfl⟩
theorem len_0 (w : World) : Ret Try.prog 45 [.int .u64 0].toArray w fun v w' => v = .int .i64 0 ∧ w = w' := by
  refine Ret.of (n := 8) (rs := #[.tmp 2]) Try.func45 rfl rfl rfl (by simp) ?_
  refine WC.seqR rfl ?_
  refine WL.y rfl (Y.assign) ?_
  refine WL.nil ?_
  refine WC.seq ?_
  refine WC.condF (rfl) ?_
  refine WC.skip (thenQ.normal ?_)
  refine WC.seqR rfl ?_
  refine WL.y rfl (Y.move) ?_
  refine WL.call rfl (C.func go56) (len64_0 _) ?_
  rintro _ _ ⟨rfl, rfl⟩
  refine WL.y rfl (Y.assign) ?_
  refine WL.nil ?_
  refine WC.ret (endQ.one (.inr rfl) ?_)
  exact ⟨rfl, rfl⟩
theorem sort0 (w : World) : Ret Try.prog 41 [.slice none 0 0].toArray w fun _ w' => w = w' := by
  have hs : SlK w 1 (.slice none 0 0) 0 [] := SlK.nil
  refine Ret.of (n := 11) (rs := #[]) Try.func41 rfl rfl rfl (by simp) ?_
  refine WC.seqR rfl ?_
  refine WL.y rfl (Y.move) ?_
  refine WL.y rfl (Y.lenSl Try.underlying37 (hs) _) ?_
  refine WL.y rfl (Y.assign) ?_
  refine WL.nil ?_
  refine WC.region rfl ?_
  refine WL.y rfl (Y.move) ?_
  refine WL.y rfl (Y.move) ?_
  refine WL.y rfl (Y.move) ?_
  refine WL.y rfl (Y.conviR Try.underlying3 Try.underlying80 rfl (by simp only [IntKind.min, IntKind.max, IntKind.signed, IntKind.bits]; omega)) ?_
  refine WL.call rfl (C.func go45) (len_0 _) ?_
  rintro _ _ ⟨rfl, rfl⟩
  refine WL.call rfl (C.func go44) (pdq0 _) ?_
  rintro _ _ rfl
  refine WL.nil (endQ.zero (.inl rfl) ?_)
  exact rfl
theorem keys_ret (w : World) (mb : Option Nat) : Ret Try.prog 30 [.map mb].toArray w fun v w' => v = .func (.func 42) #[] #[.pointer (some ⟨w.heap.size, 0, none⟩)] ∧ Blk w' w.heap.size 24 [.map mb] ∧ Below w.heap.size w w' := by
  refine Ret.of (n := 4) (rs := #[.tmp 2]) Try.func30 rfl rfl rfl (by simp) ?_
  refine WC.seqR rfl ?_
  refine WL.eex rfl (E.boxX) ?_
  rintro _ w1 ⟨rfl, hB1, hb1⟩
  refine WL.y rfl (Y.assign) ?_
  refine WL.nil ?_
  refine WC.seqR rfl ?_
  refine WL.y rfl (Y.makeFunc) ?_
  refine WL.y rfl (Y.assign) ?_
  refine WL.nil ?_
  refine WC.ret (endQ.one (.inr rfl) ?_)
  exact ⟨rfl, hB1, hb1⟩
theorem keys_nil_seq (b1 : Nat) (w : World) (hB : Blk w b1 24 [.map none]) : SeqW Try.prog 42 [.pointer (some ⟨b1, 0, none⟩)] (fun a : Int => [ku a]) (fun _ _ => True) (fun xs => xs = []) (fun _ => False) 0 w := by
  intro ll J Jx W hb hJ hJx hy h0
  refine Ret.of (n := 14) (rs := #[]) Try.func42 rfl rfl rfl (by simp) ?_
  refine WC.seqR rfl ?_
  refine WL.y rfl (Y.load1 Try.underlying24 rfl rfl ((hB.bel hb).cell 0)) ?_
  refine WL.eex rfl (E.rangeNil (kv := ku) Try.underlying24 rfl) ?_
  rintro _ w5 ⟨rfl, hit5, hb5⟩
  refine WL.nil ?_
  refine WC.block ?_
  refine WC.loop (fun _ : Unit => 0) (fun _ f ds w' => ds = [] ∧ w5 = w' ∧ ∃ J, f = Go.Cx.ov J [(5, .pointer (some ⟨W.heap.size, 0, none⟩))]) () ?_ ?_
  · exact ⟨rfl, rfl, _, ov_mk ⟨rfl, trivial⟩⟩
  · rintro _ _ _ _ ⟨rfl, rfl, J', rfl⟩
    refine WC.seqR rfl ?_
    refine WL.eex rfl (E.nextEnd rfl hit5) ?_
    rintro _ _ ⟨rfl, rfl⟩
    refine WL.y rfl (Y.extract rfl rfl) ?_
    refine WL.nil ?_
    refine WC.seq ?_
    refine WC.condF (rfl) ?_
    refine WC.exit (thenQ.exit (thenQ.exit (inBlockQ.hit (endQ.zero (.inl rfl) ?_))))
    exact .inl ⟨[], rfl, hJ _ _ _ none h0 (grownBy_of_below hb5) (fun r e => by cases e)⟩
theorem aseq0 (b1 : Nat) (w : World) (hB : Blk w b1 24 [.map none]) : Ret Try.prog 43 [.slice none 0 0, .func (.func 42) #[] #[.pointer (some ⟨b1, 0, none⟩)]].toArray w fun v w' => v = .slice none 0 0 ∧ Below w.heap.size w w' := by
  refine Ret.ofM (n := 13) (rs := #[.tmp 4]) Try.func43 rfl rfl rfl (by simp) ?_
  refine WC.seqR rfl ?_
  refine WL.eex rfl (E.boxX) ?_
  rintro _ w2 ⟨rfl, hB2, hb2⟩
  refine WL.y rfl (Y.assign) ?_
  refine WL.nil ?_
  refine WC.seq ?_
  refine WC.seqR rfl ?_
  refine WL.y rfl (Y.move) ?_
  refine WL.nil ?_
  refine WC.block ?_
  have hX : Blk w2 w.heap.size 37 [.slice none 0 0] := hB2
  have lX := hX.lt
  refine WC.rangeFunc (gf := 42) (lb := [.pointer (some ⟨b1, 0, none⟩)]) (ps := [7]) rfl go42 (keys_nil_seq b1 w2 (hB.bel hb2)) (fun _ _ => trivial) (fun _ _ _ _ _ _ _ _ => trivial) (Below.refl _ _) (fun _ => rfl) rfl
    (fun pre W => Blk W w.heap.size 37 [.slice none 0 0] ∧ Below w.heap.size w W) (fun _ _ _ => False)
    ((Blk.ownFrom (fun _ => [.slice none 0 0]) (by omega)).and (ownFrom_below (Nat.le_refl _) hb2.size)) (fun _ _ _ _ _ h _ _ => h)
    ⟨hX, hb2⟩ (fun x f => upd (upd f 7 (ku x)) 5 (ku x)) ?_ ?_ ?_ ?_
  · intro ll x W
    refine WC.region rfl ?_
    refine WL.y rfl (Y.assign) ?_
    refine WL.nil ?_
    exact ⟨rfl, rfl, rfl, rfl⟩
  · rintro ll pre x W _ hN
    exact absurd hN (Nat.not_lt_zero _)
  · rintro D xs W hD rfl ⟨hR2, hb2'⟩ hK
    refine (inBlockQ.normal (thenQ.normal ?_))
    refine WC.seqR rfl ?_
    refine WL.y rfl (Y.load1 Try.underlying37 rfl rfl (hR2.one)) ?_
    refine WL.y rfl (Y.assign) ?_
    refine WL.nil ?_
    refine WC.ret (endQM.mark1 (.inr rfl) hK ?_)
    exact ⟨rfl, below_putObj hb2' (by omega)⟩
  · rintro D c pre W _ h
    exact h.elim
theorem coll0 (b1 : Nat) (w : World) (hB : Blk w b1 24 [.map none]) : Ret Try.prog 40 [.func (.func 42) #[] #[.pointer (some ⟨b1, 0, none⟩)]].toArray w fun v w' => v = .slice none 0 0 ∧ Below w.heap.size w w' := by
  refine Ret.of (n := 5) (rs := #[.tmp 2]) Try.func40 rfl rfl rfl (by simp) ?_
  refine WC.seqR rfl ?_
  refine WL.y rfl (Y.assign) ?_
  refine WL.nil ?_
  refine WC.seqR rfl ?_
  refine WL.y rfl (Y.move) ?_
  refine WL.call rfl (C.func go43) (aseq0 b1 _ hB) ?_
  rintro _ w4 ⟨rfl, hb4⟩
  refine WL.y rfl (Y.assign) ?_
  refine WL.nil ?_
  refine WC.ret (endQ.one (.inr rfl) ?_)
  exact ⟨rfl, hb4⟩
theorem sorted0 (b1 : Nat) (w : World) (hB : Blk w b1 24 [.map none]) : Ret Try.prog 29 [.func (.func 42) #[] #[.pointer (some ⟨b1, 0, none⟩)]].toArray w fun v w' => v = .slice none 0 0 ∧ Below w.heap.size w w' := by
  refine Ret.of (n := 9) (rs := #[.tmp 2]) Try.func29 rfl rfl rfl (by simp) ?_
  refine WC.seqR rfl ?_
  refine WL.y rfl (Y.assign) ?_
  refine WL.nil ?_
  refine WC.seqR rfl ?_
  refine WL.y rfl (Y.move) ?_
  refine WL.call rfl (C.func go40) (coll0 b1 _ hB) ?_
  rintro _ w5 ⟨rfl, hb5⟩
  refine WL.y rfl (Y.assign) ?_
  refine WL.nil ?_
  refine WC.seqR rfl ?_
  refine WL.y rfl (Y.move) ?_
  refine WL.call rfl (C.func go41) (sort0 _) ?_
  rintro _ _ rfl
  refine WL.nil ?_
  refine WC.seqR rfl ?_
  refine WL.y rfl (Y.move) ?_
  refine WL.y rfl (Y.assign) ?_
  refine WL.nil ?_
  refine WC.ret (endQ.one (.inr rfl) ?_)
  exact ⟨rfl, hb5⟩
theorem clients_zero (w : World) (b : Nat) (x1 x2 x3 : Value) (hB : Blk w b 27 [.map none, x1, x2, x3]) : Ret Try.prog 15 [.pointer (some ⟨b, 0, none⟩)].toArray w fun v w' => v = .slice none 0 0 ∧ Below w.heap.size w w' := by
  refine Ret.of (n := 11) (rs := #[.tmp 2]) Try.func15 rfl rfl rfl (by simp) ?_
  refine WC.seqR rfl ?_
  refine WL.y rfl (Y.assign) ?_
  refine WL.nil ?_
  refine WC.seq ?_
  refine WC.seqR rfl ?_
  refine WL.y rfl (Y.move) ?_
  refine WL.y rfl (Y.eqpn Try.underlying23 rfl rfl) ?_
  refine WL.nil ?_
  refine WC.condF (rfl) ?_
  refine WC.skip (thenQ.normal ?_)
  refine WC.seqR rfl ?_
  refine WL.y rfl (Y.move) ?_
  refine WL.y rfl (Y.nilCheck rfl) ?_
  refine WL.y rfl (Y.fieldAddr fi27f0 ti24 (by decide) rfl (rfl) _) ?_
  refine WL.y rfl (Y.load1 Try.underlying24 rfl rfl (hB.cell 0)) ?_
  refine WL.call rfl (C.func go30) (keys_ret w none) ?_
  rintro _ w9 ⟨rfl, hB9, hb9x⟩
  refine WL.call rfl (C.func go29) (sorted0 _ _ hB9) ?_
  rintro _ w10 ⟨rfl, hb10⟩
  refine WL.y rfl (Y.assign) ?_
  refine WL.nil ?_
  refine WC.ret (endQ.one (.inr rfl) ?_)
  exact ⟨rfl, Below.step hb9x hb10⟩
end Go.Proofs.Ytlhhognabmnlmaa
