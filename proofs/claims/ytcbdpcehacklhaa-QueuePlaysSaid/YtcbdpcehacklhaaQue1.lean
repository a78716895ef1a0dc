/-
  queue: Last, Next, Len, All, Find, Copy: walks.
-/
import Derived.Test.YtcbdpcehacklhaaQue0
namespace Go.Proofs.Ytcbdpcehacklhaa
open Go Go.RowKit Go.Cx
set_option linter.unusedVariables false
set_option maxHeartbeats 8000000
/-- mutators, numbered from one on -/
def numd : Int → List Mt → List (Int × Mt)
  | _, [] => []
  | a, m :: ms => (a + 1, m) :: numd (a + 1) ms
theorem numd_len : ∀ (a : Int) (ms : List Mt), (numd a ms).length = ms.length
  | _, [] => rfl
  | a, m :: ms => by rw [numd, List.length_cons, numd_len (a + 1) ms, List.length_cons]
theorem numd_app : ∀ (a : Int) (xs ys : List Mt), numd a (xs ++ ys) = numd a xs ++ numd (a + xs.length) ys
  | a, [], ys => by simp [numd]
  | a, x :: xs, ys => by
    rw [List.cons_append, numd, numd, numd_app (a + 1) xs ys, List.cons_append, List.length_cons]
    congr 3
    omega
theorem numd_drop : ∀ (a : Int) (ms : List Mt) (k : Nat), k ≤ ms.length → (numd a ms).drop k = numd (a + k) (ms.drop k)
  | a, ms, 0, _ => by simp
  | a, [], k + 1, h => by simp at h
  | a, m :: ms, k + 1, h => by
    rw [numd, List.drop_succ_cons, List.drop_succ_cons, numd_drop (a + 1) ms k (by simpa using h)]
    congr 1
    omega
theorem numd_take : ∀ (a : Int) (ms : List Mt) (k : Nat), (numd a ms).take k = numd a (ms.take k)
  | a, ms, 0 => by simp [numd]
  | a, [], k + 1 => by simp [numd]
  | a, m :: ms, k + 1 => by rw [numd, List.take_succ_cons, List.take_succ_cons, numd, numd_take (a + 1) ms k]
theorem numd_get : ∀ (a : Int) (ms : List Mt) (j : Nat) (h : j < ms.length) (h' : j < (numd a ms).length), (numd a ms)[j] = (a + 1 + j, ms[j])
  | a, [], j, h, _ => absurd h (by simp)
  | a, m :: ms, 0, _, _ => by simp [numd]
  | a, m :: ms, j + 1, h, h' => by
    simp only [numd, List.getElem_cons_succ]
    rw [numd_get (a + 1) ms j (by simpa using h) (by rw [numd_len]; simpa using h)]
    congr 1
    omega
/-- a queue in memory: last number, what is pending -/
def QW (w : World) (M : Nat → Prop) (q : Nat) (last : Int) (ms : List Mt) : Prop := ∃ r, Blk w q 36 [.int .u64 last, r] ∧ M q ∧ NLW w (fun b => M b ∧ b ≠ q) (numd last ms) r ∧ (0 ≤ last ∧ last + ms.length ≤ 4611686018427387903) ∧ ms.length ≤ 100000
theorem QW.kept {w w' : World} {M M' : Nat → Prop} {q : Nat} {last : Int} {ms : List Mt} (h : QW w M q last ms) (hk : Kept M' w w') (hM : ∀ b, M b → ¬ M' b) : QW w' M q last ms := by
  obtain ⟨r, h1, h2, h3, h4⟩ := h
  exact ⟨r, h1.kept hk (hM _ h2), h2, NLW.kept hk (fun b h => hM b h.1) h3, h4⟩
theorem QW.bel {w w' : World} {M : Nat → Prop} {q : Nat} {last : Int} {ms : List Mt} (h : QW w M q last ms) (hb : Below w.heap.size w w') : QW w' M q last ms := h.kept (M' := fun _ => False) (Kept.of_bel hb) (fun _ _ h => h)
theorem QW.mono {w : World} {M M' : Nat → Prop} (hM : ∀ b, b < w.heap.size → M b → M' b) {q : Nat} {last : Int} {ms : List Mt} (h : QW w M q last ms) : QW w M' q last ms := by
  obtain ⟨r, h1, h2, h3, h4⟩ := h
  exact ⟨r, h1, hM _ h1.lt h2, NLW.mono (fun b hb h => ⟨hM b hb h.1, h.2⟩) h3, h4⟩
theorem QW.lt {w : World} {M : Nat → Prop} {q : Nat} {last : Int} {ms : List Mt} (h : QW w M q last ms) : q < w.heap.size := by
  obtain ⟨r, h1, _⟩ := h
  exact h1.lt
theorem QW.rg {w : World} {M : Nat → Prop} {q : Nat} {last : Int} {ms : List Mt} (h : QW w M q last ms) : (0 ≤ last ∧ last + ms.length ≤ 4611686018427387903) ∧ ms.length ≤ 100000 := by
  obtain ⟨r, _, _, _, h4⟩ := h
  exact h4
theorem NLW.sl {w : World} {M : Nat → Prop} {a : Int} {ms : List Mt} {r : Value} (h : NLW w M (numd a ms) r) : ∃ cs, SlK w 20 r ms.length cs := by
  obtain ⟨bl, lc, h1, h2, h3, h4⟩ := h
  have := h3.sl
  rw [numd_len] at this
  exact ⟨_, this⟩
theorem NLW.form {w : World} {M : Nat → Prop} {l : List (Int × Mt)} {r : Value} (h : NLW w M l r) : ∃ a n c, r = .slice a n c := by
  obtain ⟨bl, lc, h1, h2, h3, h4⟩ := h
  rcases h3.2 with ⟨e, _⟩ | ⟨o, cap, cur, e, _⟩
  · exact ⟨_, _, _, e⟩
  · exact ⟨_, _, _, e⟩
theorem qlast_ret {w : World} {M : Nat → Prop} {q : Nat} {last : Int} {ms : List Mt} (h : QW w M q last ms) : Ret Try.prog 20 [.pointer (some ⟨q, 0, none⟩)].toArray w fun v w' => v = .int .u64 last ∧ w = w' := by
  obtain ⟨r, hB, hM, hN, hr⟩ := h
  refine Ret.of (n := 9) (rs := #[.tmp 2]) Try.func20 rfl rfl rfl (by simp) ?_
  refine WC.seqR rfl ?_
  refine WL.y rfl (Y.assign) ?_
  refine WL.nil ?_
  refine WC.seq ?_
  refine WC.seqR rfl ?_
  refine WL.y rfl (Y.move) ?_
  refine WL.y rfl (Y.eqpn Try.underlying32 rfl rfl) ?_
  refine WL.nil ?_
  refine WC.condF (rfl) ?_
  refine WC.skip (thenQ.normal ?_)
  refine WC.seqR rfl ?_
  refine WL.y rfl (Y.move) ?_
  refine WL.y rfl (Y.nilCheck rfl) ?_
  refine WL.y rfl (Y.fieldAddr fi36f0 ti33 (by decide) rfl (rfl) _) ?_
  refine WL.y rfl (Y.load1 Try.underlying33 rfl rfl (hB.cell 0)) ?_
  refine WL.y rfl (Y.assign) ?_
  refine WL.nil ?_
  refine WC.ret (endQ.one (.inr rfl) ?_)
  exact ⟨rfl, rfl⟩
theorem qlast_nil (w : World) : Ret Try.prog 20 [.pointer none].toArray w fun v w' => v = .int .u64 0 ∧ w = w' := by
  refine Ret.of (n := 9) (rs := #[.tmp 2]) Try.func20 rfl rfl rfl (by simp) ?_
  refine WC.seqR rfl ?_
  refine WL.y rfl (Y.assign) ?_
  refine WL.nil ?_
  refine WC.seq ?_
  refine WC.seqR rfl ?_
  refine WL.y rfl (Y.move) ?_
  refine WL.y rfl (Y.eqpn Try.underlying32 rfl rfl) ?_
  refine WL.nil ?_
  refine WC.condT (rfl) ?_
  refine WC.seqR rfl ?_
  refine WL.y rfl (Y.assign) ?_
  refine WL.nil ?_
  refine WC.ret (thenQ.ret (endQ.one (.inr rfl) ?_))
  exact ⟨rfl, rfl⟩
theorem qlen_ret {w : World} {M : Nat → Prop} {q : Nat} {last : Int} {ms : List Mt} (h : QW w M q last ms) : Ret Try.prog 21 [.pointer (some ⟨q, 0, none⟩)].toArray w fun v w' => v = .int .i64 ms.length ∧ w = w' := by
  obtain ⟨r, hB, hM, hN, hr⟩ := h
  have hqq := hN.sl
  obtain ⟨cs, hs⟩ := hqq
  refine Ret.of (n := 10) (rs := #[.tmp 2]) Try.func21 rfl rfl rfl (by simp) ?_
  refine WC.seqR rfl ?_
  refine WL.y rfl (Y.assign) ?_
  refine WL.nil ?_
  refine WC.seq ?_
  refine WC.seqR rfl ?_
  refine WL.y rfl (Y.move) ?_
  refine WL.y rfl (Y.eqpn Try.underlying32 rfl rfl) ?_
  refine WL.nil ?_
  refine WC.condF (rfl) ?_
  refine WC.skip (thenQ.normal ?_)
  refine WC.seqR rfl ?_
  refine WL.y rfl (Y.move) ?_
  refine WL.y rfl (Y.nilCheck rfl) ?_
  refine WL.y rfl (Y.fieldAddr fi36f1 ti34 (by decide) rfl (rfl) _) ?_
  refine WL.y rfl (Y.load1 Try.underlying34 rfl rfl (hB.cell 1)) ?_
  refine WL.y rfl (Y.lenSl Try.underlying34 (hs) _) ?_
  refine WL.y rfl (Y.assign) ?_
  refine WL.nil ?_
  refine WC.ret (endQ.one (.inr rfl) ?_)
  exact ⟨rfl, rfl⟩
theorem qlen_nil (w : World) : Ret Try.prog 21 [.pointer none].toArray w fun v w' => v = .int .i64 0 ∧ w = w' := by
  refine Ret.of (n := 10) (rs := #[.tmp 2]) Try.func21 rfl rfl rfl (by simp) ?_
  refine WC.seqR rfl ?_
  refine WL.y rfl (Y.assign) ?_
  refine WL.nil ?_
  refine WC.seq ?_
  refine WC.seqR rfl ?_
  refine WL.y rfl (Y.move) ?_
  refine WL.y rfl (Y.eqpn Try.underlying32 rfl rfl) ?_
  refine WL.nil ?_
  refine WC.condT (rfl) ?_
  refine WC.seqR rfl ?_
  refine WL.y rfl (Y.assign) ?_
  refine WL.nil ?_
  refine WC.ret (thenQ.ret (endQ.one (.inr rfl) ?_))
  exact ⟨rfl, rfl⟩
theorem qnext_ret {w : World} {M : Nat → Prop} {q : Nat} {last : Int} {ms : List Mt} (h : QW w M q last ms) : Ret Try.prog 17 [.pointer (some ⟨q, 0, none⟩)].toArray w fun v w' => v = .int .u64 (last + ms.length + 1) ∧ Below w.heap.size w w' := by
  obtain ⟨r, hB, hM, hN, hr⟩ := h
  have hqq := hN.sl
  obtain ⟨cs, hs⟩ := hqq
  refine Ret.of (n := 17) (rs := #[.tmp 2]) Try.func17 rfl rfl rfl (by simp) ?_
  refine WC.seqR rfl ?_
  refine WL.y rfl (Y.assign) ?_
  refine WL.nil ?_
  refine WC.seq ?_
  refine WC.seqR rfl ?_
  refine WL.y rfl (Y.move) ?_
  refine WL.y rfl (Y.eqpn Try.underlying32 rfl rfl) ?_
  refine WL.nil ?_
  refine WC.condF (rfl) ?_
  refine WC.skip (thenQ.normal ?_)
  refine WC.seq ?_
  refine WC.regionB (fun _ => false) [(0, .any), (1, .any), (2, .any), (3, .held), (4, .any), (5, .any), (6, .any), (7, .held), (8, .any), (9, .any), (10, .any), (11, .any), (12, .any)] mixed (by kernel_rfl) (fun w3 hS3 hheap => ?_)
  refine RL.any rfl rfl (fun _ => Y.move) ?_
  refine RL.any rfl rfl (fun _ => Y.nilCheck rfl) ?_
  refine RL.any rfl rfl (fun _ => Y.fieldAddr fi36f0 ti33 (by decide) rfl (rfl) _) ?_
  refine RL.held rfl rfl hS3 (fun _ hb9 => Y.load1 Try.underlying33 rfl rfl (cell_bel (hB.cell 0) hb9)) ?_
  refine RL.any rfl rfl (fun _ => Y.move) ?_
  refine RL.any rfl rfl (fun _ => Y.nilCheck rfl) ?_
  refine RL.any rfl rfl (fun _ => Y.fieldAddr fi36f1 ti34 (by decide) rfl (rfl) _) ?_
  refine RL.held rfl rfl hS3 (fun _ hb9 => Y.load1 Try.underlying34 rfl rfl (cell_bel (hB.cell 1) hb9)) ?_
  refine RL.any rfl rfl (fun _ => Y.lenSl Try.underlying34 (hs) _) ?_
  refine RL.any rfl rfl (fun _ => Y.conviR Try.underlying3 Try.underlying33 rfl (by simp only [IntKind.min, IntKind.max, IntKind.signed, IntKind.bits]; omega)) ?_
  refine RL.any rfl rfl (fun _ => Y.addU64 rfl rfl (by omega)) ?_
  refine RL.any rfl rfl (fun _ => Y.addU64 rfl rfl (by omega)) ?_
  refine RL.any rfl rfl (fun _ => Y.assign) ?_
  refine RL.nil (thenQ.normal ?_)
  refine WC.ret (endQ.one (.inr rfl) ?_)
  exact ⟨rfl, hS3⟩
theorem qnext_nil (w : World) : Ret Try.prog 17 [.pointer none].toArray w fun v w' => v = .int .u64 0 ∧ w = w' := by
  refine Ret.of (n := 17) (rs := #[.tmp 2]) Try.func17 rfl rfl rfl (by simp) ?_
  refine WC.seqR rfl ?_
  refine WL.y rfl (Y.assign) ?_
  refine WL.nil ?_
  refine WC.seq ?_
  refine WC.seqR rfl ?_
  refine WL.y rfl (Y.move) ?_
  refine WL.y rfl (Y.eqpn Try.underlying32 rfl rfl) ?_
  refine WL.nil ?_
  refine WC.condT (rfl) ?_
  refine WC.seqR rfl ?_
  refine WL.y rfl (Y.assign) ?_
  refine WL.nil ?_
  refine WC.ret (thenQ.ret (endQ.one (.inr rfl) ?_))
  exact ⟨rfl, rfl⟩
theorem qall_ret {w : World} {M : Nat → Prop} {q : Nat} {last : Int} {ms : List Mt} (h : QW w M q last ms) : Ret Try.prog 12 [.pointer (some ⟨q, 0, none⟩)].toArray w fun v w' => NLW w' (fun b => w.heap.size ≤ b) (numd last ms) v ∧ Below w.heap.size w w' := by
  obtain ⟨r, hB, hM, hN, hr⟩ := h
  have hlen : (numd last ms).length ≤ 517417236585 := by rw [numd_len]; omega
  refine Ret.of (n := 10) (rs := #[.tmp 2]) Try.func12 rfl rfl rfl (by simp) ?_
  refine WC.seqR rfl ?_
  refine WL.y rfl (Y.assign) ?_
  refine WL.nil ?_
  refine WC.seq ?_
  refine WC.seqR rfl ?_
  refine WL.y rfl (Y.move) ?_
  refine WL.y rfl (Y.eqpn Try.underlying32 rfl rfl) ?_
  refine WL.nil ?_
  refine WC.condF (rfl) ?_
  refine WC.skip (thenQ.normal ?_)
  refine WC.seqR rfl ?_
  refine WL.y rfl (Y.move) ?_
  refine WL.y rfl (Y.nilCheck rfl) ?_
  refine WL.y rfl (Y.fieldAddr fi36f1 ti34 (by decide) rfl (rfl) _) ?_
  refine WL.y rfl (Y.load1 Try.underlying34 rfl rfl (hB.cell 1)) ?_
  refine WL.call rfl (C.func go29) (each_ret _ _ _ hN.at hlen) ?_
  rintro v9 w9 ⟨h9, hb9⟩
  refine WL.y rfl (Y.assign) ?_
  refine WL.nil ?_
  refine WC.ret (endQ.one (.inr rfl) ?_)
  exact ⟨h9, hb9⟩
theorem qall_nil (w : World) : Ret Try.prog 12 [.pointer none].toArray w fun v w' => v = .slice none 0 0 ∧ w = w' := by
  refine Ret.of (n := 10) (rs := #[.tmp 2]) Try.func12 rfl rfl rfl (by simp) ?_
  refine WC.seqR rfl ?_
  refine WL.y rfl (Y.assign) ?_
  refine WL.nil ?_
  refine WC.seq ?_
  refine WC.seqR rfl ?_
  refine WL.y rfl (Y.move) ?_
  refine WL.y rfl (Y.eqpn Try.underlying32 rfl rfl) ?_
  refine WL.nil ?_
  refine WC.condT (rfl) ?_
  refine WC.seqR rfl ?_
  refine WL.y rfl (Y.assign) ?_
  refine WL.nil ?_
  refine WC.ret (thenQ.ret (endQ.one (.inr rfl) ?_))
  exact ⟨rfl, rfl⟩
theorem qcopy_ret {w : World} {M : Nat → Prop} {q : Nat} {last : Int} {ms : List Mt} (h : QW w M q last ms) : Ret Try.prog 23 [.pointer (some ⟨q, 0, none⟩)].toArray w fun v w' => ∃ q', v = .pointer (some ⟨q', 0, none⟩) ∧ QW w' (fun b => w.heap.size ≤ b) q' last ms ∧ Below w.heap.size w w' := by
  have hq := h
  obtain ⟨r, hB, hM, hN, hr⟩ := h
  refine Ret.of (n := 13) (rs := #[.tmp 2]) Try.func23 rfl rfl rfl (by simp) ?_
  refine WC.seqR rfl ?_
  refine WL.y rfl (Y.assign) ?_
  refine WL.nil ?_
  refine WC.seq ?_
  refine WC.seqR rfl ?_
  refine WL.y rfl (Y.move) ?_
  refine WL.y rfl (Y.eqpn Try.underlying32 rfl rfl) ?_
  refine WL.nil ?_
  refine WC.condF (rfl) ?_
  refine WC.skip (thenQ.normal ?_)
  refine WC.seq ?_
  refine WC.regionB (fun i => Nat.beq i 7) [(0, .any), (1, .any), (2, .any), (3, .held), (4, .any), (5, .seq), (6, .any), (7, .seq), (8, .any)] mixed (by kernel_rfl) (fun w3 hS3 hheap => ?_)
  refine RL.any rfl rfl (fun _ => Y.move) ?_
  refine RL.any rfl rfl (fun _ => Y.nilCheck rfl) ?_
  refine RL.any rfl rfl (fun _ => Y.fieldAddr fi36f0 ti33 (by decide) rfl (rfl) _) ?_
  refine RL.held rfl rfl hS3 (fun _ hb9 => Y.load1 Try.underlying33 rfl rfl (cell_bel (hB.cell 0) hb9)) ?_
  refine RL.any rfl rfl (fun _ => Y.move) ?_
  refine RL.call rfl rfl (C.func go12) (qall_ret (hq.bel hS3)) ?_
  rintro v10 w10 ⟨h10, hb10⟩
  refine ⟨.inr (fun h => Below.step h hb10), ?_⟩
  have hs10 := h10.form
  obtain ⟨x10, n10, c10, rfl⟩ := hs10
  refine RL.any rfl rfl (fun _ => Y.build (cells := #[.int .u64 last, .slice x10 n10 c10]) (by kernel_rfl) _) ?_
  refine RL.eex rfl rfl (E.boxX) ?_ ?_
  · exact fun _ _ _ => .inl rfl
  rintro _ w12 ⟨rfl, hB12, hb12⟩
  refine RL.any rfl rfl (fun _ => Y.assign) ?_
  refine RL.nil (thenQ.normal ?_)
  refine WC.ret (endQ.one (.inr rfl) ?_)
  have hq12 : Blk w12 w10.heap.size 36 [.int .u64 last, .slice x10 n10 c10] := hB12
  have s3 := hS3.size
  have s10 := hb10.size
  have h12 : NLW w12 (fun b => w.heap.size ≤ b ∧ b ≠ w10.heap.size) (numd last ms) (.slice x10 n10 c10) := (h10.mono (fun b h1 h2 => ⟨by omega, by omega⟩)).bel hb12
  exact ⟨_, rfl, ⟨_, hq12, by omega, h12, hr⟩, Below.step (Below.step hS3 hb10) hb12⟩
theorem qcopy_nil (w : World) : Ret Try.prog 23 [.pointer none].toArray w fun v w' => v = .pointer none ∧ w = w' := by
  refine Ret.of (n := 13) (rs := #[.tmp 2]) Try.func23 rfl rfl rfl (by simp) ?_
  refine WC.seqR rfl ?_
  refine WL.y rfl (Y.assign) ?_
  refine WL.nil ?_
  refine WC.seq ?_
  refine WC.seqR rfl ?_
  refine WL.y rfl (Y.move) ?_
  refine WL.y rfl (Y.eqpn Try.underlying32 rfl rfl) ?_
  refine WL.nil ?_
  refine WC.condT (rfl) ?_
  refine WC.seqR rfl ?_
  refine WL.y rfl (Y.assign) ?_
  refine WL.nil ?_
  refine WC.ret (thenQ.ret (endQ.one (.inr rfl) ?_))
  exact ⟨rfl, rfl⟩
end Go.Proofs.Ytcbdpcehacklhaa
