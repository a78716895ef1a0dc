/-
  The queue and the document's, side by side.
-/
import Derived.Test.YtcbdpcehacklhaaQue12
namespace Go.Proofs.Ytcbdpcehacklhaa
open Go Go.RowKit Go.Cx
set_option linter.unusedVariables false
set_option maxHeartbeats 8000000
/-- the queue and the document's, side by side; F is apart from both -/
def St (F : Nat → Prop) (w0 w : World) (q : Nat) (lq : Int) (mq : List Mt) (rb : Nat) (lr : Int) (mr : List Mt) : Prop := ∃ MQ MR : Nat → Prop, Below w0.heap.size w0 w ∧ (∀ b, MQ b → w0.heap.size ≤ b ∧ b < w.heap.size) ∧ (∀ b, MR b → w0.heap.size ≤ b ∧ b < w.heap.size) ∧ (∀ b, MQ b → ¬ MR b) ∧ (∀ b, F b → b < w.heap.size ∧ ¬ MQ b ∧ ¬ MR b) ∧ QW w MQ q lq mq ∧ RQ w0 w MR rb lr mr
theorem St.ofQ {F : Nat → Prop} {w0 w w' : World} {MQ MR : Nat → Prop} {q rb : Nat} {lq lr : Int} {mq mr : List Mt} (hw : Below w0.heap.size w0 w) (hQ : ∀ b, MQ b → w0.heap.size ≤ b ∧ b < w.heap.size) (hR : ∀ b, MR b → w0.heap.size ≤ b ∧ b < w.heap.size) (hd : ∀ b, MQ b → ¬ MR b) (hF : ∀ b, F b → b < w.heap.size ∧ ¬ MQ b ∧ ¬ MR b) (r1 : RQ w0 w MR rb lr mr) (q2 : QW w' (fun b => MQ b ∨ w.heap.size ≤ b) q lq mq) (k : Kept MQ w w') : St F w0 w' q lq mq rb lr mr ∧ Kept (fun b => ¬ F b) w w' := by
  have s := k.size
  refine ⟨⟨fun b => (MQ b ∨ w.heap.size ≤ b) ∧ b < w'.heap.size, MR, Below.kept hw k (fun b h => (hQ b h).1) (Nat.le_refl _), fun b h => ?_, fun b h => ⟨(hR b h).1, by have := (hR b h).2; omega⟩, fun b h hm => ?_, fun b h => ⟨by have := (hF b h).1; omega, fun hm => ?_, (hF b h).2.2⟩, q2.mono (fun b h1 h2 => ⟨h2, h1⟩), r1.kept k (fun b h hm => hd b hm h)⟩, k.mono (fun b h _ hf => (hF b hf).2.1 h)⟩
  · have := hw.size
    rcases h.1 with h1 | h1
    · exact ⟨(hQ b h1).1, h.2⟩
    · exact ⟨by omega, h.2⟩
  · have := hR b hm
    rcases h.1 with h1 | h1
    · exact hd b h1 hm
    · omega
  · have := (hF b h).1
    rcases hm.1 with h1 | h1
    · exact (hF b h).2.1 h1
    · omega
theorem St.ofR {F : Nat → Prop} {w0 w w' : World} {MQ MR : Nat → Prop} {q rb : Nat} {lq lr : Int} {mq mr : List Mt} (hw : Below w0.heap.size w0 w) (hQ : ∀ b, MQ b → w0.heap.size ≤ b ∧ b < w.heap.size) (hR : ∀ b, MR b → w0.heap.size ≤ b ∧ b < w.heap.size) (hd : ∀ b, MQ b → ¬ MR b) (hF : ∀ b, F b → b < w.heap.size ∧ ¬ MQ b ∧ ¬ MR b) (hrb : MR rb) (q1 : QW w MQ q lq mq) (r2 : RQ w0 w' (fun b => MR b ∨ w.heap.size ≤ b) rb lr mr) (k : Kept (fun b => b = rb) w w') : St F w0 w' q lq mq rb lr mr ∧ Kept (fun b => ¬ F b) w w' := by
  have s := k.size
  refine ⟨⟨MQ, fun b => (MR b ∨ w.heap.size ≤ b) ∧ b < w'.heap.size, Below.kept hw k (fun b h => by rw [h]; exact (hR rb hrb).1) (Nat.le_refl _), fun b h => ⟨(hQ b h).1, by have := (hQ b h).2; omega⟩, fun b h => ?_, fun b h hm => ?_, fun b h => ⟨by have := (hF b h).1; omega, (hF b h).2.1, fun hm => ?_⟩, q1.kept k (fun b h hm => by subst hm; exact hd _ h hrb), r2.mono (fun b h1 h2 => ⟨h2, h1⟩)⟩, k.mono (fun b h _ hf => by subst h; exact (hF _ hf).2.2 hrb)⟩
  · have := hw.size
    rcases h.1 with h1 | h1
    · exact ⟨(hR b h1).1, h.2⟩
    · exact ⟨by omega, h.2⟩
  · have := hQ b h
    rcases hm.1 with h1 | h1
    · exact hd b h h1
    · omega
  · have := (hF b h).1
    rcases hm.1 with h1 | h1
    · exact (hF b h).2.2 h1
    · omega
theorem St.bel {F : Nat → Prop} {w0 w w' : World} {q rb : Nat} {lq lr : Int} {mq mr : List Mt} (h : St F w0 w q lq mq rb lr mr) (hb : Below w.heap.size w w') : St F w0 w' q lq mq rb lr mr := by
  obtain ⟨MQ, MR, hw, hQ, hR, hd, hF, q1, r1⟩ := h
  have := hb.size
  exact ⟨MQ, MR, Below.step hw hb, fun b h => ⟨(hQ b h).1, by have := (hQ b h).2; omega⟩, fun b h => ⟨(hR b h).1, by have := (hR b h).2; omega⟩, hd, fun b h => ⟨by have := (hF b h).1; omega, (hF b h).2⟩, q1.bel hb, r1.bel hb⟩
theorem St.frame {F G : Nat → Prop} {w0 w w' : World} {q rb : Nat} {lq lr : Int} {mq mr : List Mt} (h : St F w0 w q lq mq rb lr mr) (hb : Below w.heap.size w w') (hG : ∀ b, G b → w.heap.size ≤ b ∧ b < w'.heap.size) : St G w0 w' q lq mq rb lr mr := by
  have hqq := h.bel hb
  obtain ⟨MQ, MR, hw, hQ, hR, hd, hF, q1, r1⟩ := hqq
  obtain ⟨MQ, MR, hw0, hQ, hR, hd, hF, q1, r1⟩ := h
  have := hb.size
  exact ⟨MQ, MR, Below.step hw0 hb, fun b h => ⟨(hQ b h).1, by have := (hQ b h).2; omega⟩, fun b h => ⟨(hR b h).1, by have := (hR b h).2; omega⟩, hd, fun b h => ⟨(hG b h).2, fun hm => by have := (hQ b hm).2; have := hG b h; omega, fun hm => by have := (hR b hm).2; have := hG b h; omega⟩, q1.bel hb, r1.bel hb⟩
/-- a copy takes the queue's place -/
theorem St.swap {F : Nat → Prop} {w0 w : World} {q c rb : Nat} {lq l lr : Int} {mq m mr : List Mt} (h : St F w0 w q lq mq rb lr mr) (hF : ∀ b, F b → w0.heap.size ≤ b) (hc : QW w F c l m) : St (fun _ => False) w0 w c l m rb lr mr := by
  obtain ⟨MQ, MR, hw0, hQ, hR, hd, hf, q1, r1⟩ := h
  exact ⟨F, MR, hw0, fun b h => ⟨hF b h, (hf b h).1⟩, hR, fun b h => (hf b h).2.2, fun b h => h.elim, hc, r1⟩
theorem St.unframe {F : Nat → Prop} {w0 w : World} {q rb : Nat} {lq lr : Int} {mq mr : List Mt} (h : St F w0 w q lq mq rb lr mr) : St (fun _ => False) w0 w q lq mq rb lr mr := by
  obtain ⟨MQ, MR, hw0, hQ, hR, hd, hF, q1, r1⟩ := h
  exact ⟨MQ, MR, hw0, hQ, hR, hd, fun b h => h.elim, q1, r1⟩
theorem St.below {F : Nat → Prop} {w0 w : World} {q rb : Nat} {lq lr : Int} {mq mr : List Mt} (h : St F w0 w q lq mq rb lr mr) : Below w0.heap.size w0 w := by obtain ⟨_, _, h, _⟩ := h; exact h
theorem RQ.in {w0 w : World} {M : Nat → Prop} {q : Nat} {last : Int} {ms : List Mt} (h : RQ w0 w M q last ms) : M q := by obtain ⟨_, _, h, _⟩ := h; exact h
theorem QW.in {w : World} {M : Nat → Prop} {q : Nat} {last : Int} {ms : List Mt} (h : QW w M q last ms) : M q := by obtain ⟨_, _, h, _⟩ := h; exact h
section
variable {F : Nat → Prop} {w0 w : World} {q rb : Nat} {lq lr : Int} {mq mr : List Mt}
theorem St.add (h : St F w0 w q lq mq rb lr mr) (m : Mt) (c : List Value) (hm : MtAt w m c) (hr : lq + mq.length + 1 ≤ 4611686018427387903) (hl : mq.length < 100000) : Ret Try.prog 10 [.pointer (some ⟨q, 0, none⟩), .agg c.toArray].toArray w fun v w' => v = .tuple #[.int .u64 (lq + mq.length + 1), .int .i64 0] ∧ St F w0 w' q lq (mq ++ [m]) rb lr mr ∧ Kept (fun b => ¬ F b) w w' := by
  obtain ⟨MQ, MR, hw, hQ, hR, hd, hF, q1, r1⟩ := h
  refine (qadd_ret q1 m c hm hr hl).mono ?_
  rintro v w' ⟨rfl, q2, k⟩
  exact ⟨rfl, St.ofQ hw hQ hR hd hF r1 q2 k⟩
theorem St.radd (h : St F w0 w q lq mq rb lr mr) (m : Mt) (c : List Value) (hm : MtAt w0 m c) (hr : lr + mr.length + 1 ≤ 4611686018427387903) (hl : mr.length < 100000) : Ret Try.prog 24 [.pointer (some ⟨rb, 0, none⟩), .agg c.toArray].toArray w fun v w' => v = .tuple #[.int .u64 (lr + mr.length + 1), .int .i64 0] ∧ St F w0 w' q lq mq rb lr (mr ++ [m]) ∧ Kept (fun b => ¬ F b) w w' := by
  obtain ⟨MQ, MR, hw, hQ, hR, hd, hF, q1, r1⟩ := h
  refine (radd_ret r1 m c hm hr hl hw).mono ?_
  rintro v w' ⟨rfl, r2, k⟩
  exact ⟨rfl, St.ofR hw hQ hR hd hF r1.in q1 r2 k⟩
theorem St.cut (h : St F w0 w q lq mq rb lr mr) (to : Int) (h1 : lq ≤ to) (h2 : to ≤ lq + mq.length) : Ret Try.prog 18 [.pointer (some ⟨q, 0, none⟩), .int .u64 to].toArray w fun v w' => v = .int .i64 0 ∧ St F w0 w' q to (mq.drop (to - lq).toNat) rb lr mr ∧ Kept (fun b => ¬ F b) w w' := by
  obtain ⟨MQ, MR, hw, hQ, hR, hd, hF, q1, r1⟩ := h
  refine (qcut_ret q1 to h1 h2).mono ?_
  rintro v w' ⟨rfl, q2, k⟩
  exact ⟨rfl, St.ofQ hw hQ hR hd hF r1 (q2.mono (fun b _ h => .inl h)) k⟩
theorem St.rcut (h : St F w0 w q lq mq rb lr mr) (to : Int) (h1 : lr ≤ to) (h2 : to ≤ lr + mr.length) : Ret Try.prog 32 [.pointer (some ⟨rb, 0, none⟩), .int .u64 to].toArray w fun v w' => v = .int .i64 0 ∧ St F w0 w' q lq mq rb to (mr.drop (to - lr).toNat) ∧ Kept (fun b => ¬ F b) w w' := by
  obtain ⟨MQ, MR, hw, hQ, hR, hd, hF, q1, r1⟩ := h
  refine (rcut_ret r1 to h1 h2).mono ?_
  rintro v w' ⟨rfl, r2, k⟩
  exact ⟨rfl, St.ofR hw hQ hR hd hF r1.in q1 r2 k⟩
end
/-- what both answer to a cut, and what they have behind it -/
theorem St.cuts {F : Nat → Prop} {w0 w : World} {q rb : Nat} {l : Int} {ms : List Mt} (h : St F w0 w q l ms rb l ms) (to : Int) : ∃ (e : Int) (l' : Int) (ms' : List Mt), (l' + ms'.length = l + ms.length ∧ ms'.length ≤ ms.length) ∧
    (∀ w2, St F w0 w2 q l ms rb l ms → Ret Try.prog 18 [.pointer (some ⟨q, 0, none⟩), .int .u64 to].toArray w2 fun v w' => v = .int .i64 e ∧ St F w0 w' q l' ms' rb l ms ∧ Kept (fun b => ¬ F b) w2 w') ∧
    (∀ w2, St F w0 w2 q l' ms' rb l ms → Ret Try.prog 32 [.pointer (some ⟨rb, 0, none⟩), .int .u64 to].toArray w2 fun v w' => v = .int .i64 e ∧ St F w0 w' q l' ms' rb l' ms' ∧ Kept (fun b => ¬ F b) w2 w') := by
  by_cases c1 : to < l
  · refine ⟨15, l, ms, ⟨rfl, Nat.le_refl _⟩, fun w2 h2 => ?_, fun w2 h2 => ?_⟩
    · have hqq := id h2
      obtain ⟨MQ, MR, hw, hQ, hR, hd, hF, q1, r1⟩ := hqq
      exact (qcut_old q1 to c1).mono fun v w' ⟨a, b⟩ => ⟨a, h2.bel b, Kept.of_bel b⟩
    · have hqq := id h2
      obtain ⟨MQ, MR, hw, hQ, hR, hd, hF, q1, r1⟩ := hqq
      exact (rcut_old r1 to c1).mono fun v w' ⟨a, b⟩ => ⟨a, b ▸ h2, b ▸ Kept.refl _ _⟩
  · by_cases c2 : l + ms.length + 1 ≤ to
    · refine ⟨17, l, ms, ⟨rfl, Nat.le_refl _⟩, fun w2 h2 => ?_, fun w2 h2 => ?_⟩
      · have hqq := id h2
        obtain ⟨MQ, MR, hw, hQ, hR, hd, hF, q1, r1⟩ := hqq
        exact (qcut_range q1 to c2).mono fun v w' ⟨a, b⟩ => ⟨a, h2.bel b, Kept.of_bel b⟩
      · have hqq := id h2
        obtain ⟨MQ, MR, hw, hQ, hR, hd, hF, q1, r1⟩ := hqq
        exact (rcut_range r1 to c2).mono fun v w' ⟨a, b⟩ => ⟨a, b ▸ h2, b ▸ Kept.refl _ _⟩
    · refine ⟨0, to, ms.drop (to - l).toNat, ⟨by rw [List.length_drop]; omega, by rw [List.length_drop]; omega⟩, fun w2 h2 => h2.cut to (by omega) (by omega), fun w2 h2 => h2.rcut to (by omega) (by omega)⟩
end Go.Proofs.Ytcbdpcehacklhaa
