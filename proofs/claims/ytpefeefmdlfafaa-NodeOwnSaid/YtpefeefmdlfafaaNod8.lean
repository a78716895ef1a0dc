/-
  node: Inner: walks.
-/
import Derived.Test.YtpefeefmdlfafaaNod7
namespace Go.Proofs.Ytpefeefmdlfafaa
open Go Go.RowKit Go.Cx
set_option linter.unusedVariables false
set_option maxHeartbeats 8000000
/-- nodes in memory, behind a slice of pointers -/
structure PsAt (w : World) (M : Nat → Prop) (l : List Sh) (bs : List Nat) (r : Value) : Prop where
  len : bs.length = l.length
  sl : SlK w 1 r l.length (bs.map ptr)
  nd : ∀ j (h : j < l.length) (h' : j < bs.length), NdR w M l[j] bs[j]
theorem PsAt.bel {w w' : World} {M : Nat → Prop} {l : List Sh} {bs : List Nat} {r : Value} (h : PsAt w M l bs r) (hb : Below w.heap.size w w') : PsAt w' M l bs r := ⟨h.len, h.sl.bel hb, fun j h1 h2 => (h.nd j h1 h2).bel hb⟩
theorem PsAt.elem {w : World} {M : Nat → Prop} {l : List Sh} {bs : List Nat} {r : Value} (h : PsAt w M l bs r) {j : Nat} {z : Int} (hj : j < bs.length) (hz : z.toNat = j) {b o : Nat} {w' : World} (hc : Cells w' b o (((bs.map ptr).drop (z.toNat * 1)).take 1)) : w'.cell? ⟨b, o, none⟩ = some (ptr bs[j]) := by
  refine hc 0 _ ?_
  rw [hz, Nat.mul_one, List.getElem?_take, if_pos (by omega), List.getElem?_drop, List.getElem?_map, Nat.add_zero, List.getElem?_eq_getElem hj]
  rfl
def up (l : List Sh) (i : Nat) (h : i + 1 < l.length) : Prop := slt (lastS (flatS (l[i]'(by omega)))) (firstS (flatS l[i + 1])) = true
def risesP (l : List Sh) : Prop := ∀ i (h : i + 1 < l.length), up l i h
theorem pless_ret {w : World} {M : Nat → Prop} {s t : Sh} {b b' : Nat} (h : NdR w M s b) (h' : NdR w M t b') : Ret Try.prog 38 [ptr b, ptr b'].toArray w fun r w' => r = .bool (slt (lastS (flatS s)) (firstS (flatS t))) ∧ Below w.heap.size w w' := by
  have hqq := h.blk
  obtain ⟨ev, kv, hB⟩ := hqq
  have hqq := h'.blk
  obtain ⟨ev', kv', hB'⟩ := hqq
  refine Ret.of (n := 14) (rs := #[.tmp 4]) Try.func38 rfl rfl rfl (by simp) ?_
  refine WC.seqR rfl ?_
  refine WL.y rfl (Y.assign) ?_
  refine WL.nil ?_
  refine WC.seq ?_
  refine WC.regionB (fun _ => false) [(0, .any), (1, .any), (2, .any), (3, .held), (4, .any), (5, .any), (6, .any), (7, .held), (8, .any), (9, .any)] mixed (by kernel_rfl) (fun w1 hS1 hheap => ?_)
  refine RL.any rfl rfl (fun _ => Y.move) ?_
  refine RL.any rfl rfl (fun _ => Y.nilCheck rfl) ?_
  refine RL.any rfl rfl (fun _ => Y.fieldAddr fi61f5 ti9 (by decide) rfl (rfl) _) ?_
  refine RL.held rfl rfl hS1 (fun _ hb9 => Y.load1 Try.underlying9 rfl rfl (cell_bel (hB.cell 5) hb9)) ?_
  refine RL.any rfl rfl (fun _ => Y.move) ?_
  refine RL.any rfl rfl (fun _ => Y.nilCheck rfl) ?_
  refine RL.any rfl rfl (fun _ => Y.fieldAddr fi61f4 ti9 (by decide) rfl (rfl) _) ?_
  refine RL.held rfl rfl hS1 (fun _ hb9 => Y.load1 Try.underlying9 rfl rfl (cell_bel (hB'.cell 4) hb9)) ?_
  refine RL.any rfl rfl (fun _ => Y.ltS rfl rfl) ?_
  refine RL.any rfl rfl (fun _ => Y.assign) ?_
  refine RL.nil (thenQ.normal ?_)
  refine WC.ret (endQ.one (.inr rfl) ?_)
  exact ⟨rfl, hS1⟩
theorem prise_ret {l : List Sh} {bs : List Nat} {r : Value} {w : World} {M : Nat → Prop} (h : PsAt w M l bs r) (hlen : l.length ≤ 1000000) : Ret Try.prog 37 [r, .func (.func 38) #[] #[]].toArray w fun v w' => (∃ e : Bool, v = .bool e ∧ (e = true ↔ risesP l)) ∧ Below w.heap.size w w' := by
  have h1 := h.len
  refine Ret.of (n := 24) (rs := #[.tmp 4]) Try.func37 rfl rfl rfl (by simp) ?_
  refine WC.seqR rfl ?_
  refine WL.y rfl (Y.assign) ?_
  refine WL.nil ?_
  refine WC.seq ?_
  refine WC.seqR rfl ?_
  refine WL.y rfl (Y.assign) ?_
  refine WL.nil ?_
  refine WC.block ?_
  refine WC.loop (fun j => l.length - j) (fun j f ds w' => (j = 0 ∨ j + 1 ≤ l.length) ∧ ds = [] ∧ Below w.heap.size w w' ∧ (∀ i (h : i + 1 < l.length), i < j → up l i h) ∧ ∃ J, f = Go.Cx.ov J [(0, r), (1, .func (.func 38) #[] #[]), (5, .int .i64 ((j : Int) + 1))]) 0 ?_ ?_
  · exact ⟨.inl rfl, rfl, Below.refl _ _, fun i h h2 => absurd h2 (by omega), _, ov_mk ⟨rfl, rfl, rfl, trivial⟩⟩
  · rintro j _ _ wL ⟨hj, rfl, kL, hgood, J, rfl⟩
    have hP := h.bel kL
    refine WC.seq ?_
    refine WC.seqR rfl ?_
    refine WL.y rfl (Y.move) ?_
    refine WL.y rfl (Y.move) ?_
    refine WL.y rfl (Y.lenSl Try.underlying49 (hP.sl) _) ?_
    refine WL.y rfl (Y.lss rfl rfl) ?_
    refine WL.nil ?_
    refine WC.condD rfl (fun h0 => ?_) (fun h0 => ?_)
    · have hj1 : j + 1 < l.length := by omega
      have hj0 : j < l.length := by omega
      have hc1 : j + 1 < bs.length := by omega
      have hc0 : j < bs.length := by omega
      have n0 := hP.nd j hj0 hc0
      have n1 := hP.nd (j + 1) hj1 hc1
      by_cases hlt : slt (lastS (flatS l[j])) (firstS (flatS l[j + 1])) = true
      · refine WC.skip (thenQ.normal ?_)
        refine WC.seq ?_
        refine WC.block ?_
        refine WC.seq ?_
        refine WC.regionB (fun i => Nat.beq i 10) [(0, .any), (1, .any), (2, .any), (3, .any), (4, .any), (5, .held), (6, .any), (7, .any), (8, .any), (9, .held), (10, .seq), (11, .any)] mixed (by kernel_rfl) (fun w4x hS4 hheap => ?_)
        refine RL.any rfl rfl (fun _ => Y.move) ?_
        refine RL.any rfl rfl (fun _ => Y.move) ?_
        refine RL.any rfl rfl (fun _ => Y.move) ?_
        refine RL.any rfl rfl (fun _ => Y.sub64 rfl rfl (by omega)) ?_
        refine RL.yex rfl rfl (Y.idx Try.underlying49 ti29 (by decide) (hP.sl) rfl (by omega) (by omega)) ?_
        rintro _ ⟨b16, o16, rfl, hc16⟩
        refine RL.held rfl rfl hS4 (fun _ hb9 => Y.load1 Try.underlying29 rfl rfl (cell_bel (hP.elem hc0 (by omega) hc16) hb9)) ?_
        refine RL.any rfl rfl (fun _ => Y.move) ?_
        refine RL.any rfl rfl (fun _ => Y.move) ?_
        refine RL.yex rfl rfl (Y.idx Try.underlying49 ti29 (by decide) (hP.sl) rfl (by omega) (by omega)) ?_
        rintro _ ⟨b20, o20, rfl, hc20⟩
        refine RL.held rfl rfl hS4 (fun _ hb9 => Y.load1 Try.underlying29 rfl rfl (cell_bel (hP.elem hc1 (by omega) hc20) hb9)) ?_
        refine RL.call rfl rfl (C.value go38 rfl) ((pless_ret (n0.bel hS4) (n1.bel hS4))) ?_
        rintro _ w22 ⟨rfl, hb22⟩
        refine ⟨.inl rfl, ?_⟩
        refine RL.any rfl rfl (fun _ => Y.not rfl) ?_
        refine RL.nil (thenQ.normal ?_)
        refine WC.condF (by rw [hlt]; rfl) ?_
        refine WC.skip (inBlockQ.normal (thenQ.normal ?_))
        refine WC.region rfl ?_
        refine WL.y rfl (Y.move) ?_
        refine WL.y rfl (Y.add64 rfl rfl (by omega)) ?_
        refine WL.y rfl (Y.assign) ?_
        refine WL.nil (thenQ.normal ?_)
        exact ⟨j + 1, by omega, .inr (by omega), rfl, Below.step (Below.step kL hS4) hb22, fun i h h2 => by
          by_cases e : i = j
          · subst e; exact hlt
          · exact hgood i h (by omega), _, ov_mk ⟨rfl, rfl, int_eq (by omega), trivial⟩⟩
      · have hlf : slt (lastS (flatS l[j])) (firstS (flatS l[j + 1])) = false := by simpa using hlt
        skip
        refine WC.skip (thenQ.normal ?_)
        refine WC.seq ?_
        refine WC.block ?_
        refine WC.seq ?_
        refine WC.regionB (fun i => Nat.beq i 10) [(0, .any), (1, .any), (2, .any), (3, .any), (4, .any), (5, .held), (6, .any), (7, .any), (8, .any), (9, .held), (10, .seq), (11, .any)] mixed (by kernel_rfl) (fun w4x hS4 hheap => ?_)
        refine RL.any rfl rfl (fun _ => Y.move) ?_
        refine RL.any rfl rfl (fun _ => Y.move) ?_
        refine RL.any rfl rfl (fun _ => Y.move) ?_
        refine RL.any rfl rfl (fun _ => Y.sub64 rfl rfl (by omega)) ?_
        refine RL.yex rfl rfl (Y.idx Try.underlying49 ti29 (by decide) (hP.sl) rfl (by omega) (by omega)) ?_
        rintro _ ⟨b16, o16, rfl, hc16⟩
        refine RL.held rfl rfl hS4 (fun _ hb9 => Y.load1 Try.underlying29 rfl rfl (cell_bel (hP.elem hc0 (by omega) hc16) hb9)) ?_
        refine RL.any rfl rfl (fun _ => Y.move) ?_
        refine RL.any rfl rfl (fun _ => Y.move) ?_
        refine RL.yex rfl rfl (Y.idx Try.underlying49 ti29 (by decide) (hP.sl) rfl (by omega) (by omega)) ?_
        rintro _ ⟨b20, o20, rfl, hc20⟩
        refine RL.held rfl rfl hS4 (fun _ hb9 => Y.load1 Try.underlying29 rfl rfl (cell_bel (hP.elem hc1 (by omega) hc20) hb9)) ?_
        refine RL.call rfl rfl (C.value go38 rfl) ((pless_ret (n0.bel hS4) (n1.bel hS4))) ?_
        rintro _ w22 ⟨rfl, hb22⟩
        refine ⟨.inl rfl, ?_⟩
        refine RL.any rfl rfl (fun _ => Y.not rfl) ?_
        refine RL.nil (thenQ.normal ?_)
        refine WC.condT (by rw [hlf]; rfl) ?_
        refine WC.seqR rfl ?_
        refine WL.y rfl (Y.assign) ?_
        refine WL.nil ?_
        refine WC.ret (inBlockQ.ret (thenQ.ret (thenQ.ret (inBlockQ.ret (thenQ.ret (endQ.one (.inr rfl) ?_))))))
        exact ⟨⟨false, rfl, noP (fun h => hlt (h j hj1))⟩, Below.step (Below.step kL hS4) hb22⟩
    · refine WC.exit (thenQ.exit (thenQ.exit (inBlockQ.hit (thenQ.normal ?_))))
      refine WC.seqR rfl ?_
      refine WL.y rfl (Y.assign) ?_
      refine WL.nil ?_
      refine WC.ret (endQ.one (.inr rfl) ?_)
      exact ⟨⟨true, rfl, fun _ i h => hgood i h (by omega), fun _ => rfl⟩, kL⟩
theorem priseT {l : List Sh} {bs : List Nat} {r : Value} {w : World} {M : Nat → Prop} (h : PsAt w M l bs r) (hlen : l.length ≤ 1000000) (hr : risesP l) : Ret Try.prog 37 [r, .func (.func 38) #[] #[]].toArray w fun v w' => v = .bool true ∧ Below w.heap.size w w' :=
  (prise_ret h hlen).mono fun r w' ⟨⟨e, a, b⟩, d⟩ => ⟨by rw [a, b.2 hr], d⟩
theorem priseF {l : List Sh} {bs : List Nat} {r : Value} {w : World} {M : Nat → Prop} (h : PsAt w M l bs r) (hlen : l.length ≤ 1000000) (hr : ¬ risesP l) : Ret Try.prog 37 [r, .func (.func 38) #[] #[]].toArray w fun v w' => v = .bool false ∧ Below w.heap.size w w' :=
  (prise_ret h hlen).mono fun r w' ⟨⟨e, a, b⟩, d⟩ => ⟨by rw [a]; cases e with | false => rfl | true => exact absurd (b.1 rfl) hr, d⟩
theorem inner_iff {l : List Sh} (h2 : 2 ≤ l.length) : innerOk l ↔ l.length ≤ 8 ∧ (∀ k ∈ l, flatS k ≠ [] ∧ hS k = hS l[0]) ∧ risesP l := by
  have hh : l.head? = some (l[0]'(by omega)) := by rw [List.head?_eq_getElem?, List.getElem?_eq_getElem (by omega)]
  constructor
  · rintro ⟨a, b, c⟩
    exact ⟨a.2, fun k hk => ⟨(b k hk).1, by have := (b k hk).2; rw [hh] at this; exact Option.some.inj this⟩, c⟩
  · rintro ⟨a, b, c⟩
    exact ⟨⟨h2, a⟩, fun k hk => ⟨(b k hk).1, by rw [hh]; exact congrArg some (b k hk).2⟩, c⟩
theorem soundL_app : ∀ a b : List Sh, soundL (a ++ b) = (soundL a && soundL b)
  | [], b => by rw [soundL]; rfl
  | k :: a, b => by rw [List.cons_append, soundL, soundL, soundL_app a b, Bool.and_assoc]
theorem soundL_take (l : List Sh) (j : Nat) (h : j < l.length) : soundL (l.take (j + 1)) = (soundL (l.take j) && soundS l[j] false) := by
  rw [List.take_succ_eq_append_getElem h, soundL_app, soundL, soundL, Bool.and_true]
theorem first_flat {l : List Sh} (h : 0 < l.length) (hn : flatS l[0] ≠ []) : firstS (flatL l) = firstS (flatS l[0]) := by
  cases l with
  | nil => simp at h
  | cons k l => rw [flatL]; exact firstS_app hn
theorem last_flat {l : List Sh} (h : 0 < l.length) (hn : flatS (l[l.length - 1]'(by omega)) ≠ []) : lastS (flatL l) = lastS (flatS (l[l.length - 1]'(by omega))) := by
  have e : flatL l = flatL (l.take (l.length - 1)) ++ flatS (l[l.length - 1]'(by omega)) := by
    have := flatL_take l (l.length - 1) (by omega)
    rw [show l.length - 1 + 1 = l.length by omega, List.take_length] at this
    exact this
  rw [e]
  exact lastS_app hn
theorem one_one {a : Value} (ha : One a = true) : ∀ u ∈ [a], One u = true := by
  intro u hu
  rw [List.mem_singleton] at hu
  rw [hu]; exact ha
theorem own_apart {w : World} {B bl k n : Nat} {t : TypeId} {v : Value} {xs : List Value} (h : v = .slice none 0 0 ∨ B < bl) (ho : OwnK w bl t k v n xs) : ∀ b, v.ownBlock = some b → B < b := by
  intro b hb
  rcases h with e | e
  · rw [e] at hb; cases hb
  · rcases ho.own with e2 | e2 <;> rw [e2] at hb <;> cases hb
    exact e
/-- what Inner makes -/
def InnR (w : World) (l : List Sh) (bs : List Nat) (v : Value) (w' : World) : Prop := Below w.heap.size w w' ∧ ((innerOk l ∧ ∃ b kv bl, v = .tuple #[ptr b, .int .i64 0] ∧ w.heap.size ≤ b ∧ w.heap.size ≤ bl ∧ Blk w' b 61 (ndc (.mk [] l) (.slice none 0 0) kv) ∧ OwnK w' bl 29 1 kv l.length (bs.map ptr)) ∨ (¬ innerOk l ∧ v = .tuple #[.pointer none, .int .i64 2]))
theorem inner_ret (l : List Sh) (bs : List Nat) (r : Value) (w : World) (M : Nat → Prop) (h : PsAt w M l bs r) (hfl : (flatL l).length ≤ 1000000) (hnd : nodesL l ≤ 1000000) (hlen : l.length ≤ 1000000) : Ret Try.prog 20 [r].toArray w (InnR w l bs) := by
  have hmx : maxLen = 9223372036854775807 := rfl
  have h1 := h.len
  refine Ret.of (n := 102) (rs := #[.tmp 2, .tmp 3]) Try.func20 rfl rfl rfl (by simp) ?_
  refine WC.seqR rfl ?_
  refine WL.y rfl (Y.assign) ?_
  refine WL.y rfl (Y.assign) ?_
  refine WL.nil ?_
  refine WC.seq ?_
  by_cases c2 : l.length < 2
  · refine WC.seqR rfl ?_
    refine WL.y rfl (Y.move) ?_
    refine WL.y rfl (Y.lenSl Try.underlying49 (h.sl) _) ?_
    refine WL.y rfl (Y.dT (Y.lss rfl rfl) (by omega)) ?_
    refine WL.y rfl (Y.move) ?_
    refine WL.off rfl ?_
    refine WL.off rfl ?_
    refine WL.off rfl ?_
    refine WL.y rfl (Y.pickT rfl) ?_
    refine WL.nil ?_
    refine WC.condT (rfl) ?_
    refine WC.seqR rfl ?_
    refine WL.y rfl (Y.assign) ?_
    refine WL.y rfl (Y.assign) ?_
    refine WL.nil ?_
    refine WC.ret (thenQ.ret (endQ.two (.inr rfl) ?_))
    exact ⟨Below.refl _ _, .inr ⟨fun h => by have := h.1.1; omega, rfl⟩⟩
  · by_cases c8 : 8 < l.length
    · refine WC.seqR rfl ?_
      refine WL.y rfl (Y.move) ?_
      refine WL.y rfl (Y.lenSl Try.underlying49 (h.sl) _) ?_
      refine WL.y rfl (Y.dF (Y.lss rfl rfl) (by omega)) ?_
      refine WL.y rfl (Y.move) ?_
      refine WL.y rfl (Y.move) ?_
      refine WL.y rfl (Y.lenSl Try.underlying49 (h.sl) _) ?_
      refine WL.y rfl (Y.dT (Y.gtr rfl rfl) (by omega)) ?_
      refine WL.y rfl (Y.pickF rfl) ?_
      refine WL.nil ?_
      refine WC.condT (rfl) ?_
      refine WC.seqR rfl ?_
      refine WL.y rfl (Y.assign) ?_
      refine WL.y rfl (Y.assign) ?_
      refine WL.nil ?_
      refine WC.ret (thenQ.ret (endQ.two (.inr rfl) ?_))
      exact ⟨Below.refl _ _, .inr ⟨fun h => by have := h.1.2; omega, rfl⟩⟩
    · have h00 : 0 < l.length := by omega
      have h0b : 0 < bs.length := by omega
      have n0 := h.nd 0 h00 h0b
      have q0 := hS_lt l[0]
      have q1 := nodesL_mem (List.getElem_mem h00)
      skip
      refine WC.seqR rfl ?_
      refine WL.y rfl (Y.move) ?_
      refine WL.y rfl (Y.lenSl Try.underlying49 (h.sl) _) ?_
      refine WL.y rfl (Y.dF (Y.lss rfl rfl) (by omega)) ?_
      refine WL.y rfl (Y.move) ?_
      refine WL.y rfl (Y.move) ?_
      refine WL.y rfl (Y.lenSl Try.underlying49 (h.sl) _) ?_
      refine WL.y rfl (Y.dF (Y.gtr rfl rfl) (by omega)) ?_
      refine WL.y rfl (Y.pickF rfl) ?_
      refine WL.nil ?_
      refine WC.condF (rfl) ?_
      refine WC.skip (thenQ.normal ?_)
      refine WC.seqR rfl ?_
      refine WL.y rfl (Y.move) ?_
      refine WL.yex rfl (Y.idx Try.underlying49 ti29 (by decide) (h.sl) rfl (by omega) (by omega)) ?_
      rintro _ ⟨b16, o16, rfl, hc16⟩
      refine WL.y rfl (Y.load1 Try.underlying29 rfl rfl (h.elem h0b (by omega) hc16)) ?_
      refine WL.call rfl (C.func go13) (nheight_ret n0) ?_
      rintro _ _ ⟨rfl, rfl⟩
      refine WL.y rfl (Y.add64 rfl rfl (by omega)) ?_
      refine WL.y rfl (Y.build (cells := #[.slice none 0 0, .slice none 0 0, .int .i64 ((hS l[0] : Int) + 1), .int .i64 0, strv [], strv [], .bool false]) (by kernel_rfl) _) ?_
      refine WL.eex rfl (E.boxX) ?_
      rintro _ w21 ⟨rfl, hB21, hb21⟩
      refine WL.y rfl (Y.assign) ?_
      refine WL.nil ?_
      refine WC.seq ?_
      refine WC.seqR rfl ?_
      refine WL.y rfl (Y.move) ?_
      refine WL.y rfl (Y.lenSl Try.underlying49 ((h.bel hb21).sl) _) ?_
      refine WL.y rfl (Y.move) ?_
      refine WL.nil ?_
      refine WC.block ?_
      have hx := (show Blk w21 w.heap.size 61 [.slice none 0 0, .slice none 0 0, .int .i64 ((hS l[0] : Int) + 1), .int .i64 0, strv [], strv [], .bool false] from hB21)
      clear hB21
      have l21 := hx.lt
      refine WC.loop (fun j => l.length - j) (fun j f ds w' => j ≤ l.length ∧ ds = [] ∧ Below w.heap.size w w' ∧ (∀ k ∈ l.take j, flatS k ≠ [] ∧ hS k = hS l[0]) ∧ (∃ kv bl, Blk w' w.heap.size 61 [.slice none 0 0, kv, .int .i64 ((hS l[0] : Int) + 1), .int .i64 ((flatL (l.take j)).length : Int), strv [], strv [], .bool (!soundL (l.take j))] ∧ (kv = .slice none 0 0 ∨ w.heap.size < bl) ∧ OwnK w' bl 29 1 kv j ((bs.take j).map ptr)) ∧ ∃ J, f = Go.Cx.ov J [(0, r), (4, .pointer (some ⟨w.heap.size, 0, none⟩)), (22, r), (23, .int .i64 (l.length : Int)), (24, .int .i64 (j : Int))]) 0 ?_ ?_
      · exact ⟨by omega, rfl, hb21, fun k hk => absurd hk (by simp), ⟨_, 0, by rw [List.take_zero, flatL, soundL]; exact hx, .inl rfl, OwnK.nil⟩, _, ov_mk ⟨rfl, rfl, rfl, rfl, rfl, trivial⟩⟩
      · clear hx hb21
        rintro j _ _ wL ⟨hj, rfl, kL, hgood, ⟨kv, bl, hx, hkv, hOw⟩, J, rfl⟩
        have hP := h.bel kL
        have sL := kL.size
        have lx := hx.lt
        refine WC.seqR rfl ?_
        refine WL.y rfl (Y.lss rfl rfl) ?_
        refine WL.nil ?_
        refine WC.seq ?_
        refine WC.condD rfl (fun h0 => ?_) (fun h0 => ?_)
        · have hjl : j < l.length := by omega
          have hjb : j < bs.length := by omega
          have hjm := List.getElem_mem hjl
          have nj := hP.nd j hjl hjb
          have hqq := (h.nd j hjl hjb).blk
          obtain ⟨evj, kvj, hBj⟩ := hqq
          have q2 := hS_lt l[j]
          have q3 := nodesL_mem hjm
          have q4 := flatL_mem hjm
          have hft := congrArg List.length (flatL_take l j hjl)
          rw [List.length_append] at hft
          have hfle := flatL_le l (j + 1)
          have hst := soundL_take l j hjl
          have bad : ¬ (flatS l[j] ≠ [] ∧ hS l[j] = hS l[0]) → ¬ innerOk l := fun hx hi => hx (((inner_iff (by omega)).1 hi).2.1 _ hjm)
          refine WC.skip (thenQ.normal ?_)
          refine WC.seq ?_
          refine WC.block ?_
          refine WC.seqR rfl ?_
          refine WL.yex rfl (Y.idx Try.underlying49 ti29 (by decide) (hP.sl) rfl (by omega) (by omega)) ?_
          rintro _ ⟨b26, o26, rfl, hc26⟩
          refine WL.y rfl (Y.load1 Try.underlying29 rfl rfl (hP.elem hjb (by omega) hc26)) ?_
          refine WL.y rfl (Y.assign) ?_
          refine WL.nil ?_
          refine WC.seq ?_
          by_cases d1 : flatS l[j] = []
          · have d1' : (flatS l[j]).length = 0 := by rw [d1]; rfl
            refine WC.seq ?_
            refine WC.regionB (fun _ => false) [(0, .any), (1, .seq), (2, .any), (3, .any), (4, .any), (5, .any), (6, .any), (7, .held), (8, .any), (9, .any), (10, .any), (11, .any), (12, .held), (13, .any), (14, .any)] mixed (by kernel_rfl) (fun w7x hS7 hheap => ?_)
            refine RL.any rfl rfl (fun _ => Y.move) ?_
            refine RL.call rfl rfl (C.func go15) (ncount_ret (nj.bel hS7)) ?_
            rintro _ _ ⟨rfl, rfl⟩
            refine ⟨.inr id, ?_⟩
            refine RL.any rfl rfl (fun _ => Y.dT (Y.eqi rfl rfl) (by omega)) ?_
            refine RL.any rfl rfl (fun _ => Y.move) ?_
            refine RL.off rfl rfl ?_
            refine RL.off rfl rfl ?_
            refine RL.off rfl rfl ?_
            refine RL.offH rfl rfl hS7 ?_
            refine RL.off rfl rfl ?_
            refine RL.off rfl rfl ?_
            refine RL.off rfl rfl ?_
            refine RL.off rfl rfl ?_
            refine RL.offH rfl rfl hS7 ?_
            refine RL.off rfl rfl ?_
            refine RL.any rfl rfl (fun _ => Y.pickT rfl) ?_
            refine RL.nil (thenQ.normal ?_)
            refine WC.condT (rfl) ?_
            refine WC.seqR rfl ?_
            refine WL.y rfl (Y.assign) ?_
            refine WL.y rfl (Y.assign) ?_
            refine WL.nil ?_
            refine WC.ret (thenQ.ret (inBlockQ.ret (thenQ.ret (thenQ.ret (inBlockQ.ret (thenQ.ret (endQ.two (.inr rfl) ?_)))))))
            exact ⟨Below.step kL hS7, .inr ⟨bad (fun h => h.1 d1), rfl⟩⟩
          · have d1' : (flatS l[j]).length ≠ 0 := fun h => d1 (List.eq_nil_of_length_eq_zero h)
            by_cases d2 : hS l[j] = hS l[0]
            · refine WC.seq ?_
              refine WC.regionB (fun _ => false) [(0, .any), (1, .seq), (2, .any), (3, .any), (4, .any), (5, .any), (6, .any), (7, .held), (8, .any), (9, .any), (10, .any), (11, .any), (12, .held), (13, .any), (14, .any)] mixed (by kernel_rfl) (fun w7x hS7 hheap => ?_)
              refine RL.any rfl rfl (fun _ => Y.move) ?_
              refine RL.call rfl rfl (C.func go15) (ncount_ret (nj.bel hS7)) ?_
              rintro _ _ ⟨rfl, rfl⟩
              refine ⟨.inr id, ?_⟩
              refine RL.any rfl rfl (fun _ => Y.dF (Y.eqi rfl rfl) (by omega)) ?_
              refine RL.any rfl rfl (fun _ => Y.move) ?_
              refine RL.any rfl rfl (fun _ => Y.move) ?_
              refine RL.any rfl rfl (fun _ => Y.nilCheck rfl) ?_
              refine RL.any rfl rfl (fun _ => Y.fieldAddr fi61f2 ti3 (by decide) rfl (rfl) _) ?_
              refine RL.held rfl rfl hS7 (fun _ hb9 => Y.load1 Try.underlying3 rfl rfl (cell_bel ((hBj.bel kL).cell 2) hb9)) ?_
              refine RL.any rfl rfl (fun _ => Y.add64 rfl rfl (by omega)) ?_
              refine RL.any rfl rfl (fun _ => Y.move) ?_
              refine RL.any rfl rfl (fun _ => Y.nilCheck rfl) ?_
              refine RL.any rfl rfl (fun _ => Y.fieldAddr fi61f2 ti3 (by decide) rfl (rfl) _) ?_
              refine RL.held rfl rfl hS7 (fun _ hb9 => Y.load1 Try.underlying3 rfl rfl (cell_bel (hx.cell 2) hb9)) ?_
              refine RL.any rfl rfl (fun _ => Y.dF (Y.nei rfl rfl) (fun h => h (by rw [d2]))) ?_
              refine RL.any rfl rfl (fun _ => Y.pickF rfl) ?_
              refine RL.nil (thenQ.normal ?_)
              refine WC.condF (rfl) ?_
              refine WC.skip (thenQ.normal ?_)
              refine WC.seqR rfl ?_
              refine WL.y rfl (Y.move) ?_
              refine WL.y rfl (Y.move) ?_
              refine WL.y rfl (Y.nilCheck rfl) ?_
              refine WL.y rfl (Y.fieldAddr fi61f1 ti49 (by decide) rfl (rfl) _) ?_
              refine WL.y rfl (Y.load1 Try.underlying49 rfl rfl ((hx.bel hS7).cell 1)) ?_
              refine WL.y rfl (Y.move) ?_
              refine WL.eex rfl (E.build1 (u := ptr bs[j]) Try.underlying49 ti29 rfl rfl rfl) ?_
              rintro v49 w49 ⟨hs49, hb49, -⟩
              refine WL.eex rfl (E.appendN Try.underlying49 ti29 rfl (by decide) ((hOw.bel hS7).bel hb49) hs49 (one_one rfl) (by omega) (by omega)) ?_
              rintro v50 w50 ⟨⟨bl', ho50, hbl'⟩, hg50⟩
              have hap : ∀ b, kv.ownBlock = some b → w.heap.size < b := own_apart hkv hOw
              have hx50 := ((hx.bel hS7).bel hb49).grownR hg50 (fun b e => by have := hap b e; omega)
              refine WL.y rfl (Y.nilCheck rfl) ?_
              refine WL.y rfl (Y.fieldAddr fi61f1 ti49 (by decide) rfl (rfl) _) ?_
              refine WL.eex rfl (E.storeX (u := v50) ti49 rfl rfl ho50.sl.one hx50 (by simp)) ?_
              rintro _ w9s ⟨hx9, hg9, -⟩
              have s7 := hS7.size
              have s49 := hb49.size
              have s50 := hg50.size
              have s9 := hg9.size
              have k50 := (Below.step (Below.step kL hS7) hb49).trans (below_of_grown hg50 (by omega) (fun b e => by have := hap b e; omega))
              have k9 := Below.stepG k50 hg9 (by omega)
              refine WL.nil ?_
              refine WC.seq ?_
              refine WC.regionB (fun i => Nat.beq i 11) [(0, .any), (1, .any), (2, .any), (3, .held), (4, .any), (5, .any), (6, .any), (7, .held), (8, .any), (9, .any), (10, .any), (11, .seq)] mixed (by kernel_rfl) (fun w10x hS10 hheap => ?_)
              refine RL.any rfl rfl (fun _ => Y.move) ?_
              refine RL.any rfl rfl (fun _ => Y.nilCheck rfl) ?_
              refine RL.any rfl rfl (fun _ => Y.fieldAddr fi61f3 ti3 (by decide) rfl (rfl) _) ?_
              refine RL.held rfl rfl hS10 (fun _ hb9 => Y.load1 Try.underlying3 rfl rfl (cell_bel (hx9.cell 3) hb9)) ?_
              refine RL.any rfl rfl (fun _ => Y.move) ?_
              refine RL.any rfl rfl (fun _ => Y.nilCheck rfl) ?_
              refine RL.any rfl rfl (fun _ => Y.fieldAddr fi61f3 ti3 (by decide) rfl (rfl) _) ?_
              refine RL.held rfl rfl hS10 (fun _ hb9 => Y.load1 Try.underlying3 rfl rfl (cell_bel ((hBj.bel k9).cell 3) hb9)) ?_
              refine RL.any rfl rfl (fun _ => Y.add64 rfl rfl (by omega)) ?_
              refine RL.any rfl rfl (fun _ => Y.nilCheck rfl) ?_
              refine RL.any rfl rfl (fun _ => Y.fieldAddr fi61f3 ti3 (by decide) rfl (rfl) _) ?_
              refine RL.eex rfl rfl (E.storeX (u := .int .i64 (((flatL (l.take j)).length : Int) + ((flatS l[j]).length : Int))) ti3 rfl (int_eq rfl) rfl (hx9.bel hS10) (by simp)) ?_ ?_
              · exact fun _ _ _ => .inl rfl
              rintro _ w10s ⟨hx10, hg10, -⟩
              refine RL.nil (thenQ.normal ?_)
              have k10 : Below w.heap.size w w10s := Below.stepG (Below.step k9 hS10) hg10 (by omega)
              have s10 := hS10.size
              have s10b := hg10.size
              have kM : Kept (fun b => b = w.heap.size) w50 w10s := ((Kept.of_grown (M := fun b => b = w.heap.size) hg9 rfl).trans (Kept.of_bel hS10)).trans (Kept.of_grown (M := fun b => b = w.heap.size) hg10 rfl)
              have hbl : w.heap.size < bl' := by
                rcases hbl' with ⟨e, h⟩ | e
                · rcases hkv with e2 | e2
                  · exact absurd e2 h
                  · omega
                · omega
              have ho10 := ho50.kept kM (by omega)
              have etk : (bs.take j).map ptr ++ [ptr bs[j]] = (bs.take (j + 1)).map ptr := by rw [List.take_succ_eq_append_getElem hjb, List.map_append]; rfl
              rw [etk] at ho10
              have hlen2 : ((flatL (l.take j)).length : Int) + ((flatS l[j]).length : Int) = ((flatL (l.take (j + 1))).length : Int) := by omega
              rw [hlen2] at hx10
              have hgood' : ∀ k ∈ l.take (j + 1), flatS k ≠ [] ∧ hS k = hS l[0] := by
                intro k hk
                rw [List.take_succ_eq_append_getElem hjl, List.mem_append, List.mem_singleton] at hk
                rcases hk with hk | rfl
                · exact hgood k hk
                · exact ⟨d1, d2⟩
              cases hth : soundL (l.take j) with
              | false =>
                rw [hth] at hx10
                rw [hth, Bool.false_and] at hst
                refine WC.region rfl ?_
                refine WL.y rfl (Y.move) ?_
                refine WL.y rfl (Y.move) ?_
                refine WL.y rfl (Y.nilCheck rfl) ?_
                refine WL.y rfl (Y.fieldAddr fi61f6 ti4 (by decide) rfl (rfl) _) ?_
                refine WL.y rfl (Y.load1 Try.underlying4 rfl rfl (hx10.cell 6)) ?_
                refine WL.y rfl (Y.move) ?_
                refine WL.off rfl ?_
                refine WL.off rfl ?_
                refine WL.off rfl ?_
                refine WL.y rfl (Y.pickT rfl) ?_
                refine WL.y rfl (Y.nilCheck rfl) ?_
                refine WL.y rfl (Y.fieldAddr fi61f6 ti4 (by decide) rfl (rfl) _) ?_
                refine WL.eex rfl (E.storeX (u := .bool true) ti4 rfl rfl rfl hx10 (by simp)) ?_
                rintro _ w11s ⟨hx11, hg11, -⟩
                refine WL.nil (inBlockQ.normal (thenQ.normal ?_))
                refine WC.region rfl ?_
                refine WL.y rfl (Y.add64 rfl rfl (by omega)) ?_
                refine WL.y rfl (Y.move) ?_
                refine WL.nil (thenQ.normal ?_)
                have s11 := hg11.size
                exact ⟨j + 1, by omega, by omega, rfl, Below.stepG k10 hg11 (by omega), hgood', ⟨_, bl', by rw [hst]; exact hx11, .inr hbl, ho10.kept (Kept.of_grown (M := fun b => b = w.heap.size) hg11 rfl) (by omega)⟩, _, ov_mk ⟨rfl, rfl, rfl, rfl, rfl, trivial⟩⟩
              | true =>
                rw [hth] at hx10
                rw [hth, Bool.true_and] at hst
                skip
                refine WC.region rfl ?_
                refine WL.y rfl (Y.move) ?_
                refine WL.y rfl (Y.move) ?_
                refine WL.y rfl (Y.nilCheck rfl) ?_
                refine WL.y rfl (Y.fieldAddr fi61f6 ti4 (by decide) rfl (rfl) _) ?_
                refine WL.y rfl (Y.load1 Try.underlying4 rfl rfl (hx10.cell 6)) ?_
                refine WL.y rfl (Y.move) ?_
                refine WL.y rfl (Y.move) ?_
                refine WL.call rfl (C.func go14) (nsound_ret ((h.nd j hjl hjb).bel k10) false) ?_
                rintro _ w71 ⟨rfl, hb71⟩
                refine WL.y rfl (Y.not rfl) ?_
                refine WL.y rfl (Y.pickF rfl) ?_
                refine WL.y rfl (Y.nilCheck rfl) ?_
                refine WL.y rfl (Y.fieldAddr fi61f6 ti4 (by decide) rfl (rfl) _) ?_
                refine WL.eex rfl (E.storeX (u := .bool (!soundS l[j] false)) ti4 rfl rfl rfl (hx10.bel hb71) (by simp)) ?_
                rintro _ w11s ⟨hx11, hg11, -⟩
                refine WL.nil (inBlockQ.normal (thenQ.normal ?_))
                refine WC.region rfl ?_
                refine WL.y rfl (Y.add64 rfl rfl (by omega)) ?_
                refine WL.y rfl (Y.move) ?_
                refine WL.nil (thenQ.normal ?_)
                have s71 := hb71.size
                have s11 := hg11.size
                exact ⟨j + 1, by omega, by omega, rfl, Below.stepG (Below.step k10 hb71) hg11 (by omega), hgood', ⟨_, bl', by rw [hst]; exact hx11, .inr hbl, (ho10.bel hb71).kept (Kept.of_grown (M := fun b => b = w.heap.size) hg11 rfl) (by omega)⟩, _, ov_mk ⟨rfl, rfl, rfl, rfl, rfl, trivial⟩⟩
            · skip
              skip
              refine WC.seq ?_
              refine WC.regionB (fun _ => false) [(0, .any), (1, .seq), (2, .any), (3, .any), (4, .any), (5, .any), (6, .any), (7, .held), (8, .any), (9, .any), (10, .any), (11, .any), (12, .held), (13, .any), (14, .any)] mixed (by kernel_rfl) (fun w7x hS7 hheap => ?_)
              refine RL.any rfl rfl (fun _ => Y.move) ?_
              refine RL.call rfl rfl (C.func go15) (ncount_ret (nj.bel hS7)) ?_
              rintro _ _ ⟨rfl, rfl⟩
              refine ⟨.inr id, ?_⟩
              refine RL.any rfl rfl (fun _ => Y.dF (Y.eqi rfl rfl) (by omega)) ?_
              refine RL.any rfl rfl (fun _ => Y.move) ?_
              refine RL.any rfl rfl (fun _ => Y.move) ?_
              refine RL.any rfl rfl (fun _ => Y.nilCheck rfl) ?_
              refine RL.any rfl rfl (fun _ => Y.fieldAddr fi61f2 ti3 (by decide) rfl (rfl) _) ?_
              refine RL.held rfl rfl hS7 (fun _ hb9 => Y.load1 Try.underlying3 rfl rfl (cell_bel ((hBj.bel kL).cell 2) hb9)) ?_
              refine RL.any rfl rfl (fun _ => Y.add64 rfl rfl (by omega)) ?_
              refine RL.any rfl rfl (fun _ => Y.move) ?_
              refine RL.any rfl rfl (fun _ => Y.nilCheck rfl) ?_
              refine RL.any rfl rfl (fun _ => Y.fieldAddr fi61f2 ti3 (by decide) rfl (rfl) _) ?_
              refine RL.held rfl rfl hS7 (fun _ hb9 => Y.load1 Try.underlying3 rfl rfl (cell_bel (hx.cell 2) hb9)) ?_
              refine RL.any rfl rfl (fun _ => Y.dT (Y.nei rfl rfl) (by omega)) ?_
              refine RL.any rfl rfl (fun _ => Y.pickF rfl) ?_
              refine RL.nil (thenQ.normal ?_)
              refine WC.condT (rfl) ?_
              refine WC.seqR rfl ?_
              refine WL.y rfl (Y.assign) ?_
              refine WL.y rfl (Y.assign) ?_
              refine WL.nil ?_
              refine WC.ret (thenQ.ret (inBlockQ.ret (thenQ.ret (thenQ.ret (inBlockQ.ret (thenQ.ret (endQ.two (.inr rfl) ?_)))))))
              exact ⟨Below.step kL hS7, .inr ⟨bad (fun h => d2 h.2), rfl⟩⟩
        · have hje : j = l.length := by omega
          rw [hje, List.take_length] at hgood hx
          rw [hje, List.take_of_length_le (by omega)] at hOw
          have q0b := (hgood l[0] (List.getElem_mem h00)).1
          have hl1 : l.length - 1 < l.length := by omega
          have hb1 : l.length - 1 < bs.length := by omega
          have q1b := (hgood _ (List.getElem_mem hl1)).1
          have hqq := (h.nd 0 h00 h0b).blk
          obtain ⟨ev0, kv0, hB0⟩ := hqq
          have hqq := (h.nd _ hl1 hb1).blk
          obtain ⟨ev1, kv1, hB1⟩ := hqq
          refine WC.exit (thenQ.exit (thenQ.exit (inBlockQ.hit (thenQ.normal ?_))))
          refine WC.seq ?_
          by_cases hr : risesP l
          · refine WC.seqR rfl ?_
            refine WL.y rfl (Y.move) ?_
            refine WL.call rfl (C.func go37) (priseT hP hlen hr) ?_
            rintro _ w78 ⟨rfl, hb78⟩
            refine WL.y rfl (Y.not rfl) ?_
            refine WL.nil ?_
            refine WC.condF (rfl) ?_
            refine WC.skip (thenQ.normal ?_)
            refine WC.seq ?_
            refine WC.regionB (fun i => Nat.beq i 19 || Nat.beq i 22) [(0, .any), (1, .any), (2, .any), (3, .any), (4, .held), (5, .any), (6, .any), (7, .held), (8, .any), (9, .any), (10, .any), (11, .any), (12, .any), (13, .held), (14, .any), (15, .any), (16, .held), (17, .any), (18, .any), (19, .seq), (20, .any), (21, .any), (22, .seq)] mixed (by kernel_rfl) (fun w15x hS15 hheap => ?_)
            refine RL.any rfl rfl (fun _ => Y.move) ?_
            refine RL.any rfl rfl (fun _ => Y.move) ?_
            refine RL.any rfl rfl (fun _ => Y.move) ?_
            refine RL.yex rfl rfl (Y.idx Try.underlying49 ti29 (by decide) ((hP.bel hb78).sl) rfl (by omega) (by omega)) ?_
            rintro _ ⟨b83, o83, rfl, hc83⟩
            refine RL.held rfl rfl hS15 (fun _ hb9 => Y.load1 Try.underlying29 rfl rfl (cell_bel ((hP.bel hb78).elem h0b (by omega) hc83) hb9)) ?_
            refine RL.any rfl rfl (fun _ => Y.nilCheck rfl) ?_
            refine RL.any rfl rfl (fun _ => Y.fieldAddr fi61f4 ti9 (by decide) rfl (rfl) _) ?_
            refine RL.held rfl rfl hS15 (fun _ hb9 => Y.load1 Try.underlying9 rfl rfl (cell_bel ((hB0.bel (Below.step kL hb78)).cell 4) hb9)) ?_
            refine RL.any rfl rfl (fun _ => Y.move) ?_
            refine RL.any rfl rfl (fun _ => Y.move) ?_
            refine RL.any rfl rfl (fun _ => Y.lenSl Try.underlying49 ((hP.bel hb78).sl) _) ?_
            refine RL.any rfl rfl (fun _ => Y.sub64 rfl rfl (by omega)) ?_
            refine RL.yex rfl rfl (Y.idx Try.underlying49 ti29 (by decide) ((hP.bel hb78).sl) rfl (by omega) (by omega)) ?_
            rintro _ ⟨b92, o92, rfl, hc92⟩
            refine RL.held rfl rfl hS15 (fun _ hb9 => Y.load1 Try.underlying29 rfl rfl (cell_bel ((hP.bel hb78).elem hb1 (by omega) hc92) hb9)) ?_
            refine RL.any rfl rfl (fun _ => Y.nilCheck rfl) ?_
            refine RL.any rfl rfl (fun _ => Y.fieldAddr fi61f5 ti9 (by decide) rfl (rfl) _) ?_
            refine RL.held rfl rfl hS15 (fun _ hb9 => Y.load1 Try.underlying9 rfl rfl (cell_bel ((hB1.bel (Below.step kL hb78)).cell 5) hb9)) ?_
            refine RL.any rfl rfl (fun _ => Y.nilCheck rfl) ?_
            refine RL.any rfl rfl (fun _ => Y.fieldAddr fi61f4 ti9 (by decide) rfl (rfl) _) ?_
            refine RL.eex rfl rfl (E.storeX (u := strv (firstS (flatS l[0]))) ti9 rfl rfl rfl ((hx.bel hb78).bel hS15) (by simp)) ?_ ?_
            · exact fun _ _ _ => .inl rfl
            rintro _ w16 ⟨hx16, hg16, -⟩
            refine RL.any rfl rfl (fun _ => Y.nilCheck rfl) ?_
            refine RL.any rfl rfl (fun _ => Y.fieldAddr fi61f5 ti9 (by decide) rfl (rfl) _) ?_
            refine RL.eex rfl rfl (E.storeX (u := strv (lastS (flatS l[l.length - 1]))) ti9 rfl rfl rfl hx16 (by simp)) ?_ ?_
            · exact fun _ _ _ => .inl rfl
            rintro _ w17 ⟨hx17, hg17, -⟩
            refine RL.nil (thenQ.normal ?_)
            refine WC.seqR rfl ?_
            refine WL.y rfl (Y.move) ?_
            refine WL.y rfl (Y.assign) ?_
            refine WL.y rfl (Y.assign) ?_
            refine WL.nil ?_
            refine WC.ret (endQ.two (.inr rfl) ?_)
            have s78 := hb78.size
            have s15 := hS15.size
            have s16 := hg16.size
            have s17 := hg17.size
            have kM : Kept (fun b => b = w.heap.size) wL w17 := ((((Kept.of_bel (Below.step hb78 hS15)).trans (Kept.of_grown (M := fun b => b = w.heap.size) hg16 rfl))).trans (Kept.of_grown (M := fun b => b = w.heap.size) hg17 rfl))
            have hbl : w.heap.size < bl := by
              rcases hkv with e | e
              · rcases hOw.2 with ⟨_, h0⟩ | ⟨o, cap, cur, hv, _⟩
                · omega
                · rw [e] at hv; cases hv
              · exact e
            have hio : innerOk l := (inner_iff (by omega)).2 ⟨by omega, hgood, hr⟩
            refine ⟨Below.stepG (Below.stepG (Below.step (Below.step kL hb78) hS15) hg16 (by omega)) hg17 (by omega), .inl ⟨hio, _, kv, bl, rfl, Nat.le_refl _, by omega, ?_, hOw.kept kM (by omega)⟩⟩
            have e1 : ndc (.mk [] l) (.slice none 0 0) kv = [.slice none 0 0, kv, .int .i64 ((hS l[0] : Int) + 1), .int .i64 ((flatL l).length : Int), strv (firstS (flatS l[0])), strv (lastS (flatS l[l.length - 1])), .bool (!soundL l)] := by
              unfold ndc
              rw [flatS_inner (by omega), first_flat h00 q0b, last_flat h00 q1b, hS_cons (s := .mk [] l) h00]
              congr 3
              exact int_eq (by show ((1 + hS l[0] : Nat) : Int) = _; omega)
            rw [e1]
            exact hx17
          · skip
            skip
            refine WC.seqR rfl ?_
            refine WL.y rfl (Y.move) ?_
            refine WL.call rfl (C.func go37) (priseF hP hlen hr) ?_
            rintro _ w78 ⟨rfl, hb78⟩
            refine WL.y rfl (Y.not rfl) ?_
            refine WL.nil ?_
            refine WC.condT (rfl) ?_
            refine WC.seqR rfl ?_
            refine WL.y rfl (Y.assign) ?_
            refine WL.y rfl (Y.assign) ?_
            refine WL.nil ?_
            refine WC.ret (thenQ.ret (endQ.two (.inr rfl) ?_))
            exact ⟨Below.step kL hb78, .inr ⟨fun h => hr ((inner_iff (by omega)).1 h).2.2, rfl⟩⟩
end Go.Proofs.Ytpefeefmdlfafaa
