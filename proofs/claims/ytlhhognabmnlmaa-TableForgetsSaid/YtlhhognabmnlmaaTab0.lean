/-
  sort.Search; table: upTo: walks.
-/
import Derived.Test.YtlhhognabmnlmaaBase20
import Derived.Test.YtlhhognabmnlmaaBase18
import Derived.Test.YtlhhognabmnlmaaFacts
namespace Go.Proofs.Ytlhhognabmnlmaa
open Go Go.RowKit Go.Cx
set_option linter.unusedVariables false
set_option maxHeartbeats 8000000
/-- pairs of numbers, as cells -/
def pr (p : Int × Int) : List Value := [.int .u64 p.1, .int .u64 p.2]
theorem pr_len (p : Int × Int) : (pr p).length = 2 := rfl
theorem cells_hd {w : World} {b o : Nat} {u : Value} {us : List Value} (h : Cells w b o (u :: us)) : w.cell? ⟨b, o, none⟩ = some u := h 0 u rfl
theorem cells_2 {w : World} {b o : Nat} {u v : Value} {us : List Value} (h : Cells w b o (u :: v :: us)) : w.cell? ⟨b, o + 1, none⟩ = some v := h 1 v rfl
theorem elem_pr {w : World} {b o j : Nat} {l : List (Int × Int)} (h : j < l.length) (hc : Cells w b o (((l.flatMap pr).drop ((j : Int).toNat * 2)).take 2)) : Cells w b o [.int .u64 l[j].1, .int .u64 l[j].2] := by
  rw [Int.toNat_natCast, flat_at pr_len _ j h] at hc
  exact hc
/-- of how many is the first number v at most -/
def cnt (v : Int) (l : List (Int × Int)) : Nat := (l.filter (fun p => decide (p.1 ≤ v))).length
theorem filter_take {α : Type} (q : α → Bool) : ∀ (l : List α) (k : Nat), k ≤ l.length → (∀ i (h : i < l.length), i < k → q l[i] = true) → (∀ i (h : i < l.length), k ≤ i → q l[i] = false) → l.filter q = l.take k
  | [], k, _, _, _ => by simp
  | a :: l, 0, _, _, h2 => by
    rw [List.take_zero, List.filter_eq_nil_iff]
    intro x hx
    have hqq := List.getElem_of_mem hx
    obtain ⟨i, hi, rfl⟩ := hqq
    rw [h2 i hi (by omega)]; simp
  | a :: l, k + 1, hk, h1, h2 => by
    have h0 := h1 0 (by simp) (by omega)
    simp only [List.getElem_cons_zero] at h0
    rw [List.filter_cons, if_pos h0, List.take_succ_cons, filter_take q l k (by simpa using hk) (fun i h hi => h1 (i + 1) (by simpa using h) (by omega)) (fun i h hi => h2 (i + 1) (by simpa using h) (by omega))]
theorem Y.shr1U64 {P : Program} {f : Fr} {w : World} {d : Option Tmp} {ty : TypeId} {pos : String} {aft : Array Edge} {g : Option (Nat × Bool)} {x y : Operand} {a : Nat} {xt yt : TypeId} {k : IntKind} (hx : ev f x = .int .u64 (a : Int)) (hy : ev f y = .int k 1) : Y P ⟨d, .binOp .shr xt x y yt, ty, pos, aft, g⟩ f w (.int .u64 ((a / 2 : Nat) : Int)) := by
  refine Y.bin_of hx hy (by simp [eqGuard]) ?_
  have h1 : (a : Int).fdiv (2 ^ min 1 64) = ((a / 2 : Nat) : Int) := by
    rw [show (2 : Int) ^ min 1 64 = 2 by decide, Int.fdiv_eq_ediv_of_nonneg _ (by decide)]
    omega
  show (pure (Value.int .u64 ((a : Int).fdiv (2 ^ min 1 64))) : Sem Value) = _
  rw [h1]
theorem search_ret (gf : Nat) (cb : List Value) (n : Nat) (p : Nat → Bool) (w : World) (hgo : GoFn Try.prog gf) (hn : n ≤ 4611686018427387904) (hf : ∀ w', Below w.heap.size w w' → ∀ i, i < n → Ret Try.prog gf ([Value.int .i64 (i : Int)] ++ cb).toArray w' fun r w'' => r = .bool (p i) ∧ Below w'.heap.size w' w'') (hm : ∀ i j, i ≤ j → j < n → p i = true → p j = true) : Ret Try.prog 26 [.int .i64 (n : Int), .func (.func gf) #[] cb.toArray].toArray w fun v w' => (∃ k : Nat, v = .int .i64 (k : Int) ∧ k ≤ n ∧ (∀ i, i < k → p i = false) ∧ (∀ i, k ≤ i → i < n → p i = true)) ∧ Below w.heap.size w w' := by
  refine Ret.of (n := 26) (rs := #[.tmp 4]) Try.func26 rfl rfl rfl (by simp) ?_
  refine WC.seqR rfl ?_
  refine WL.y rfl (Y.assign) ?_
  refine WL.nil ?_
  refine WC.seqR rfl ?_
  refine WL.y rfl (Y.move) ?_
  refine WL.y rfl (Y.assign) ?_
  refine WL.y rfl (Y.assign) ?_
  refine WL.nil ?_
  refine WC.seq ?_
  refine WC.block ?_
  refine WC.loop (S := Nat × Nat) (fun q => q.2 - q.1) (fun q f ds w' => q.1 ≤ q.2 ∧ q.2 ≤ n ∧ (∀ i, i < q.1 → p i = false) ∧ (∀ i, q.2 ≤ i → i < n → p i = true) ∧ ds = [] ∧ Below w.heap.size w w' ∧ ∃ J, f = Go.Cx.ov J [(1, .func (.func gf) #[] cb.toArray), (5, .int .i64 (q.1 : Int)), (6, .int .i64 (q.2 : Int))]) (0, n) ?_ ?_
  · exact ⟨Nat.zero_le _, Nat.le_refl _, fun i h => absurd h (Nat.not_lt_zero _), fun i h1 h2 => absurd h2 (Nat.not_lt.2 h1), rfl, Below.refl _ _, _, ov_mk ⟨rfl, rfl, rfl, trivial⟩⟩
  · rintro ⟨lo, hi⟩ _ _ wL ⟨q1, q2, q3, q4, rfl, kL, J, rfl⟩
    simp only at q1 q2 q3 q4
    refine WC.seq ?_
    refine WC.seqR rfl ?_
    refine WL.y rfl (Y.move) ?_
    refine WL.y rfl (Y.move) ?_
    refine WL.y rfl (Y.lss rfl rfl) ?_
    refine WL.nil ?_
    refine WC.condD rfl (fun h0 => ?_) (fun h0 => ?_)
    · have hlt : lo < hi := by simp only at h0; omega
      have hmid : (lo + hi) / 2 < n := by omega
      have e1 : ((lo : Int) + (hi : Int)) = ((lo + hi : Nat) : Int) := by omega
      refine WC.skip (thenQ.normal ?_)
      refine WC.block ?_
      refine WC.seqR rfl ?_
      refine WL.y rfl (Y.move) ?_
      refine WL.y rfl (Y.move) ?_
      refine WL.y rfl (Y.add64 rfl rfl (by omega)) ?_
      refine WL.y rfl (Y.conviR Try.underlying3 Try.underlying80 rfl (by simp only [IntKind.min, IntKind.max, IntKind.signed, IntKind.bits]; omega)) ?_
      refine WL.y rfl (Y.shr1U64 (a := lo + hi) (by show Value.int .u64 ((lo : Int) + (hi : Int)) = _; rw [e1]) rfl) ?_
      refine WL.y rfl (Y.conviR Try.underlying80 Try.underlying3 rfl (by simp only [IntKind.min, IntKind.max, IntKind.signed, IntKind.bits]; omega)) ?_
      refine WL.y rfl (Y.assign) ?_
      refine WL.nil ?_
      refine WC.seqR rfl ?_
      refine WL.y rfl (Y.move) ?_
      refine WL.y rfl (Y.move) ?_
      refine WL.call rfl (C.value hgo rfl) (hf wL kL ((lo + hi) / 2) hmid) ?_
      rintro _ w20 ⟨rfl, hb20⟩
      refine WL.y rfl (Y.not rfl) ?_
      refine WL.nil ?_
      refine WC.cond rfl (fun hp => ?_) (fun hp => ?_)
      · have hpf : p ((lo + hi) / 2) = false := by simpa using hp
        refine WC.region rfl ?_
        refine WL.y rfl (Y.move) ?_
        refine WL.y rfl (Y.add64 rfl rfl (by omega)) ?_
        refine WL.y rfl (Y.assign) ?_
        refine WL.nil (inBlockQ.normal (thenQ.normal ?_))
        refine ⟨((lo + hi) / 2 + 1, hi), ?_, ?_, ?_, ?_, ?_, rfl, Below.step kL hb20, _, ov_mk ⟨rfl, ?_, rfl, trivial⟩⟩
        · show hi - ((lo + hi) / 2 + 1) < hi - lo
          omega
        · show (lo + hi) / 2 + 1 ≤ hi
          omega
        · exact q2
        · intro i hi'
          simp only at hi'
          cases hpi : p i with
          | false => rfl
          | true =>
            have := hm i ((lo + hi) / 2) (by omega) hmid hpi
            rw [hpf] at this
            exact absurd this (by simp)
        · exact q4
        · show Value.int .i64 _ = Value.int .i64 _
          congr 1
      · have hpt : p ((lo + hi) / 2) = true := by simpa using hp
        refine WC.region rfl ?_
        refine WL.y rfl (Y.move) ?_
        refine WL.y rfl (Y.assign) ?_
        refine WL.nil (inBlockQ.normal (thenQ.normal ?_))
        refine ⟨(lo, (lo + hi) / 2), ?_, ?_, ?_, q3, ?_, rfl, Below.step kL hb20, _, ov_mk ⟨rfl, rfl, rfl, trivial⟩⟩
        · show (lo + hi) / 2 - lo < hi - lo
          omega
        · show lo ≤ (lo + hi) / 2
          omega
        · show (lo + hi) / 2 ≤ n
          omega
        · intro i h1 h2
          exact hm _ i h1 h2 hpt
    · have hge : lo = hi := by simp only at h0; omega
      subst hge
      refine WC.exit (thenQ.exit (thenQ.exit (inBlockQ.hit (thenQ.normal ?_))))
      refine WC.seqR rfl ?_
      refine WL.y rfl (Y.move) ?_
      refine WL.y rfl (Y.assign) ?_
      refine WL.nil ?_
      refine WC.ret (endQ.one (.inr rfl) ?_)
      exact ⟨⟨lo, rfl, q2, q3, q4⟩, kL⟩
theorem upTo1_ret (w : World) (b1 b2 : Nat) (r : Value) (v : Int) (l : List (Int × Int)) (i : Nat) (h1 : Blk w b1 64 [r]) (h2 : Blk w b2 22 [.int .u64 v]) (hs : SlK w 2 r l.length (l.flatMap pr)) (hi : i < l.length) : Ret Try.prog 39 [.int .i64 (i : Int), .pointer (some ⟨b1, 0, none⟩), .pointer (some ⟨b2, 0, none⟩)].toArray w fun x w' => x = .bool (decide (v < l[i].1)) ∧ Below w.heap.size w w' := by
  refine Ret.of (n := 12) (rs := #[.tmp 4]) Try.func39 rfl rfl rfl (by simp) ?_
  refine WC.seqR rfl ?_
  refine WL.y rfl (Y.assign) ?_
  refine WL.nil ?_
  refine WC.seq ?_
  refine WC.regionB (fun _ => false) [(0, .held), (1, .any), (2, .any), (3, .any), (4, .held), (5, .held), (6, .any), (7, .any)] mixed (by kernel_rfl) (fun w1x hS1 hheap => ?_)
  refine RL.held rfl rfl hS1 (fun _ hb9 => Y.load1 Try.underlying64 rfl rfl (cell_bel (h1.cell 0) hb9)) ?_
  refine RL.any rfl rfl (fun _ => Y.move) ?_
  refine RL.yex rfl rfl (Y.idx Try.underlying64 ti67 (by decide) (hs) rfl (by omega) (by omega)) ?_
  rintro _ ⟨b7, o7, rfl, hc7⟩
  refine RL.any rfl rfl (fun _ => Y.fieldAddr fi67f0 ti22 (by decide) rfl (rfl) _) ?_
  refine RL.held rfl rfl hS1 (fun _ hb9 => Y.load1 Try.underlying22 rfl rfl (cell_bel (cells_hd (elem_pr hi hc7)) hb9)) ?_
  refine RL.held rfl rfl hS1 (fun _ hb9 => Y.load1 Try.underlying22 rfl rfl (cell_bel (h2.cell 0) hb9)) ?_
  refine RL.any rfl rfl (fun _ => Y.gtr rfl rfl) ?_
  refine RL.any rfl rfl (fun _ => Y.assign) ?_
  refine RL.nil (thenQ.normal ?_)
  refine WC.ret (endQ.one (.inr rfl) ?_)
  exact ⟨rfl, hS1⟩
theorem upTo_ret (w : World) (r : Value) (v : Int) (l : List (Int × Int)) (hs : SlK w 2 r l.length (l.flatMap pr)) (hl : l.length ≤ 4611686018427387904) (hr : l.Pairwise (fun a b => a.1 < b.1)) : Ret Try.prog 25 [r, .int .u64 v].toArray w fun x w' => x = .int .i64 (cnt v l : Int) ∧ Below w.heap.size w w' := by
  obtain ⟨ar, cr, rfl⟩ : ∃ a c, r = .slice a l.length c := by
    obtain ⟨_, _, a, c, h, _⟩ := hs
    exact ⟨a, c, h⟩
  refine Ret.of (n := 9) (rs := #[.tmp 4]) Try.func25 rfl rfl rfl (by simp) ?_
  refine WC.seqR rfl ?_
  refine WL.eex rfl (E.boxX) ?_
  rintro _ w2 ⟨rfl, hB2, hb2⟩
  refine WL.eex rfl (E.boxX) ?_
  rintro _ w3 ⟨rfl, hB3, hb3⟩
  refine WL.y rfl (Y.assign) ?_
  refine WL.nil ?_
  have hA := (show Blk w2 w.heap.size 64 [.slice ar l.length cr] from hB2).bel hb3
  have hC := (show Blk w3 w2.heap.size 22 [.int .u64 v] from hB3)
  have k3 := Below.step hb2 hb3
  clear hB2 hB3
  have hm : ∀ i j, i ≤ j → j < l.length → (if h : i < l.length then decide (v < l[i].1) else true) = true → (if h : j < l.length then decide (v < l[j].1) else true) = true := by
    intro i j hij hj h
    rw [dif_pos hj]
    rw [dif_pos (by omega)] at h
    simp only [decide_eq_true_eq] at h ⊢
    rcases Nat.lt_or_ge i j with e | e
    · have := List.pairwise_iff_getElem.1 hr i j (by omega) hj e
      omega
    · have : i = j := by omega
      subst this; exact h
  refine WC.seqR rfl ?_
  refine WL.y rfl (Y.load1 Try.underlying64 rfl rfl (hA.cell 0)) ?_
  refine WL.y rfl (Y.lenSl Try.underlying64 (hs.bel k3) _) ?_
  refine WL.y rfl (Y.makeFunc) ?_
  refine WL.call rfl (C.func go26) (search_ret 39 [.pointer (some ⟨w.heap.size, 0, none⟩), .pointer (some ⟨w2.heap.size, 0, none⟩)] l.length (fun i => if h : i < l.length then decide (v < l[i].1) else true) _ go39 hl (fun w' hw i hi => (upTo1_ret w' _ _ _ v l i (hA.bel hw) (hC.bel hw) ((hs.bel k3).bel hw) hi).mono fun x w'' ⟨a, b⟩ => ⟨by rw [a, dif_pos hi], b⟩) hm) ?_
  rintro _ w8 ⟨⟨k, rfl, h1, h2, h3⟩, hb8⟩
  refine WL.y rfl (Y.assign) ?_
  refine WL.nil ?_
  refine WC.ret (endQ.one (.inr rfl) ?_)
  have e : cnt v l = k := by
    unfold cnt
    rw [filter_take _ l k h1 (fun i h hi => ?_) (fun i h hi => ?_), List.length_take]
    · omega
    · have := h2 i hi
      rw [dif_pos h] at this
      simp at this
      simpa using this
    · have := h3 i hi h
      rw [dif_pos h] at this
      simpa using this
  rw [e]
  exact ⟨rfl, Below.step k3 hb8⟩
end Go.Proofs.Ytlhhognabmnlmaa
