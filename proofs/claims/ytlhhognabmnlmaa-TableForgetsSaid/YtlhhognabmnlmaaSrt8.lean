/-
  slices.Sort at uint64: pdqsort: walk.
-/
import Derived.Test.YtlhhognabmnlmaaSrt7
namespace Go.Proofs.Ytlhhognabmnlmaa
open Go Go.RowKit Go.Cx
set_option linter.unusedVariables false
set_option maxHeartbeats 8000000
set_option maxRecDepth 20000
open Go.Sort
theorem pel_rng {a b : Nat} : ∀ {n i j : Nat} {d : Array Int}, j + 2 - i ≤ n → a < i → i ≤ j + 2 → i ≤ b → j < b → a < (partEqLoop ltI a i j d).1 ∧ (partEqLoop ltI a i j d).1 ≤ b := by
  intro n
  induction n with
  | zero =>
    intro i j d hn hai hij hib hjb
    obtain ⟨i2, hi2⟩ : ∃ x, scanUp (fun x => !ltI d[a]! x) d j i = x := ⟨_, rfl⟩
    have hqq := su_rng (p := fun x => !ltI d[a]! x) (d := d) (j := j) (i := i) (Nat.le_refl _)
    obtain ⟨r1, r2⟩ := hqq
    rw [hi2] at r1 r2
    obtain ⟨j2, hj2⟩ : ∃ x, scanDown (fun x => ltI d[a]! x) d i2 j = x := ⟨_, rfl⟩
    have hqq := sd_rng (p := fun x => ltI d[a]! x) (d := d) (i := i2) (show 0 < i2 by omega) (j := j)
    obtain ⟨r3, r4⟩ := hqq
    rw [hj2] at r3 r4
    rw [pel_stop hi2 hj2 (by omega)]
    exact ⟨show a < i2 by omega, show i2 ≤ b by omega⟩
  | succ n ih =>
    intro i j d hn hai hij hib hjb
    obtain ⟨i2, hi2⟩ : ∃ x, scanUp (fun x => !ltI d[a]! x) d j i = x := ⟨_, rfl⟩
    have hqq := su_rng (p := fun x => !ltI d[a]! x) (d := d) (j := j) (i := i) (Nat.le_refl _)
    obtain ⟨r1, r2⟩ := hqq
    rw [hi2] at r1 r2
    obtain ⟨j2, hj2⟩ : ∃ x, scanDown (fun x => ltI d[a]! x) d i2 j = x := ⟨_, rfl⟩
    have hqq := sd_rng (p := fun x => ltI d[a]! x) (d := d) (i := i2) (show 0 < i2 by omega) (j := j)
    obtain ⟨r3, r4⟩ := hqq
    rw [hj2] at r3 r4
    by_cases c : j2 < i2
    · rw [pel_stop hi2 hj2 c]
      exact ⟨show a < i2 by omega, show i2 ≤ b by omega⟩
    · rw [pel_go hi2 hj2 (by omega) r1 r3 (by omega)]
      exact ih (by omega) (by omega) (by omega) (by omega) (by omega)
theorem pl_rng {a b : Nat} : ∀ {n i j : Nat} {d : Array Int}, j + 2 - i ≤ n → a < i → i ≤ j + 2 → a ≤ j → j < b → a ≤ (partLoop ltI a i j d).1 ∧ (partLoop ltI a i j d).1 < b := by
  intro n
  induction n with
  | zero =>
    intro i j d hn hai hij hib hjb
    obtain ⟨i2, hi2⟩ : ∃ x, scanUp (fun x => ltI x d[a]!) d j i = x := ⟨_, rfl⟩
    have hqq := su_rng (p := fun x => ltI x d[a]!) (d := d) (j := j) (i := i) (Nat.le_refl _)
    obtain ⟨r1, r2⟩ := hqq
    rw [hi2] at r1 r2
    obtain ⟨j2, hj2⟩ : ∃ x, scanDown (fun x => !ltI x d[a]!) d i2 j = x := ⟨_, rfl⟩
    have hqq := sd_rng (p := fun x => !ltI x d[a]!) (d := d) (i := i2) (show 0 < i2 by omega) (j := j)
    obtain ⟨r3, r4⟩ := hqq
    rw [hj2] at r3 r4
    rw [pl_stop hi2 hj2 (by omega)]
    exact ⟨show a ≤ j2 by omega, show j2 < b by omega⟩
  | succ n ih =>
    intro i j d hn hai hij hib hjb
    obtain ⟨i2, hi2⟩ : ∃ x, scanUp (fun x => ltI x d[a]!) d j i = x := ⟨_, rfl⟩
    have hqq := su_rng (p := fun x => ltI x d[a]!) (d := d) (j := j) (i := i) (Nat.le_refl _)
    obtain ⟨r1, r2⟩ := hqq
    rw [hi2] at r1 r2
    obtain ⟨j2, hj2⟩ : ∃ x, scanDown (fun x => !ltI x d[a]!) d i2 j = x := ⟨_, rfl⟩
    have hqq := sd_rng (p := fun x => !ltI x d[a]!) (d := d) (i := i2) (show 0 < i2 by omega) (j := j)
    obtain ⟨r3, r4⟩ := hqq
    rw [hj2] at r3 r4
    by_cases c : j2 < i2
    · rw [pl_stop hi2 hj2 c]
      exact ⟨show a ≤ j2 by omega, show j2 < b by omega⟩
    · rw [pl_go hi2 hj2 (by omega) r1 r3 (by omega)]
      exact ih (by omega) (by omega) (by omega) (by omega) (by omega)
theorem peq_rng {a b p : Nat} {d : Array Int} (h : a + 1 < b) : a < (partitionEqual ltI d a b p).1 ∧ (partitionEqual ltI d a b p).1 ≤ b :=
  pel_rng (Nat.le_refl _) (Nat.lt_succ_self _) (by omega) (by omega) (by omega)
theorem part_rng {a b p : Nat} {d : Array Int} (h : a + 1 < b) : a ≤ (partition ltI d a b p).1 ∧ (partition ltI d a b p).1 < b := by
  obtain ⟨dA, hA⟩ : ∃ x, swp d a p = x := ⟨_, rfl⟩
  obtain ⟨i2, hi2⟩ : ∃ x, scanUp (fun x => ltI x dA[a]!) dA (b - 1) (a + 1) = x := ⟨_, rfl⟩
  have hqq := su_rng (p := fun x => ltI x dA[a]!) (d := dA) (j := b - 1) (i := a + 1) (Nat.le_refl _)
  obtain ⟨r1, r2⟩ := hqq
  rw [hi2] at r1 r2
  obtain ⟨j2, hj2⟩ : ∃ x, scanDown (fun x => !ltI x dA[a]!) dA i2 (b - 1) = x := ⟨_, rfl⟩
  have hqq := sd_rng (p := fun x => !ltI x dA[a]!) (d := dA) (i := i2) (show 0 < i2 by omega) (j := b - 1)
  obtain ⟨r3, r4⟩ := hqq
  rw [hj2] at r3 r4
  by_cases c : j2 < i2
  · rw [part_hit hA hi2 hj2 c]
    exact ⟨show a ≤ j2 by omega, show j2 < b by omega⟩
  · rw [part_go hA hi2 hj2 (by omega)]
    exact pl_rng (Nat.le_refl _) (by omega) (by omega) (by omega) (by omega)
/-- what follows when the row is not yet sorted -/
def pdqT (d3 : Array Int) (a b limit pivot : Nat) (wasBalanced wasPartitioned : Bool) : Array Int :=
  if a > 0 && !ltI d3[a - 1]! d3[pivot]! then
    match partitionEqual ltI d3 a b pivot with
    | (mid, d4) => if _h : a < mid ∧ mid ≤ b then pdq ltI d4 mid b limit wasBalanced wasPartitioned else d4
  else
    match partition ltI d3 a b pivot with
    | (mid, alreadyPartitioned, d4) =>
      if _h : a ≤ mid ∧ mid < b then
        if mid - a < b - mid then
          pdq ltI (pdq ltI d4 a mid limit true true) (mid + 1) b limit (decide (mid - a ≥ (b - a) / 8)) alreadyPartitioned
        else
          pdq ltI (pdq ltI d4 (mid + 1) b limit true true) a mid limit (decide (b - mid ≥ (b - a) / 8)) alreadyPartitioned
      else d4
theorem pdq_eq {a b limit l1 p0 p : Nat} {d d1 d2 d3 : Array Int} {wb wp al : Bool} {h0 hint : Hint} (g1 : ¬ b - a ≤ 12) (g2 : ¬ limit = 0) (e1 : (if !wb then breakPatterns d a b else d) = d1) (e2 : (if !wb then limit - 1 else limit) = l1) (e3 : choosePivot ltI d1 a b = (p0, h0)) (e4 : (if h0 = .decreasing then reverseRange d1 a b else d1) = d2) (e5 : (if h0 = .decreasing then (b - 1) - (p0 - a) else p0) = p) (e6 : (if h0 = .decreasing then Hint.increasing else h0) = hint) (e7 : (if wb && wp && hint = .increasing then partialInsertionSort ltI d2 a b else (d2, false)) = (d3, al)) : pdq ltI d a b limit wb wp = if al = true then d3 else pdqT d3 a b l1 p wb wp := by
  rw [pdq, if_neg g1, if_neg g2]
  simp only [e1, e2, e3, e4, e5, e6, e7]
  rfl
theorem pdqT_eq {d3 d4 : Array Int} {a b l p mid : Nat} {wb wp : Bool} (h : (decide (a > 0) && !ltI d3[a - 1]! d3[p]!) = true) (e : partitionEqual ltI d3 a b p = (mid, d4)) (h1 : a < mid) (h2 : mid ≤ b) : pdqT d3 a b l p wb wp = pdq ltI d4 mid b l wb wp := by
  unfold pdqT
  rw [if_pos h, e]
  simp only [dif_pos (And.intro h1 h2)]
theorem pdqT_ne {d3 d4 : Array Int} {a b l p mid : Nat} {wb wp ap : Bool} (h : ¬ (decide (a > 0) && !ltI d3[a - 1]! d3[p]!) = true) (e : partition ltI d3 a b p = (mid, ap, d4)) (h1 : a ≤ mid) (h2 : mid < b) : pdqT d3 a b l p wb wp = if mid - a < b - mid then pdq ltI (pdq ltI d4 a mid l true true) (mid + 1) b l (decide (mid - a ≥ (b - a) / 8)) ap else pdq ltI (pdq ltI d4 (mid + 1) b l true true) a mid l (decide (b - mid ≥ (b - a) / 8)) ap := by
  unfold pdqT
  rw [if_neg h, e]
  simp only [dif_pos (And.intro h1 h2)]
theorem peq_ret' {w : World} {bl o N cap mid : Nat} {d d4 : Array Int} (a b p : Nat) (e : partitionEqual ltI d a b p = (mid, d4)) (h : SR w bl o N cap d) (hb : b ≤ N) (hN : N ≤ 60000) (hap : a ≤ p) (hpb : p < b) (hab : a + 1 < b) : Ret Try.prog 53 [.slice (some ⟨bl, o, none⟩) N cap, .int .i64 (a : Int), .int .i64 (b : Int), .int .i64 (p : Int)].toArray w fun v w' => v = .int .i64 (mid : Int) ∧ SR w' bl o N cap d4 ∧ Kept (fun x => x = bl) w w' := by
  have h1 := peq_ret a b p h hb hN hap hpb hab
  rw [e] at h1
  exact h1
theorem part_ret' {w : World} {bl o N cap mid : Nat} {d d4 : Array Int} {ap : Bool} (a b p : Nat) (e : partition ltI d a b p = (mid, ap, d4)) (h : SR w bl o N cap d) (hb : b ≤ N) (hN : N ≤ 60000) (hap : a ≤ p) (hpb : p < b) (hab : a + 1 < b) : Ret Try.prog 54 [.slice (some ⟨bl, o, none⟩) N cap, .int .i64 (a : Int), .int .i64 (b : Int), .int .i64 (p : Int)].toArray w fun v w' => v = .tuple #[.int .i64 (mid : Int), .bool ap] ∧ SR w' bl o N cap d4 ∧ Kept (fun x => x = bl) w w' := by
  have h1 := part_ret a b p h hb hN hap hpb hab
  rw [e] at h1
  exact h1
theorem cp_ret' {w : World} {bl o N cap p0 : Nat} {d : Array Int} {h0 : Hint} (a b : Nat) (e : choosePivot ltI d a b = (p0, h0)) (h : SR w bl o N cap d) (hb : b ≤ N) (hN : N ≤ 100000) (hab : 12 < b - a) : Ret Try.prog 49 [.slice (some ⟨bl, o, none⟩) N cap, .int .i64 (a : Int), .int .i64 (b : Int)].toArray w fun v w' => v = .tuple #[.int .i64 (p0 : Int), .int .i64 (hintI h0)] ∧ Below w.heap.size w w' := by
  have h1 := cp_ret a b h hb hN hab
  rw [e] at h1
  exact h1
theorem pis_ret' {w : World} {bl o N cap : Nat} {d d3 : Array Int} {al : Bool} (a b : Nat) (e : partialInsertionSort ltI d a b = (d3, al)) (h : SR w bl o N cap d) (hb : b ≤ N) (hN : N ≤ 60000) (hab : a + 1 ≤ b) : Ret Try.prog 51 [.slice (some ⟨bl, o, none⟩) N cap, .int .i64 (a : Int), .int .i64 (b : Int)].toArray w fun v w' => v = .bool al ∧ SR w' bl o N cap d3 ∧ Kept (fun x => x = bl) w w' := by
  have h1 := pis_ret a b h hb hN hab
  rw [e] at h1
  exact h1
theorem hint_dec {h : Hint} (e : hintI h = 2) : h = .decreasing := by cases h <;> simp [hintI] at e ⊢
theorem hint_inc {h : Hint} : (h = .increasing) = (hintI h = 1) := by cases h <;> simp [hintI]
theorem pdq_ret {bl o N cap : Nat} (hN : N ≤ 60000) : ∀ (n : Nat) {w : World} {d : Array Int} (a b limit : Nat) {za zb zl : Int}, za = (a : Int) → zb = (b : Int) → zl = (limit : Int) → b - a ≤ n → SR w bl o N cap d → b ≤ N → a ≤ b → limit ≤ 100 → Ret Try.prog 44 [.slice (some ⟨bl, o, none⟩) N cap, .int .i64 za, .int .i64 zb, .int .i64 zl].toArray w fun _ w' => SR w' bl o N cap (pdq ltI d a b limit true true) ∧ Kept (fun x => x = bl) w w' := by
  intro n
  induction n using Nat.strongRecOn with
  | ind n ih =>
  intro w d a0 b0 lim0 za zb zl ea eb el hn h hb hab hl
  subst ea eb el
  refine Ret.of (n := 134) (rs := #[]) Try.func44 rfl rfl rfl (by simp) ?_
  refine WC.seqR rfl ?_
  refine WL.y rfl (Y.assign) ?_
  refine WL.nil ?_
  refine WC.seqR rfl ?_
  refine WL.y rfl (Y.assign) ?_
  refine WL.nil ?_
  refine WC.block ?_
  refine WC.loop (S := Nat × Nat × Nat × Bool × Bool × Array Int) (fun q => q.2.1 - q.1) (fun q f ds w' => ∃ a b l wb wp dL, q = (a, b, l, wb, wp, dL) ∧ a ≤ b ∧ b ≤ N ∧ b - a ≤ n ∧ l ≤ 100 ∧ ds = [] ∧ SR w' bl o N cap dL ∧ pdq ltI dL a b l wb wp = pdq ltI d a0 b0 lim0 true true ∧ Kept (fun x => x = bl) w w' ∧ ∃ J, f = Go.Cx.ov J [(0, .slice (some ⟨bl, o, none⟩) N cap), (1, .int .i64 (a : Int)), (2, .int .i64 (b : Int)), (3, .int .i64 (l : Int)), (8, .bool wb), (9, .bool wp)]) (a0, b0, lim0, true, true, d) ?_ ?_
  · exact ⟨a0, b0, lim0, true, true, d, rfl, hab, hb, hn, hl, rfl, h, rfl, Kept.refl _ _, _, ov_mk ⟨rfl, rfl, rfl, rfl, rfl, rfl, trivial⟩⟩
  · rintro _ _ _ wL ⟨a, b, l, wb, wp, dL, rfl, hab, hbN, hn2, hl, rfl, hL, hR, kL, J, rfl⟩
    clear h hn hb
    refine WC.block ?_
    refine WC.seqR rfl ?_
    refine WL.y rfl (Y.move) ?_
    refine WL.y rfl (Y.move) ?_
    refine WL.y rfl (Y.sub64 rfl rfl (by omega)) ?_
    refine WL.y rfl (Y.assign) ?_
    refine WL.nil ?_
    refine WC.seq ?_
    refine WC.seqR rfl ?_
    refine WL.y rfl (Y.move) ?_
    refine WL.y rfl (Y.leq rfl rfl) ?_
    refine WL.nil ?_
    refine WC.condD rfl (fun h0 => ?_) (fun h0 => ?_)
    · have e0 : b - a ≤ 12 := by omega
      rw [pdq, if_pos e0] at hR
      refine WC.seqR rfl ?_
      refine WL.y rfl (Y.move) ?_
      refine WL.y rfl (Y.move) ?_
      refine WL.y rfl (Y.move) ?_
      refine WL.call rfl (C.func go46) (ins_ret a b hL hbN (by omega) hab) ?_
      rintro _ w27 ⟨h27, k27⟩
      refine WL.nil ?_
      refine WC.ret (thenQ.ret (inBlockQ.ret (thenQ.ret (inBlockQ.ret (endQ.zero (.inr rfl) ?_)))))
      exact ⟨hR ▸ h27, kL.trans k27⟩
    · have g1 : ¬ b - a ≤ 12 := by omega
      refine WC.skip (thenQ.normal ?_)
      refine WC.seq ?_
      refine WC.seqR rfl ?_
      refine WL.y rfl (Y.move) ?_
      refine WL.y rfl (Y.eqi rfl rfl) ?_
      refine WL.nil ?_
      refine WC.condD rfl (fun h1 => ?_) (fun h1 => ?_)
      · obtain rfl : l = 0 := by omega
        rw [pdq, if_neg g1, if_pos rfl] at hR
        refine WC.seqR rfl ?_
        refine WL.y rfl (Y.move) ?_
        refine WL.y rfl (Y.move) ?_
        refine WL.y rfl (Y.move) ?_
        refine WL.call rfl (C.func go47) (heap_ret a b hL hbN (by omega) (by omega)) ?_
        rintro _ w33 ⟨h33, k33⟩
        refine WL.nil ?_
        refine WC.ret (thenQ.ret (inBlockQ.ret (thenQ.ret (inBlockQ.ret (endQ.zero (.inr rfl) ?_)))))
        exact ⟨hR ▸ h33, kL.trans k33⟩
      · have g2 : ¬ l = 0 := by omega
        obtain ⟨d1, e1⟩ : ∃ x, (if !wb then breakPatterns dL a b else dL) = x := ⟨_, rfl⟩
        obtain ⟨l1, e2⟩ : ∃ x, (if !wb then l - 1 else l) = x := ⟨_, rfl⟩
        obtain ⟨p0, h0, e3⟩ : ∃ x y, choosePivot ltI d1 a b = (x, y) := ⟨_, _, rfl⟩
        obtain ⟨d2, e4⟩ : ∃ x, (if h0 = .decreasing then reverseRange d1 a b else d1) = x := ⟨_, rfl⟩
        obtain ⟨p, e5⟩ : ∃ x, (if h0 = .decreasing then (b - 1) - (p0 - a) else p0) = x := ⟨_, rfl⟩
        obtain ⟨hint, e6⟩ : ∃ x, (if h0 = .decreasing then Hint.increasing else h0) = x := ⟨_, rfl⟩
        obtain ⟨d3, al, e7⟩ : ∃ x y, (if wb && wp && hint = .increasing then partialInsertionSort ltI d2 a b else (d2, false)) = (x, y) := ⟨_, _, rfl⟩
        rw [pdq_eq g1 g2 e1 e2 e3 e4 e5 e6 e7] at hR
        have hp0 := choosePivot_holds ltI d1 a b (by omega)
        rw [e3] at hp0
        have hp0a : a ≤ p0 := hp0.1
        have hp0b : p0 < b := hp0.2
        clear hp0
        have hpr : a ≤ p ∧ p < b := by rw [← e5]; split <;> omega
        obtain ⟨hap, hpb⟩ := hpr
        refine WC.skip (thenQ.normal ?_)
        refine WC.seq ?_
        refine WC.seqR rfl ?_
        refine WL.y rfl (Y.move) ?_
        refine WL.y rfl (Y.not rfl) ?_
        refine WL.nil ?_
        refine WC.cut (fun f ds w' => ds = [] ∧ SR w' bl o N cap d1 ∧ l1 ≤ 100 ∧ Kept (fun x => x = bl) w w' ∧ ∃ J, f = Go.Cx.ov J [(0, .slice (some ⟨bl, o, none⟩) N cap), (1, .int .i64 (a : Int)), (2, .int .i64 (b : Int)), (3, .int .i64 (l1 : Int)), (8, .bool wb), (9, .bool wp), (10, .int .i64 ((b : Int) - (a : Int)))]) ?_ ?_
        · skip
          cases wb with
          | true =>
            refine WC.condF (rfl) ?_
            refine WC.skip (thenQ.normal ?_)
            have e1' : dL = d1 := e1
            have e2' : l = l1 := e2
            exact ⟨rfl, e1' ▸ hL, e2' ▸ hl, kL, _, ov_mk ⟨rfl, rfl, rfl, e2' ▸ rfl, rfl, rfl, rfl, trivial⟩⟩
          | false =>
            skip
            refine WC.condT (rfl) ?_
            refine WC.seqR rfl ?_
            refine WL.y rfl (Y.move) ?_
            refine WL.y rfl (Y.move) ?_
            refine WL.y rfl (Y.move) ?_
            refine WL.call rfl (C.func go48) (bp_ret a b hL hbN hN (by omega)) ?_
            rintro _ w39 ⟨h39, k39⟩
            refine WL.nil ?_
            refine WC.region rfl ?_
            refine WL.y rfl (Y.move) ?_
            refine WL.y rfl (Y.sub64 rfl rfl (by omega)) ?_
            refine WL.y rfl (Y.assign) ?_
            refine WL.nil (thenQ.normal ?_)
            have e1' : breakPatterns dL a b = d1 := e1
            have e2' : l - 1 = l1 := e2
            exact ⟨rfl, e1' ▸ h39, (by omega), kL.trans k39, _, ov_mk ⟨rfl, rfl, rfl, (congrArg (Value.int .i64) (show (l : Int) - 1 = (l1 : Int) by omega)), rfl, rfl, rfl, trivial⟩⟩
        · rintro _ _ w1 ⟨rfl, h1, hl1, k1, J1, rfl⟩
          clear e1 e2
          refine WC.seqR rfl ?_
          refine WL.y rfl (Y.move) ?_
          refine WL.y rfl (Y.move) ?_
          refine WL.y rfl (Y.move) ?_
          refine WL.call rfl (C.func go49) (cp_ret' a b e3 h1 hbN (by omega) (by omega)) ?_
          rintro _ w46 ⟨rfl, k46⟩
          refine WL.y rfl (Y.move) ?_
          refine WL.y rfl (Y.extract rfl rfl) ?_
          refine WL.y rfl (Y.extract rfl rfl) ?_
          refine WL.y rfl (Y.assign) ?_
          refine WL.y rfl (Y.assign) ?_
          refine WL.nil ?_
          refine WC.seq ?_
          refine WC.seqR rfl ?_
          refine WL.y rfl (Y.move) ?_
          refine WL.y rfl (Y.eqi rfl rfl) ?_
          refine WL.nil ?_
          have h46 := h1.bel k46
          refine WC.cut (fun f ds w' => ds = [] ∧ SR w' bl o N cap d2 ∧ Kept (fun x => x = bl) w w' ∧ ∃ J, f = Go.Cx.ov J [(0, .slice (some ⟨bl, o, none⟩) N cap), (1, .int .i64 (a : Int)), (2, .int .i64 (b : Int)), (3, .int .i64 (l1 : Int)), (8, .bool wb), (9, .bool wp), (10, .int .i64 ((b : Int) - (a : Int))), (11, .int .i64 (p : Int)), (12, .int .i64 (hintI hint))]) ?_ ?_
          · skip
            refine WC.condD rfl (fun h2 => ?_) (fun h2 => ?_)
            · have hd := hint_dec h2
              rw [if_pos hd] at e4 e5 e6
              refine WC.seqR rfl ?_
              refine WL.y rfl (Y.move) ?_
              refine WL.y rfl (Y.move) ?_
              refine WL.y rfl (Y.move) ?_
              refine WL.call rfl (C.func go50) (rev_ret a b h46 hbN (by omega) (by omega)) ?_
              rintro _ w54 ⟨h54, k54⟩
              refine WL.nil ?_
              refine WC.seqR rfl ?_
              refine WL.y rfl (Y.move) ?_
              refine WL.y rfl (Y.sub64 rfl rfl (by omega)) ?_
              refine WL.y rfl (Y.move) ?_
              refine WL.y rfl (Y.move) ?_
              refine WL.y rfl (Y.sub64 rfl rfl (by omega)) ?_
              refine WL.y rfl (Y.sub64 rfl rfl (by omega)) ?_
              refine WL.y rfl (Y.assign) ?_
              refine WL.nil ?_
              refine WC.region rfl ?_
              refine WL.y rfl (Y.assign) ?_
              refine WL.nil (thenQ.normal ?_)
              exact ⟨rfl, e4 ▸ h54, (k1.bel k46).trans k54, _, ov_mk ⟨rfl, rfl, rfl, rfl, rfl, rfl, rfl, (congrArg (Value.int .i64) (show (b : Int) - 1 - ((p0 : Int) - (a : Int)) = (p : Int) by omega)), (e6 ▸ rfl), trivial⟩⟩
            · have hd : ¬ h0 = .decreasing := fun e => h2 (by rw [e]; rfl)
              rw [if_neg hd] at e4 e5 e6
              subst e4 e5 e6
              refine WC.skip (thenQ.normal ?_)
              exact ⟨rfl, h46, k1.bel k46, _, ov_mk ⟨rfl, rfl, rfl, rfl, rfl, rfl, rfl, rfl, rfl, trivial⟩⟩
          · rintro _ _ w2 ⟨rfl, h2, k2, J2, rfl⟩
            clear e3 e4 e5 e6
            refine WC.seq ?_
            refine WC.seq ?_
            refine WC.cut (fun f ds w' => ds = [] ∧ w2 = w' ∧ ∃ J, f = Go.Cx.ov J [(0, .slice (some ⟨bl, o, none⟩) N cap), (1, .int .i64 (a : Int)), (2, .int .i64 (b : Int)), (3, .int .i64 (l1 : Int)), (8, .bool wb), (9, .bool wp), (10, .int .i64 ((b : Int) - (a : Int))), (11, .int .i64 (p : Int)), (68, .bool (wb && wp && decide (hint = .increasing)))]) ?_ ?_
            · skip
              cases wb with
              | false =>
                refine WC.region rfl ?_
                refine WL.y rfl (Y.move) ?_
                refine WL.y rfl (Y.move) ?_
                refine WL.off rfl ?_
                refine WL.y rfl (Y.pickF rfl) ?_
                refine WL.y rfl (Y.move) ?_
                refine WL.off rfl ?_
                refine WL.off rfl ?_
                refine WL.y rfl (Y.pickF rfl) ?_
                refine WL.nil (thenQ.normal ?_)
                exact ⟨rfl, rfl, _, ov_mk ⟨rfl, rfl, rfl, rfl, rfl, rfl, rfl, rfl, rfl, trivial⟩⟩
              | true =>
                cases wp with
                | false =>
                  refine WC.region rfl ?_
                  refine WL.y rfl (Y.move) ?_
                  refine WL.y rfl (Y.move) ?_
                  refine WL.y rfl (Y.move) ?_
                  refine WL.y rfl (Y.pickT rfl) ?_
                  refine WL.y rfl (Y.move) ?_
                  refine WL.off rfl ?_
                  refine WL.off rfl ?_
                  refine WL.y rfl (Y.pickF rfl) ?_
                  refine WL.nil (thenQ.normal ?_)
                  exact ⟨rfl, rfl, _, ov_mk ⟨rfl, rfl, rfl, rfl, rfl, rfl, rfl, rfl, rfl, trivial⟩⟩
                | true =>
                  skip
                  refine WC.region rfl ?_
                  refine WL.y rfl (Y.move) ?_
                  refine WL.y rfl (Y.move) ?_
                  refine WL.y rfl (Y.move) ?_
                  refine WL.y rfl (Y.pickT rfl) ?_
                  refine WL.y rfl (Y.move) ?_
                  refine WL.y rfl (Y.move) ?_
                  refine WL.y rfl (Y.eqi rfl rfl) ?_
                  refine WL.y rfl (Y.pickT rfl) ?_
                  refine WL.nil (thenQ.normal ?_)
                  exact ⟨rfl, rfl, _, ov_mk ⟨rfl, rfl, rfl, rfl, rfl, rfl, rfl, rfl, (congrArg Value.bool (show decide (hintI hint = 1) = decide (hint = .increasing) by cases hint <;> rfl)), trivial⟩⟩
            · rintro _ _ _ ⟨rfl, rfl, J3, rfl⟩
              refine WC.cut (fun f ds w' => ds = [] ∧ al = false ∧ SR w' bl o N cap d3 ∧ Kept (fun x => x = bl) w w' ∧ ∃ J, f = Go.Cx.ov J [(0, .slice (some ⟨bl, o, none⟩) N cap), (1, .int .i64 (a : Int)), (2, .int .i64 (b : Int)), (3, .int .i64 (l1 : Int)), (8, .bool wb), (9, .bool wp), (10, .int .i64 ((b : Int) - (a : Int))), (11, .int .i64 (p : Int))]) ?_ ?_
              · skip
                refine WC.cond rfl (fun h4 => ?_) (fun h4 => ?_)
                · rw [if_pos h4] at e7
                  refine WC.seqR rfl ?_
                  refine WL.y rfl (Y.move) ?_
                  refine WL.y rfl (Y.move) ?_
                  refine WL.y rfl (Y.move) ?_
                  refine WL.call rfl (C.func go51) (pis_ret' a b e7 h2 hbN hN (by omega)) ?_
                  rintro _ w72 ⟨rfl, h72, k72⟩
                  refine WL.nil ?_
                  refine WC.cond rfl (fun h5 => ?_) (fun h5 => ?_)
                  · rw [if_pos h5] at hR
                    refine WC.ret (thenQ.ret (inBlockQ.ret (thenQ.ret (inBlockQ.ret (endQ.zero (.inr rfl) ?_)))))
                    exact ⟨hR ▸ h72, k2.trans k72⟩
                  · refine WC.skip (thenQ.normal ?_)
                    exact ⟨rfl, h5, h72, k2.trans k72, _, ov_mk ⟨rfl, rfl, rfl, rfl, rfl, rfl, rfl, rfl, trivial⟩⟩
                · rw [if_neg (by rw [h4]; decide)] at e7
                  have e8 : d2 = d3 := congrArg Prod.fst e7
                  have e9 : false = al := congrArg Prod.snd e7
                  refine WC.skip (thenQ.normal ?_)
                  exact ⟨rfl, e9.symm, e8 ▸ h2, k2, _, ov_mk ⟨rfl, rfl, rfl, rfl, rfl, rfl, rfl, rfl, trivial⟩⟩
              · rintro _ _ w4 ⟨rfl, hal, h4, k4, J4, rfl⟩
                rw [if_neg (by rw [hal]; decide)] at hR
                clear e7 h2
                have hs3 := h4.1
                refine WC.seq ?_
                refine WC.seq ?_
                refine WC.cut (fun f ds w' => ds = [] ∧ Below w4.heap.size w4 w' ∧ ∃ J, f = Go.Cx.ov J [(0, .slice (some ⟨bl, o, none⟩) N cap), (1, .int .i64 (a : Int)), (2, .int .i64 (b : Int)), (3, .int .i64 (l1 : Int)), (8, .bool wb), (9, .bool wp), (10, .int .i64 ((b : Int) - (a : Int))), (11, .int .i64 (p : Int)), (87, .bool (decide (a > 0) && !ltI d3[a - 1]! d3[p]!))]) ?_ ?_
                · skip
                  by_cases c1 : 0 < a
                  · have i1 : a - 1 < d3.size := by omega
                    have i2 : p < d3.size := by omega
                    by_cases c2 : ltI d3[a - 1]! d3[p]! = true
                    · refine WC.regionB (fun i => Nat.beq i 12) [(0, .any), (1, .any), (2, .any), (3, .any), (4, .any), (5, .any), (6, .any), (7, .held), (8, .any), (9, .any), (10, .any), (11, .held), (12, .seq), (13, .any), (14, .any)] mixed (by kernel_rfl) (fun wS hS hheap => ?_)
                      refine RL.any rfl rfl (fun _ => Y.move) ?_
                      refine RL.any rfl rfl (fun _ => Y.dT (Y.gtr rfl rfl) (by omega)) ?_
                      refine RL.any rfl rfl (fun _ => Y.move) ?_
                      refine RL.any rfl rfl (fun _ => Y.move) ?_
                      refine RL.any rfl rfl (fun _ => Y.move) ?_
                      refine RL.any rfl rfl (fun _ => Y.sub64 rfl rfl (by omega)) ?_
                      refine RL.yex rfl rfl (Y.idx Try.underlying37 ti22 (by decide) (h4.2.sl) rfl (by omega) (by omega)) ?_
                      rintro _ ⟨b79, o79, rfl, hc79⟩
                      refine RL.held rfl rfl hS (fun _ hb9 => Y.load1 Try.underlying22 rfl rfl (cell_bel (elemI (by omega) (sr_get i1) hc79) hb9)) ?_
                      refine RL.any rfl rfl (fun _ => Y.move) ?_
                      refine RL.any rfl rfl (fun _ => Y.move) ?_
                      refine RL.yex rfl rfl (Y.idx Try.underlying37 ti22 (by decide) (h4.2.sl) rfl (by omega) (by omega)) ?_
                      rintro _ ⟨b83, o83, rfl, hc83⟩
                      refine RL.held rfl rfl hS (fun _ hb9 => Y.load1 Try.underlying22 rfl rfl (cell_bel (elemI (by omega) (sr_get i2) hc83) hb9)) ?_
                      refine RL.call rfl rfl (C.func go52) (lessT _ _ _ c2) ?_
                      rintro _ _ ⟨rfl, rfl⟩
                      refine ⟨.inl rfl, ?_⟩
                      refine RL.any rfl rfl (fun _ => Y.not rfl) ?_
                      refine RL.any rfl rfl (fun _ => Y.pickT rfl) ?_
                      refine RL.nil (thenQ.normal ?_)
                      exact ⟨rfl, hS, _, ov_mk ⟨rfl, rfl, rfl, rfl, rfl, rfl, rfl, rfl, (congrArg Value.bool (show false = (decide (a > 0) && !ltI d3[a - 1]! d3[p]!) by rw [c2]; simp)), trivial⟩⟩
                    · refine WC.regionB (fun i => Nat.beq i 12) [(0, .any), (1, .any), (2, .any), (3, .any), (4, .any), (5, .any), (6, .any), (7, .held), (8, .any), (9, .any), (10, .any), (11, .held), (12, .seq), (13, .any), (14, .any)] mixed (by kernel_rfl) (fun wS hS hheap => ?_)
                      refine RL.any rfl rfl (fun _ => Y.move) ?_
                      refine RL.any rfl rfl (fun _ => Y.dT (Y.gtr rfl rfl) (by omega)) ?_
                      refine RL.any rfl rfl (fun _ => Y.move) ?_
                      refine RL.any rfl rfl (fun _ => Y.move) ?_
                      refine RL.any rfl rfl (fun _ => Y.move) ?_
                      refine RL.any rfl rfl (fun _ => Y.sub64 rfl rfl (by omega)) ?_
                      refine RL.yex rfl rfl (Y.idx Try.underlying37 ti22 (by decide) (h4.2.sl) rfl (by omega) (by omega)) ?_
                      rintro _ ⟨b79, o79, rfl, hc79⟩
                      refine RL.held rfl rfl hS (fun _ hb9 => Y.load1 Try.underlying22 rfl rfl (cell_bel (elemI (by omega) (sr_get i1) hc79) hb9)) ?_
                      refine RL.any rfl rfl (fun _ => Y.move) ?_
                      refine RL.any rfl rfl (fun _ => Y.move) ?_
                      refine RL.yex rfl rfl (Y.idx Try.underlying37 ti22 (by decide) (h4.2.sl) rfl (by omega) (by omega)) ?_
                      rintro _ ⟨b83, o83, rfl, hc83⟩
                      refine RL.held rfl rfl hS (fun _ hb9 => Y.load1 Try.underlying22 rfl rfl (cell_bel (elemI (by omega) (sr_get i2) hc83) hb9)) ?_
                      refine RL.call rfl rfl (C.func go52) (lessF _ _ _ c2) ?_
                      rintro _ _ ⟨rfl, rfl⟩
                      refine ⟨.inl rfl, ?_⟩
                      refine RL.any rfl rfl (fun _ => Y.not rfl) ?_
                      refine RL.any rfl rfl (fun _ => Y.pickT rfl) ?_
                      refine RL.nil (thenQ.normal ?_)
                      exact ⟨rfl, hS, _, ov_mk ⟨rfl, rfl, rfl, rfl, rfl, rfl, rfl, rfl, (congrArg Value.bool (show true = (decide (a > 0) && !ltI d3[a - 1]! d3[p]!) by simp [c1]; simpa using c2)), trivial⟩⟩
                  · skip
                    skip
                    refine WC.regionB (fun _ => false) [(0, .any), (1, .any), (2, .any), (3, .any), (4, .any), (5, .any), (6, .any), (7, .held), (8, .any), (9, .any), (10, .any), (11, .held), (12, .any), (13, .any), (14, .any)] mixed (by kernel_rfl) (fun wS hS hheap => ?_)
                    refine RL.any rfl rfl (fun _ => Y.move) ?_
                    refine RL.any rfl rfl (fun _ => Y.dF (Y.gtr rfl rfl) (by omega)) ?_
                    refine RL.any rfl rfl (fun _ => Y.move) ?_
                    refine RL.off rfl rfl ?_
                    refine RL.off rfl rfl ?_
                    refine RL.off rfl rfl ?_
                    refine RL.off rfl rfl ?_
                    refine RL.offH rfl rfl hS ?_
                    refine RL.off rfl rfl ?_
                    refine RL.off rfl rfl ?_
                    refine RL.off rfl rfl ?_
                    refine RL.offH rfl rfl hS ?_
                    refine RL.off rfl rfl ?_
                    refine RL.off rfl rfl ?_
                    refine RL.any rfl rfl (fun _ => Y.pickF rfl) ?_
                    refine RL.nil (thenQ.normal ?_)
                    exact ⟨rfl, hS, _, ov_mk ⟨rfl, rfl, rfl, rfl, rfl, rfl, rfl, rfl, (congrArg Value.bool (show false = (decide (a > 0) && !ltI d3[a - 1]! d3[p]!) by simp; omega)), trivial⟩⟩
                · rintro _ _ w5 ⟨rfl, k5, J5, rfl⟩
                  have h5 := h4.bel k5
                  refine WC.cond rfl (fun h6 => ?_) (fun h6 => ?_)
                  · obtain ⟨mid, d4, em⟩ : ∃ x y, partitionEqual ltI d3 a b p = (x, y) := ⟨_, _, rfl⟩
                    have hr := peq_rng (a := a) (b := b) (p := p) (d := d3) (by omega)
                    rw [em] at hr
                    have hr1 : a < mid := hr.1
                    have hr2 : mid ≤ b := hr.2
                    rw [pdqT_eq h6 em hr1 hr2] at hR
                    refine WC.seqR rfl ?_
                    refine WL.y rfl (Y.move) ?_
                    refine WL.y rfl (Y.move) ?_
                    refine WL.y rfl (Y.move) ?_
                    refine WL.y rfl (Y.move) ?_
                    refine WL.call rfl (C.func go53) (peq_ret' a b p em h5 hbN hN hap hpb (by omega)) ?_
                    rintro _ w92 ⟨rfl, h92, k92⟩
                    refine WL.y rfl (Y.assign) ?_
                    refine WL.nil ?_
                    refine WC.seqR rfl ?_
                    refine WL.y rfl (Y.move) ?_
                    refine WL.y rfl (Y.assign) ?_
                    refine WL.nil ?_
                    refine WC.exit (thenQ.exit (inBlockQ.hit (thenQ.normal ?_)))
                    exact ⟨(mid, b, l1, wb, wp, d4), (show b - mid < b - a by omega), mid, b, l1, wb, wp, d4, rfl, hr2, hbN, (by omega), hl1, rfl, h92, hR, (k4.bel k5).trans k92, _, ov_mk ⟨rfl, rfl, rfl, rfl, rfl, rfl, trivial⟩⟩
                  · obtain ⟨mid, ap, d4, em⟩ : ∃ x y z, partition ltI d3 a b p = (x, y, z) := ⟨_, _, _, rfl⟩
                    have hr := part_rng (a := a) (b := b) (p := p) (d := d3) (by omega)
                    rw [em] at hr
                    have hr1 : a ≤ mid := hr.1
                    have hr2 : mid < b := hr.2
                    rw [pdqT_ne (by rw [h6]; decide) em hr1 hr2] at hR
                    refine WC.skip (thenQ.normal ?_)
                    refine WC.seqR rfl ?_
                    refine WL.y rfl (Y.move) ?_
                    refine WL.y rfl (Y.move) ?_
                    refine WL.y rfl (Y.move) ?_
                    refine WL.y rfl (Y.move) ?_
                    refine WL.call rfl (C.func go54) (part_ret' a b p em h5 hbN hN hap hpb (by omega)) ?_
                    rintro _ w99 ⟨rfl, h99, k99⟩
                    refine WL.y rfl (Y.move) ?_
                    refine WL.y rfl (Y.extract rfl rfl) ?_
                    refine WL.y rfl (Y.extract rfl rfl) ?_
                    refine WL.y rfl (Y.assign) ?_
                    refine WL.y rfl (Y.assign) ?_
                    refine WL.nil ?_
                    refine WC.seqR rfl ?_
                    refine WL.y rfl (Y.move) ?_
                    refine WL.y rfl (Y.assign) ?_
                    refine WL.nil ?_
                    refine WC.seqR rfl ?_
                    refine WL.y rfl (Y.move) ?_
                    refine WL.y rfl (Y.move) ?_
                    refine WL.y rfl (Y.sub64 rfl rfl (by omega)) ?_
                    refine WL.y rfl (Y.move) ?_
                    refine WL.y rfl (Y.move) ?_
                    refine WL.y rfl (Y.sub64 rfl rfl (by omega)) ?_
                    refine WL.y rfl (Y.assign) ?_
                    refine WL.y rfl (Y.assign) ?_
                    refine WL.nil ?_
                    refine WC.seqR rfl ?_
                    refine WL.y rfl (Y.move) ?_
                    refine WL.y rfl (Y.quo64 rfl rfl (by omega) (by omega)) ?_
                    refine WL.y rfl (Y.assign) ?_
                    refine WL.nil ?_
                    refine WC.seqR rfl ?_
                    refine WL.y rfl (Y.move) ?_
                    refine WL.y rfl (Y.move) ?_
                    refine WL.y rfl (Y.lss rfl rfl) ?_
                    refine WL.nil ?_
                    refine WC.condD rfl (fun h7 => ?_) (fun h7 => ?_)
                    · have h7' : mid - a < b - mid := by omega
                      rw [if_pos h7'] at hR
                      refine WC.seqR rfl ?_
                      refine WL.y rfl (Y.move) ?_
                      refine WL.y rfl (Y.move) ?_
                      refine WL.y rfl (Y.geq rfl rfl) ?_
                      refine WL.y rfl (Y.assign) ?_
                      refine WL.nil ?_
                      refine WC.seqR rfl ?_
                      refine WL.y rfl (Y.move) ?_
                      refine WL.y rfl (Y.move) ?_
                      refine WL.y rfl (Y.move) ?_
                      refine WL.y rfl (Y.move) ?_
                      refine WL.call rfl (C.func go44) (ih (mid - a) (by omega) a mid l1 rfl rfl rfl (Nat.le_refl _) h99 (by omega) hr1 hl1) ?_
                      rintro _ w121 ⟨h121, k121⟩
                      refine WL.nil ?_
                      refine WC.region rfl ?_
                      refine WL.y rfl (Y.move) ?_
                      refine WL.y rfl (Y.add64 rfl rfl (by omega)) ?_
                      refine WL.y rfl (Y.assign) ?_
                      refine WL.nil (inBlockQ.normal (thenQ.normal ?_))
                      exact ⟨(mid + 1, b, l1, _, ap, _), (show b - (mid + 1) < b - a by omega), mid + 1, b, l1, _, ap, _, rfl, hr2, hbN, (by omega), hl1, rfl, h121, hR, ((k4.bel k5).trans k99).trans k121, _, ov_mk ⟨rfl, rfl, rfl, rfl, (congrArg Value.bool (decide_eq_decide.2 (by omega))), rfl, trivial⟩⟩
                    · have h7' : ¬ mid - a < b - mid := by omega
                      rw [if_neg h7'] at hR
                      refine WC.seqR rfl ?_
                      refine WL.y rfl (Y.move) ?_
                      refine WL.y rfl (Y.move) ?_
                      refine WL.y rfl (Y.geq rfl rfl) ?_
                      refine WL.y rfl (Y.assign) ?_
                      refine WL.nil ?_
                      refine WC.seqR rfl ?_
                      refine WL.y rfl (Y.move) ?_
                      refine WL.y rfl (Y.move) ?_
                      refine WL.y rfl (Y.add64 rfl rfl (by omega)) ?_
                      refine WL.y rfl (Y.move) ?_
                      refine WL.y rfl (Y.move) ?_
                      refine WL.call rfl (C.func go44) (ih (b - (mid + 1)) (by omega) (mid + 1) b l1 rfl rfl rfl (Nat.le_refl _) h99 (by omega) hr2 hl1) ?_
                      rintro _ w132 ⟨h132, k132⟩
                      refine WL.nil ?_
                      refine WC.region rfl ?_
                      refine WL.y rfl (Y.move) ?_
                      refine WL.y rfl (Y.assign) ?_
                      refine WL.nil (inBlockQ.normal (thenQ.normal ?_))
                      exact ⟨(a, mid, l1, _, ap, _), (show mid - a < b - a by omega), a, mid, l1, _, ap, _, rfl, hr1, (by omega), (by omega), hl1, rfl, h132, hR, ((k4.bel k5).trans k99).trans k132, _, ov_mk ⟨rfl, rfl, rfl, rfl, (congrArg Value.bool (decide_eq_decide.2 (by omega))), rfl, trivial⟩⟩
end Go.Proofs.Ytlhhognabmnlmaa
