/-
  utf: what a quote is read as: the plain law of the steps.
-/
import Derived.Test.YtgdemkchfemmpaaDoorQt5
namespace Go.Proofs.YtgdemkchfemmpaaDoor
open Go Go.RowKit Go.Cx
set_option linter.unusedVariables false
set_option maxHeartbeats 4000000
/-- a step of reading -/
inductive U where
  | fin : U
  | bad : Nat → U
  | go : List UInt8 → Nat → U
def stepU (l : List UInt8) : U :=
  if l = [] then .bad 4 else if bt l 0 = 34 then .fin else if bt l 0 = 92 then (if (escS l).2.2 = 0 then .go (Lib.encodeRune ((escS l).1 : Int)) (escS l).2.1 else .bad (escS l).2.2)
  else if bt l 0 < 32 then .bad 4 else if (atL l).2 = 0 then .bad 3 else .go (l.take (atL l).2) (atL l).2
theorem runOf_lt {c r : Nat} (h : runOf c = some r) : r < 128 := by
  unfold runOf at h
  repeat' split at h
  all_goals first | (cases h; omega) | cases h
theorem escS_ok {l : List UInt8} (h : (escS l).2.2 = 0) : okR (escS l).1 ∧ 2 ≤ (escS l).2.1 ∧ (escS l).2.1 ≤ l.length ∧ ((escS l).2.1 < 6 → (escS l).1 < 128) := by
  unfold okR
  unfold escS at h ⊢
  cases hn : hexL l with
  | some n =>
    rw [hn] at h
    have hl := (hexL_len hn).1
    have hlt := hexL_lt hn
    simp only at h ⊢
    unfold pairS at h ⊢
    by_cases h1 : n < 55296 ∨ 57344 ≤ n
    · rw [if_pos h1]; simp only; omega
    · rw [if_neg h1] at h ⊢
      by_cases h2 : 56320 ≤ n
      · rw [if_pos h2] at h; simp at h
      · rw [if_neg h2] at h ⊢
        cases hm : hexL (l.drop 6) with
        | none => rw [hm] at h; simp at h
        | some m =>
          rw [hm] at h
          have hl2 := (hexL_len hm).1
          rw [List.length_drop] at hl2
          simp only at h ⊢
          by_cases h3 : 56320 ≤ m ∧ m < 57344
          · rw [if_pos h3]; simp only; omega
          · rw [if_neg h3] at h; simp at h
  | none =>
    rw [hn] at h
    simp only at h ⊢
    by_cases h2 : 2 ≤ l.length
    · rw [if_pos h2] at h ⊢
      cases hr : runOf (bt l 1) with
      | none => rw [hr] at h; simp at h
      | some r =>
        have := runOf_lt hr
        simp only
        omega
    · rw [if_neg h2] at h; simp at h
theorem stepU_go {l b : List UInt8} {n : Nat} (h : stepU l = .go b n) : 1 ≤ n ∧ n ≤ l.length ∧ b.length ≤ n := by
  unfold stepU at h
  by_cases h0 : l = []
  · rw [if_pos h0] at h; cases h
  rw [if_neg h0] at h
  by_cases h1 : bt l 0 = 34
  · rw [if_pos h1] at h; cases h
  rw [if_neg h1] at h
  by_cases h2 : bt l 0 = 92
  · rw [if_pos h2] at h
    by_cases h3 : (escS l).2.2 = 0
    · rw [if_pos h3] at h
      cases h
      have hk := escS_ok h3
      have h4 := enc_len (escS l).1
      refine ⟨by omega, hk.2.2.1, ?_⟩
      by_cases h5 : (escS l).2.1 < 6
      · rw [enc_ascii _ (hk.2.2.2 h5)]; simp only [List.length_cons, List.length_nil]; omega
      · omega
    · rw [if_neg h3] at h; cases h
  rw [if_neg h2] at h
  by_cases h3 : bt l 0 < 32
  · rw [if_pos h3] at h; cases h
  rw [if_neg h3] at h
  by_cases h4 : (atL l).2 = 0
  · rw [if_pos h4] at h; cases h
  rw [if_neg h4] at h
  cases h
  exact ⟨by omega, atL_le l, by rw [List.length_take]; omega⟩
/-- something ahead of what is read -/
def preU (b : List UInt8) (n : Nat) (r : List UInt8 × Nat × Nat) : List UInt8 × Nat × Nat := (if r.2.2 = 0 then b ++ r.1 else [], n + r.2.1, r.2.2)
theorem preU_preU (b c : List UInt8) (n m : Nat) (r : List UInt8 × Nat × Nat) : preU b n (preU c m r) = preU (b ++ c) (n + m) r := by
  unfold preU
  by_cases h : r.2.2 = 0
  · simp only [h, if_true, List.append_assoc, Nat.add_assoc]
  · simp only [h, if_false, Nat.add_assoc]
/-- what is read of a quote behind its first sign: the text, how many bytes, an error -/
def unq (l : List UInt8) : List UInt8 × Nat × Nat :=
  match h : stepU l with
  | .fin => ([], 1, 0)
  | .bad c => ([], 0, c)
  | .go b n => preU b n (unq (l.drop n))
termination_by l.length
decreasing_by (have := stepU_go h; rw [List.length_drop]; omega)
theorem unq_fin {l : List UInt8} (h : stepU l = .fin) : unq l = ([], 1, 0) := by
  rw [unq]
  split
  · rfl
  · rename_i c h2; rw [h] at h2; cases h2
  · rename_i b n h2; rw [h] at h2; cases h2
theorem unq_bad {l : List UInt8} {c : Nat} (h : stepU l = .bad c) : unq l = ([], 0, c) := by
  rw [unq]
  split
  · rename_i h2; rw [h] at h2; cases h2
  · rename_i c' h2; rw [h] at h2; cases h2; rfl
  · rename_i b n h2; rw [h] at h2; cases h2
theorem unq_go {l b : List UInt8} {n : Nat} (h : stepU l = .go b n) : unq l = preU b n (unq (l.drop n)) := by
  rw [unq]
  split
  · rename_i h2; rw [h] at h2; cases h2
  · rename_i c h2; rw [h] at h2; cases h2
  · rename_i b' n' h2; rw [h] at h2; cases h2; rfl
theorem stepU_bad {l : List UInt8} {c : Nat} (h : stepU l = .bad c) : c ≠ 0 := by
  unfold stepU at h
  repeat' split at h
  all_goals first | (cases h; done) | (cases h; omega) | (cases h; assumption)
theorem unq_err (l : List UInt8) : (unq l).2.2 ≠ 0 → (unq l).1 = [] := by
  intro h
  cases hs : stepU l with
  | fin => rw [unq_fin hs]
  | bad c => rw [unq_bad hs]
  | go b n =>
    rw [unq_go hs] at h ⊢
    unfold preU at h ⊢
    exact if_neg h
theorem preU_nil (l : List UInt8) : preU [] 0 (unq l) = unq l := by
  unfold preU
  by_cases h : (unq l).2.2 = 0
  · simp only [h, if_true, List.nil_append, Nat.zero_add]
    exact Prod.ext rfl (Prod.ext rfl h.symm)
  · have := unq_err l h
    simp only [h, if_false, Nat.zero_add]
    exact Prod.ext this.symm rfl
theorem unq_le (l : List UInt8) : (unq l).2.1 ≤ l.length := by
  induction hn : l.length using Nat.strongRecOn generalizing l with
  | _ k ih =>
    cases hs : stepU l with
    | fin =>
      rw [unq_fin hs]
      by_cases h : l = []
      · subst h; cases hs
      · have := List.length_pos_iff.2 h; show 1 ≤ k; omega
    | bad c => rw [unq_bad hs]; exact Nat.zero_le _
    | go b n =>
      have hg := stepU_go hs
      rw [unq_go hs]
      have := ih (l.drop n).length (by rw [List.length_drop]; omega) _ rfl
      rw [List.length_drop] at this
      show n + (unq (l.drop n)).2.1 ≤ k
      omega
theorem atL_first {l : List UInt8} (h : (atL l).2 ≠ 0) : (bt l 0 < 128 ∧ atL l = (bt l 0, 1)) ∨ (128 ≤ bt l 0 ∧ 128 ≤ (atL l).1) := by
  have hne : l ≠ [] := by rintro rfl; exact h rfl
  by_cases h1 : bt l 0 < 128
  · exact .inl ⟨h1, atL_one l hne h1⟩
  · refine .inr ⟨by omega, ?_⟩
    have hsh := (atL_shape l h).2.2.2.2
    have h2 := h
    rw [hsh] at h2 ⊢
    rw [Lib.decodeL_N] at h2 ⊢
    have e0 : (l.getD 0 0).toNat = bt l 0 := rfl
    rcases Lib.decodeN_shape l.length (l.getD 0 0).toNat (l.getD 1 0).toNat (l.getD 2 0).toNat (l.getD 3 0).toNat with ⟨c, e⟩ | ⟨c1, c2, c3, cv, e⟩ | ⟨c1, c2, c3, c4, cv, cs, e⟩ | ⟨c1, c2, c3, c4, c5, cv, cw, e⟩ | e
    all_goals rw [e]
    all_goals dsimp only
    all_goals omega
theorem selfR_first {l : List UInt8} (h : (atL l).2 ≠ 0) : selfR (atL l).1 = decide (32 ≤ bt l 0 ∧ bt l 0 ≠ 34 ∧ bt l 0 ≠ 92) := by
  unfold selfR
  rcases atL_first h with ⟨h1, h2⟩ | ⟨h1, h2⟩
  · rw [h2]
  · rw [decide_eq_true (by omega), decide_eq_true (by omega)]
theorem stepU_self {l : List UInt8} (h : (atL l).2 ≠ 0) (h1 : selfR (atL l).1 = true) : stepU l = .go (l.take (atL l).2) (atL l).2 := by
  have hne : l ≠ [] := by rintro rfl; exact h rfl
  rw [selfR_first h] at h1
  have h1 := of_decide_eq_true h1
  unfold stepU
  rw [if_neg hne, if_neg (by omega), if_neg (by omega), if_neg (by omega), if_neg h]
/-- runes that stand for themselves are read as they are -/
theorem unq_plain (l : List UInt8) : unq l = preU (l.take (plainN l)) (plainN l) (unq (l.drop (plainN l))) := by
  induction hn : l.length using Nat.strongRecOn generalizing l with
  | _ k ih =>
    by_cases h : (atL l).2 = 0
    · rw [plainN_stop h, List.take_zero, List.drop_zero, preU_nil]
    · cases h1 : selfR (atL l).1 with
      | false => rw [plainN_not h h1, List.take_zero, List.drop_zero, preU_nil]
      | true =>
        have hle := atL_le l
        rw [unq_go (stepU_self h h1), ih _ (by rw [List.length_drop]; omega) (l.drop (atL l).2) rfl, preU_preU, List.drop_drop, plainN_go h h1]
        congr 1
        rw [List.take_add]
theorem stepU_refused {l : List UInt8} (hne : l ≠ []) (h34 : bt l 0 ≠ 34) (h92 : bt l 0 ≠ 92) (h : plainN l = 0) : stepU l = .bad (if bt l 0 < 32 then 4 else 3) := by
  unfold stepU
  rw [if_neg hne, if_neg h34, if_neg h92]
  by_cases h3 : bt l 0 < 32
  · rw [if_pos h3, if_pos h3]
  · rw [if_neg h3, if_neg h3]
    by_cases h4 : (atL l).2 = 0
    · rw [if_pos h4]
    · exfalso
      have h1 : selfR (atL l).1 = true := by rw [selfR_first h4]; exact decide_eq_true (by omega)
      rw [plainN_go h4 h1] at h
      omega
/-- what any bytes are read as from a place on -/
def unquoteS (s : List UInt8) (a : Int) : List UInt8 × Nat × Nat :=
  if a < 0 ∨ (s.length : Int) < a then ([], 0, 17) else if s.drop a.toNat = [] ∨ bt (s.drop a.toNat) 0 ≠ 34 then ([], a.toNat, 4)
  else ((unq (s.drop (a.toNat + 1))).1, a.toNat + 1 + (unq (s.drop (a.toNat + 1))).2.1, (unq (s.drop (a.toNat + 1))).2.2)
def unqV (r : List UInt8 × Nat × Nat) : Value := .tuple #[strv r.1, .int .i64 (r.2.1 : Int), .int .i64 (r.2.2 : Int)]
end Go.Proofs.YtgdemkchfemmpaaDoor
