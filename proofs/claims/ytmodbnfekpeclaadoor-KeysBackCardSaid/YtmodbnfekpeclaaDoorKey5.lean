/-
  Texts in their order, their beginnings and ends: plain laws.
-/
import Derived.Test.YtmodbnfekpeclaaDoorKey4
namespace Go.Proofs.YtmodbnfekpeclaaDoor
open Go Go.RowKit Go.Cx
set_option linter.unusedVariables false
theorem slt_cons (a b : UInt8) (x y : List UInt8) : slt (a :: x) (b :: y) = if a = b then slt x y else decide (a < b) := by
  unfold slt
  conv => lhs; unfold Op.bytesLess
  by_cases h : a = b
  · subst h
    simp
  · simp [h]
theorem slt_nil (a : List UInt8) : slt a [] = false := by cases a <;> rfl
theorem slt_nil_cons (b : UInt8) (y : List UInt8) : slt [] (b :: y) = true := rfl
theorem slt_append (c a b : List UInt8) : slt (c ++ a) (c ++ b) = slt a b := by
  induction c with
  | nil => rfl
  | cons x c ih => rw [List.cons_append, List.cons_append, slt_cons, if_pos rfl, ih]
theorem beg_nil (k : List UInt8) : beg k [] := ⟨Nat.zero_le _, rfl⟩
theorem beg_nil_cons (y : UInt8) (ys : List UInt8) : ¬ beg [] (y :: ys) := fun h => absurd h.1 (by simp)
theorem beg_cons (x y : UInt8) (xs ys : List UInt8) : beg (x :: xs) (y :: ys) ↔ x = y ∧ beg xs ys := by
  unfold beg
  simp only [List.length_cons, List.take_succ_cons, List.cons.injEq, Nat.add_le_add_iff_right]
  constructor
  · rintro ⟨h1, h2, h3⟩; exact ⟨h2, h1, h3⟩
  · rintro ⟨h2, h1, h3⟩; exact ⟨h1, h2, h3⟩
theorem beg_append (p r : List UInt8) : beg (p ++ r) p := ⟨by simp, by simp⟩
theorem lt_iff (a b : UInt8) : a < b ↔ a.toNat < b.toNat := Iff.rfl
theorem rep_begins (m : Nat) : ∀ k : List UInt8, (!slt k (List.replicate m 255)) = decide (beg k (List.replicate m 255)) := by
  induction m with
  | zero => intro k; rw [List.replicate_zero, slt_nil, decide_eq_true (beg_nil k)]; rfl
  | succ m ih =>
    intro k
    rw [List.replicate_succ]
    cases k with
    | nil => rw [slt_nil_cons, decide_eq_false (beg_nil_cons _ _)]; rfl
    | cons x xs =>
      rw [slt_cons]
      by_cases h : x = 255
      · subst h
        rw [if_pos rfl, ih xs]
        exact decide_eq_decide.mpr (by rw [beg_cons]; simp)
      · have hlt : x < 255 := by
          rw [lt_iff]
          have h1 := UInt8.toNat_lt x
          have h2 : x.toNat ≠ 255 := fun e => h (UInt8.toNat_inj.mp e)
          have h3 : (255 : UInt8).toNat = 255 := rfl
          omega
        rw [if_neg h, decide_eq_true hlt, decide_eq_false (fun hb => h ((beg_cons _ _ _ _).mp hb).1)]
        rfl
theorem mid_begins (c : UInt8) (hc : c ≠ 255) (m : Nat) (q : List UInt8) : ∀ k : List UInt8, (!slt k (q ++ c :: List.replicate m 255) && slt k (q ++ [c + 1])) = decide (beg k (q ++ c :: List.replicate m 255)) := by
  have hc1 : (c + 1).toNat = c.toNat + 1 := by
    have h1 := UInt8.toNat_lt c
    have h2 : c.toNat ≠ 255 := fun e => hc (UInt8.toNat_inj.mp e)
    have h3 : (1 : UInt8).toNat = 1 := rfl
    rw [UInt8.toNat_add, h3]
    omega
  induction q with
  | nil =>
    intro k
    rw [List.nil_append, List.nil_append]
    cases k with
    | nil => rw [slt_nil_cons, decide_eq_false (beg_nil_cons _ _)]; rfl
    | cons x xs =>
      rw [slt_cons, slt_cons, slt_nil]
      by_cases h : x = c
      · subst h
        have h5 : ¬ x = x + 1 := fun e => by have := congrArg UInt8.toNat e; omega
        have h6 : x < x + 1 := by rw [lt_iff]; omega
        rw [if_pos rfl, if_neg h5, decide_eq_true h6, rep_begins, Bool.and_true]
        exact decide_eq_decide.mpr (by rw [beg_cons]; simp)
      · rw [if_neg h, decide_eq_false (p := beg _ _) (fun hb => h ((beg_cons _ _ _ _).mp hb).1)]
        by_cases h2 : x < c
        · rw [decide_eq_true h2]; rfl
        · have h3 : ¬ x.toNat < c.toNat := h2
          have h4 : x.toNat ≠ c.toNat := fun e => h (UInt8.toNat_inj.mp e)
          by_cases h5 : x = c + 1
          · rw [if_pos h5, Bool.and_false]
          · have h6 : ¬ x < c + 1 := by rw [lt_iff]; omega
            rw [if_neg h5, decide_eq_false h6, Bool.and_false]
  | cons y q ih =>
    intro k
    rw [List.cons_append, List.cons_append]
    cases k with
    | nil => rw [slt_nil_cons, decide_eq_false (beg_nil_cons _ _)]; rfl
    | cons x xs =>
      rw [slt_cons, slt_cons]
      by_cases h : x = y
      · subst h
        rw [if_pos rfl, if_pos rfl, ih xs]
        exact decide_eq_decide.mpr (by rw [beg_cons]; simp)
      · rw [if_neg h, if_neg h, decide_eq_false (p := beg _ _) (fun hb => h ((beg_cons _ _ _ _).mp hb).1)]
        by_cases h2 : x < y
        · rw [decide_eq_true h2]; rfl
        · rw [decide_eq_false h2]; rfl
theorem endN_spec (p : List UInt8) : ∀ n, (∀ i, endN p n ≤ i → i < n → p.getD i 0 = 255) ∧ (endN p n ≠ 0 → p.getD (endN p n - 1) 0 ≠ 255)
  | 0 => ⟨fun i _ h => by omega, fun h => absurd rfl h⟩
  | n + 1 => by
    unfold endN
    have hqq := endN_spec p n
    obtain ⟨h1, h2⟩ := hqq
    by_cases h : p.getD n 0 = 255
    · rw [if_pos h]
      refine ⟨fun i hi hin => ?_, h2⟩
      by_cases h3 : i = n
      · subst h3; exact h
      · exact h1 i hi (by omega)
    · rw [if_neg h]
      exact ⟨fun i hi hin => by omega, fun _ => h⟩
theorem drop_rep (p : List UInt8) (n : Nat) (h : ∀ i, n ≤ i → i < p.length → p.getD i 0 = 255) : p.drop n = List.replicate (p.length - n) 255 := by
  apply List.ext_getElem
  · simp
  · intro i h1 h2
    rw [List.length_drop] at h1
    have := h (n + i) (by omega) (by omega)
    rw [List.getD_eq_getElem?_getD, List.getElem?_eq_getElem (by omega)] at this
    simpa using this
/-- THE STAGE'S THEOREM, plain -/
theorem within_beg (k p : List UInt8) : withinS k p (endL p) (!endB p) = decide (beg k p) := by
  have hqq := endN_spec p p.length
  obtain ⟨h1, h2⟩ := hqq
  have hle := endN_le p p.length
  have hrep := drop_rep p _ h1
  unfold withinS endL endB
  generalize endN p p.length = n at *
  by_cases h0 : n = 0
  · subst h0
    rw [List.drop_zero] at hrep
    rw [if_pos rfl, hrep]
    simp only [decide_true, Bool.not_true, Bool.not_false, Bool.true_or, Bool.and_true]
    exact rep_begins _ k
  · rw [if_neg h0]
    simp only [decide_eq_false h0, Bool.not_false, Bool.not_true, Bool.false_or]
    have hc := h2 h0
    obtain ⟨m, rfl⟩ : ∃ m, n = m + 1 := ⟨n - 1, by omega⟩
    rw [Nat.add_sub_cancel] at hc ⊢
    have hsplit : p = p.take m ++ p.getD m 0 :: List.replicate (p.length - (m + 1)) 255 := by
      rw [← hrep]
      conv => lhs; rw [← List.take_append_drop m p, List.drop_eq_getElem_cons (by omega)]
      simp [show m < p.length by omega]
    have := mid_begins (p.getD m 0) hc (p.length - (m + 1)) (p.take m) k
    rwa [← hsplit] at this
theorem end_all (p : List UInt8) (h : endB p = false) : endL p = [] ∧ ∀ i, i < p.length → p.getD i 0 = 255 := by
  have hqq := endN_spec p p.length
  obtain ⟨h1, h2⟩ := hqq
  unfold endB at h
  have h0 : endN p p.length = 0 := by simpa using h
  refine ⟨by unfold endL; rw [if_pos h0], fun i hi => h1 i (by omega) hi⟩
end Go.Proofs.YtmodbnfekpeclaaDoor
