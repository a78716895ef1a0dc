/-
  The order of values: plain laws.
-/
import Derived.Test.YthcppegkpkgnpaaDoorVal3
namespace Go.Proofs.YthcppegkpkgnpaaDoor
open Go Go.RowKit Go.Cx
set_option linter.unusedVariables false
/-- a, b, c are what two, the next two, and the outer two of three come to -/
def TT (a b c : Int) : Prop := (0 < a ∨ 0 < b ∨ c < 0 ∨ (c = 0 ∧ a = 0 ∧ b = 0)) ∧ (a < 0 ∨ b < 0 ∨ 0 < c ∨ (c = 0 ∧ a = 0 ∧ b = 0))
def lx (a b : Int) : Int := if a ≠ 0 then a else b
theorem lx_ne {a b : Int} (h : a ≠ 0) : lx a b = a := if_pos h
theorem lx_eq {a b : Int} (h : a = 0) : lx a b = b := if_neg (by omega)
theorem TT_lx {a b c a' b' c' : Int} (h : TT a b c) (h' : a = 0 → b = 0 → c = 0 → TT a' b' c') : TT (lx a a') (lx b b') (lx c c') := by
  by_cases h1 : a = 0 <;> by_cases h2 : b = 0
  · have h3 : c = 0 := by unfold TT at h; omega
    rw [lx_eq h1, lx_eq h2, lx_eq h3]
    exact h' h1 h2 h3
  · have h3 : c ≠ 0 := by unfold TT at h; omega
    rw [lx_eq h1, lx_ne h2, lx_ne h3]
    unfold TT at *
    omega
  · have h3 : c ≠ 0 := by unfold TT at h; omega
    rw [lx_ne h1, lx_eq h2, lx_ne h3]
    unfold TT at *
    omega
  · rw [lx_ne h1, lx_ne h2]
    by_cases h3 : c = 0
    · unfold TT at *
      omega
    · rw [lx_ne h3]
      exact h
theorem TT_zero : TT 0 0 0 := by unfold TT; omega
theorem TT_num (x y z : Int) : TT (num x y) (num y z) (num x z) := by
  unfold TT num
  repeat' split
  all_goals omega
theorem num_anti (x y : Int) : num y x = -num x y := by
  unfold num
  repeat' split
  all_goals omega
theorem num_self (x : Int) : num x x = 0 := by unfold num; rw [if_neg (by omega), if_neg (by omega)]
theorem num_zero_iff {x y : Int} : num x y = 0 ↔ x = y := by
  unfold num
  repeat' split
  all_goals omega
theorem lx_anti {a b a' b' : Int} (h : a' = -a) (h2 : b' = -b) : lx a' b' = -lx a b := by
  subst h h2
  unfold lx
  repeat' split
  all_goals omega
def sg (a : Int) : Prop := a = -1 ∨ a = 0 ∨ a = 1
theorem num_sg (x y : Int) : sg (num x y) := by
  unfold sg num
  repeat' split
  all_goals omega
theorem lx_sg {a b : Int} (h : sg a) (h2 : sg b) : sg (lx a b) := by
  unfold lx
  split
  · exact h
  · exact h2
theorem sg_num {a : Int} (h : sg a) : num a 0 = a := by
  rcases h with rfl | rfl | rfl <;> rfl
theorem cmpT_cons (a b : UInt8) (x y : List UInt8) : cmpT (a :: x) (b :: y) = lx (num a.toNat b.toNat) (cmpT x y) := by
  show Lib.compareBytes _ _ = _
  rw [Lib.compareBytes]
  unfold lx num
  simp only [UInt8.lt_iff_toNat_lt]
  repeat' split
  all_goals first | rfl | omega
theorem cmpT_nn : cmpT [] [] = 0 := by show Lib.compareBytes _ _ = _; rw [Lib.compareBytes]
theorem cmpT_nc (b : UInt8) (y : List UInt8) : cmpT [] (b :: y) = -1 := by show Lib.compareBytes _ _ = _; rw [Lib.compareBytes]
theorem cmpT_cn (b : UInt8) (y : List UInt8) : cmpT (b :: y) [] = 1 := by show Lib.compareBytes _ _ = _; rw [Lib.compareBytes]
theorem TT_ends {a b c : Int} : TT (-1) b (-1) ∧ TT a 1 1 ∧ TT 1 (-1) c ∧ TT (-1) 1 c ∧ TT 1 0 1 ∧ TT 0 (-1) (-1) := by
  unfold TT
  omega
theorem cmpT_TT : ∀ x y z : List UInt8, TT (cmpT x y) (cmpT y z) (cmpT x z)
  | [], [], [] => by rw [cmpT_nn]; exact TT_zero
  | [], [], c :: z => by rw [cmpT_nn, cmpT_nc]; exact (TT_ends (a := 0) (b := 0) (c := 0)).2.2.2.2.2
  | [], b :: y, [] => by rw [cmpT_nn, cmpT_nc, cmpT_cn]; exact (TT_ends (a := 0) (b := 0) (c := 0)).2.2.2.1
  | [], b :: y, c :: z => by rw [cmpT_nc, cmpT_nc]; exact (TT_ends (a := 0) (c := 0)).1
  | a :: x, [], [] => by rw [cmpT_cn, cmpT_nn]; exact (TT_ends (a := 0) (b := 0) (c := 0)).2.2.2.2.1
  | a :: x, [], c :: z => by rw [cmpT_cn, cmpT_nc]; exact (TT_ends (a := 0) (b := 0)).2.2.1
  | a :: x, b :: y, [] => by rw [cmpT_cn, cmpT_cn]; exact (TT_ends (b := 0) (c := 0)).2.1
  | a :: x, b :: y, c :: z => by
    rw [cmpT_cons, cmpT_cons, cmpT_cons]
    exact TT_lx (TT_num _ _ _) fun _ _ _ => cmpT_TT x y z
theorem cmpT_anti : ∀ x y : List UInt8, cmpT y x = -cmpT x y
  | [], [] => by rw [cmpT_nn]; rfl
  | [], b :: y => by rw [cmpT_nc, cmpT_cn]; rfl
  | a :: x, [] => by rw [cmpT_nc, cmpT_cn]
  | a :: x, b :: y => by
    rw [cmpT_cons, cmpT_cons]
    exact lx_anti (num_anti _ _) (cmpT_anti x y)
theorem cmpT_sg : ∀ x y : List UInt8, sg (cmpT x y)
  | [], [] => by rw [cmpT_nn]; exact .inr (.inl rfl)
  | [], b :: y => by rw [cmpT_nc]; exact .inl rfl
  | a :: x, [] => by rw [cmpT_cn]; exact .inr (.inr rfl)
  | a :: x, b :: y => by rw [cmpT_cons]; exact lx_sg (num_sg _ _) (cmpT_sg x y)
theorem cmpT_self (x : List UInt8) : cmpT x x = 0 := by have := cmpT_anti x x; omega
/-! values -/
def bodyV (v w : V) : Int := if v.k = 2 then num (rk v.b) (rk w.b) else if v.k = 3 then num v.i w.i else if v.k = 4 then cmpT v.t w.t else if v.k = 5 then cmpL v.l w.l else if v.k = 6 then cmpM v.vs v.ks w.ks w.vs else 0
theorem cmpV_lx (v w : V) : cmpV v w = lx (num v.k w.k) (bodyV v w) := by
  rw [cmpV_eq]
  unfold lx
  by_cases h : v.k = w.k
  · have h2 : num v.k w.k = 0 := num_zero_iff.2 h
    have e : (if num v.k w.k ≠ 0 then num v.k w.k else bodyV v w) = bodyV v w := if_neg (by omega)
    rw [e, if_neg (by omega)]; rfl
  · rw [if_pos h, if_pos (fun e => h (num_zero_iff.1 e))]
theorem cmpL_cons (x y : V) (xs ys : List V) : cmpL (x :: xs) (y :: ys) = lx (cmpV x y) (cmpL xs ys) := by rw [cmpL]; rfl
theorem cmpM_cons (x y : V) (xs ys : List V) (ks ks' : List (List UInt8)) : cmpM (x :: xs) ks ks' (y :: ys) = lx (cmpT (ks.headD []) (ks'.headD [])) (lx (cmpV x y) (cmpM xs ks.tail ks'.tail ys)) := by rw [cmpM]; rfl
theorem cmpL_TT : ∀ x y z : List V, (∀ v ∈ x, ∀ y z, TT (cmpV v y) (cmpV y z) (cmpV v z)) → TT (cmpL x y) (cmpL y z) (cmpL x z)
  | [], [], [], _ => by rw [cmpL]; exact TT_zero
  | [], [], c :: z, _ => by rw [cmpL, cmpL]; exact (TT_ends (a := 0) (b := 0) (c := 0)).2.2.2.2.2
  | [], b :: y, [], _ => by rw [cmpL, cmpL, cmpL]; exact (TT_ends (a := 0) (b := 0) (c := 0)).2.2.2.1
  | [], b :: y, c :: z, _ => by rw [cmpL, show cmpL [] (c :: z) = -1 by rw [cmpL]]; exact (TT_ends (a := 0) (c := 0)).1
  | a :: x, [], [], _ => by rw [cmpL, cmpL]; exact (TT_ends (a := 0) (b := 0) (c := 0)).2.2.2.2.1
  | a :: x, [], c :: z, _ => by rw [show cmpL (a :: x) [] = 1 by rw [cmpL], show cmpL [] (c :: z) = -1 by rw [cmpL]]; exact (TT_ends (a := 0) (b := 0)).2.2.1
  | a :: x, b :: y, [], _ => by rw [show cmpL (b :: y) [] = 1 by rw [cmpL], show cmpL (a :: x) [] = 1 by rw [cmpL]]; exact (TT_ends (b := 0) (c := 0)).2.1
  | a :: x, b :: y, c :: z, h => by
    rw [cmpL_cons, cmpL_cons, cmpL_cons]
    exact TT_lx (h a (by simp) b c) fun _ _ _ => cmpL_TT x y z (fun v hv => h v (by simp [hv]))
theorem cmpM_TT : ∀ (x y z : List V) (k k' k'' : List (List UInt8)), (∀ v ∈ x, ∀ y z, TT (cmpV v y) (cmpV y z) (cmpV v z)) → TT (cmpM x k k' y) (cmpM y k' k'' z) (cmpM x k k'' z)
  | [], [], [], _, _, _, _ => by simp only [cmpM]; exact TT_zero
  | [], [], c :: z, _, _, _, _ => by simp only [cmpM]; exact (TT_ends (a := 0) (b := 0) (c := 0)).2.2.2.2.2
  | [], b :: y, [], _, _, _, _ => by simp only [cmpM]; exact (TT_ends (a := 0) (b := 0) (c := 0)).2.2.2.1
  | [], b :: y, c :: z, k, k', k'', _ => by rw [show cmpM [] k k' (b :: y) = -1 by rw [cmpM], show cmpM [] k k'' (c :: z) = -1 by rw [cmpM]]; exact (TT_ends (a := 0) (c := 0)).1
  | a :: x, [], [], _, _, _, _ => by simp only [cmpM]; exact (TT_ends (a := 0) (b := 0) (c := 0)).2.2.2.2.1
  | a :: x, [], c :: z, k, k', k'', _ => by rw [show cmpM (a :: x) k k' [] = 1 by rw [cmpM], show cmpM [] k' k'' (c :: z) = -1 by rw [cmpM]]; exact (TT_ends (a := 0) (b := 0)).2.2.1
  | a :: x, b :: y, [], k, k', k'', _ => by rw [show cmpM (b :: y) k' k'' [] = 1 by rw [cmpM], show cmpM (a :: x) k k'' [] = 1 by rw [cmpM]]; exact (TT_ends (b := 0) (c := 0)).2.1
  | a :: x, b :: y, c :: z, k, k', k'', h => by
    rw [cmpM_cons, cmpM_cons, cmpM_cons]
    exact TT_lx (cmpT_TT _ _ _) fun _ _ _ => TT_lx (h a (by simp) b c) fun _ _ _ => cmpM_TT x y z _ _ _ (fun v hv => h v (by simp [hv]))
theorem cmpV_TT (v : V) : ∀ y z, TT (cmpV v y) (cmpV y z) (cmpV v z) := by
  induction v using V.ind with
  | h v ih1 ih2 =>
    intro y z
    rw [cmpV_lx, cmpV_lx, cmpV_lx]
    refine TT_lx (TT_num _ _ _) fun h1 h2 _ => ?_
    have e1 := num_zero_iff.1 h1
    have e2 := num_zero_iff.1 h2
    unfold bodyV
    rw [← e1]
    split
    · exact TT_num _ _ _
    · split
      · exact TT_num _ _ _
      · split
        · exact cmpT_TT _ _ _
        · split
          · exact cmpL_TT _ _ _ ih1
          · split
            · exact cmpM_TT _ _ _ _ _ _ ih2
            · exact TT_zero
theorem cmpL_anti : ∀ x y : List V, (∀ v ∈ x, ∀ y, cmpV y v = -cmpV v y) → cmpL y x = -cmpL x y
  | [], [], _ => by rw [cmpL]; rfl
  | [], b :: y, _ => by rw [cmpL, cmpL]; rfl
  | a :: x, [], _ => by rw [cmpL, cmpL]
  | a :: x, b :: y, h => by
    rw [cmpL_cons, cmpL_cons]
    exact lx_anti (h a (by simp) b) (cmpL_anti x y (fun v hv => h v (by simp [hv])))
theorem cmpM_anti : ∀ (x y : List V) (k k' : List (List UInt8)), (∀ v ∈ x, ∀ y, cmpV y v = -cmpV v y) → cmpM y k' k x = -cmpM x k k' y
  | [], [], _, _, _ => by simp only [cmpM]; rfl
  | [], b :: y, _, _, _ => by simp only [cmpM]; rfl
  | a :: x, [], _, _, _ => by simp only [cmpM]
  | a :: x, b :: y, k, k', h => by
    rw [cmpM_cons, cmpM_cons]
    exact lx_anti (cmpT_anti _ _) (lx_anti (h a (by simp) b) (cmpM_anti x y _ _ (fun v hv => h v (by simp [hv]))))
theorem cmpV_anti (v : V) : ∀ y, cmpV y v = -cmpV v y := by
  induction v using V.ind with
  | h v ih1 ih2 =>
    intro y
    by_cases hk : v.k = y.k
    · rw [cmpV_lx, cmpV_lx]
      refine lx_anti (num_anti _ _) ?_
      unfold bodyV
      rw [← hk]
      split
      · exact num_anti _ _
      · split
        · exact num_anti _ _
        · split
          · exact cmpT_anti _ _
          · split
            · exact cmpL_anti _ _ ih1
            · split
              · exact cmpM_anti _ _ _ _ ih2
              · rfl
    · rw [cmpV_eq, cmpV_eq, if_pos hk, if_pos (fun e => hk e.symm)]
      exact num_anti _ _
theorem cmpV_self (v : V) : cmpV v v = 0 := by have := cmpV_anti v v; omega
theorem cmpL_sg : ∀ x y : List V, (∀ v ∈ x, ∀ y, sg (cmpV v y)) → sg (cmpL x y)
  | [], [], _ => by rw [cmpL]; exact .inr (.inl rfl)
  | [], b :: y, _ => by rw [cmpL]; exact .inl rfl
  | a :: x, [], _ => by rw [cmpL]; exact .inr (.inr rfl)
  | a :: x, b :: y, h => by
    rw [cmpL_cons]
    exact lx_sg (h a (by simp) b) (cmpL_sg x y (fun v hv => h v (by simp [hv])))
theorem cmpM_sg : ∀ (x y : List V) (k k' : List (List UInt8)), (∀ v ∈ x, ∀ y, sg (cmpV v y)) → sg (cmpM x k k' y)
  | [], [], _, _, _ => by simp only [cmpM]; exact .inr (.inl rfl)
  | [], b :: y, _, _, _ => by simp only [cmpM]; exact .inl rfl
  | a :: x, [], _, _, _ => by simp only [cmpM]; exact .inr (.inr rfl)
  | a :: x, b :: y, k, k', h => by
    rw [cmpM_cons]
    exact lx_sg (cmpT_sg _ _) (lx_sg (h a (by simp) b) (cmpM_sg x y _ _ (fun v hv => h v (by simp [hv]))))
theorem cmpV_sg (v : V) : ∀ y, sg (cmpV v y) := by
  induction v using V.ind with
  | h v ih1 ih2 =>
    intro y
    rw [cmpV_lx]
    refine lx_sg (num_sg _ _) ?_
    unfold bodyV
    split
    · exact num_sg _ _
    · split
      · exact num_sg _ _
      · split
        · exact cmpT_sg _ _
        · split
          · exact cmpL_sg _ _ ih1
          · split
            · exact cmpM_sg _ _ _ _ ih2
            · exact .inr (.inl rfl)
theorem cmpV_num (v y : V) : num (cmpV v y) 0 = cmpV v y := sg_num (cmpV_sg v y)
end Go.Proofs.YthcppegkpkgnpaaDoor
