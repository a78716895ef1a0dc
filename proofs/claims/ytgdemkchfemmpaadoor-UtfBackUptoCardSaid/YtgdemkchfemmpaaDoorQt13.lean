/-
  The stage's theorem in plain: a text's quote is read as the text; what is read is a text.
-/
import Derived.Test.YtgdemkchfemmpaaDoorQt7
namespace Go.Proofs.YtgdemkchfemmpaaDoor
open Go Go.RowKit Go.Cx
set_option linter.unusedVariables false
set_option maxHeartbeats 4000000
theorem enc1 {r : Nat} (h : r < 128) : Lib.encodeRune (r : Int) = [UInt8.ofNat r] := enc_ascii r h
theorem byte_nat {z : Int} {n : Nat} (h : z = (n : Int)) : z.toNat.toUInt8 = UInt8.ofNat n := by subst h; rfl
theorem enc2 {r : Nat} (h1 : 128 ≤ r) (h2 : r < 2048) : Lib.encodeRune (r : Int) = [UInt8.ofNat (192 + r / 64), UInt8.ofNat (128 + r % 64)] := by
  unfold Lib.encodeRune
  rw [Lib.encodeRuneZ_two (by omega) (by omega)]
  simp only [List.map_cons, List.map_nil]
  rw [byte_nat (n := 192 + r / 64) (by omega), byte_nat (n := 128 + r % 64) (by omega)]
theorem enc3 {r : Nat} (h1 : 2048 ≤ r) (h2 : r < 65536) (hk : r < 55296 ∨ 57344 ≤ r) : Lib.encodeRune (r : Int) = [UInt8.ofNat (224 + r / 4096), UInt8.ofNat (128 + r / 64 % 64), UInt8.ofNat (128 + r % 64)] := by
  unfold Lib.encodeRune
  rw [Lib.encodeRuneZ_three (by omega)]
  simp only [List.map_cons, List.map_nil]
  rw [byte_nat (n := 224 + r / 4096) (by omega), byte_nat (n := 128 + r / 64 % 64) (by omega), byte_nat (n := 128 + r % 64) (by omega)]
theorem enc4 {r : Nat} (h1 : 65536 ≤ r) (h2 : r ≤ 1114111) : Lib.encodeRune (r : Int) = [UInt8.ofNat (240 + r / 262144), UInt8.ofNat (128 + r / 4096 % 64), UInt8.ofNat (128 + r / 64 % 64), UInt8.ofNat (128 + r % 64)] := by
  unfold Lib.encodeRune
  rw [Lib.encodeRuneZ_four (by omega) (by omega)]
  simp only [List.map_cons, List.map_nil]
  rw [byte_nat (n := 240 + r / 262144) (by omega), byte_nat (n := 128 + r / 4096 % 64) (by omega), byte_nat (n := 128 + r / 64 % 64) (by omega), byte_nat (n := 128 + r % 64) (by omega)]
theorem ofNat_nat {n : Nat} (h : n < 256) : (UInt8.ofNat n).toNat = n := by rw [UInt8.toNat_ofNat']; omega
/-- a rune's bytes are read as the rune -/
theorem atL_enc {r : Nat} (h : okR r) (x : List UInt8) : atL (Lib.encodeRune (r : Int) ++ x) = (r, (Lib.encodeRune (r : Int)).length) := by
  unfold okR at h
  obtain ⟨hr, hk⟩ := h
  by_cases h1 : r < 128
  · rw [enc1 h1]
    have e0 : bt ([UInt8.ofNat r] ++ x) 0 = r := ofNat_nat (by omega)
    rw [atL_one _ (by simp) (by omega), e0]
    rfl
  by_cases h2 : r < 2048
  · rw [enc2 (by omega) h2]
    have e0 : bt ([UInt8.ofNat (192 + r / 64), UInt8.ofNat (128 + r % 64)] ++ x) 0 = 192 + r / 64 := ofNat_nat (by omega)
    have e1 : bt ([UInt8.ofNat (192 + r / 64), UInt8.ofNat (128 + r % 64)] ++ x) 1 = 128 + r % 64 := ofNat_nat (by omega)
    generalize hl : [UInt8.ofNat (192 + r / 64), UInt8.ofNat (128 + r % 64)] ++ x = l at *
    have hll : 2 ≤ l.length := by rw [← hl]; simp
    have hend := (atL_end l (by rintro rfl; simp at hll) (n := 2) (r := (bt l 0 : Int) - 192) (least := 128) (.inl ⟨by omega, by omega, rfl, rfl, rfl⟩) hll (fun i hi1 hi2 => by have : i = 1 := (by omega); subst this; omega)).2
    have hc : contR l ((bt l 0 : Int) - 192) (2 - 1) = (r : Int) := by simp only [contR, Nat.reduceAdd, Nat.reduceSub]; omega
    rw [hc, if_neg (by omega)] at hend
    rw [hend]
    simp
  by_cases h3 : r < 65536
  · rw [enc3 (by omega) h3 hk]
    have e0 : bt ([UInt8.ofNat (224 + r / 4096), UInt8.ofNat (128 + r / 64 % 64), UInt8.ofNat (128 + r % 64)] ++ x) 0 = 224 + r / 4096 := ofNat_nat (by omega)
    have e1 : bt ([UInt8.ofNat (224 + r / 4096), UInt8.ofNat (128 + r / 64 % 64), UInt8.ofNat (128 + r % 64)] ++ x) 1 = 128 + r / 64 % 64 := ofNat_nat (by omega)
    have e2 : bt ([UInt8.ofNat (224 + r / 4096), UInt8.ofNat (128 + r / 64 % 64), UInt8.ofNat (128 + r % 64)] ++ x) 2 = 128 + r % 64 := ofNat_nat (by omega)
    generalize hl : [UInt8.ofNat (224 + r / 4096), UInt8.ofNat (128 + r / 64 % 64), UInt8.ofNat (128 + r % 64)] ++ x = l at *
    have hll : 3 ≤ l.length := by rw [← hl]; simp
    have hend := (atL_end l (by rintro rfl; simp at hll) (n := 3) (r := (bt l 0 : Int) - 224) (least := 2048) (.inr (.inl ⟨by omega, by omega, rfl, rfl, rfl⟩)) hll (fun i hi1 hi2 => by have : i = 1 ∨ i = 2 := (by omega); rcases this with rfl | rfl <;> omega)).2
    have hc : contR l ((bt l 0 : Int) - 224) (3 - 1) = (r : Int) := by simp only [contR, Nat.reduceAdd, Nat.reduceSub]; omega
    rw [hc, if_neg (by omega)] at hend
    rw [hend]
    simp
  · rw [enc4 (by omega) hr]
    have e0 : bt ([UInt8.ofNat (240 + r / 262144), UInt8.ofNat (128 + r / 4096 % 64), UInt8.ofNat (128 + r / 64 % 64), UInt8.ofNat (128 + r % 64)] ++ x) 0 = 240 + r / 262144 := ofNat_nat (by omega)
    have e1 : bt ([UInt8.ofNat (240 + r / 262144), UInt8.ofNat (128 + r / 4096 % 64), UInt8.ofNat (128 + r / 64 % 64), UInt8.ofNat (128 + r % 64)] ++ x) 1 = 128 + r / 4096 % 64 := ofNat_nat (by omega)
    have e2 : bt ([UInt8.ofNat (240 + r / 262144), UInt8.ofNat (128 + r / 4096 % 64), UInt8.ofNat (128 + r / 64 % 64), UInt8.ofNat (128 + r % 64)] ++ x) 2 = 128 + r / 64 % 64 := ofNat_nat (by omega)
    have e3 : bt ([UInt8.ofNat (240 + r / 262144), UInt8.ofNat (128 + r / 4096 % 64), UInt8.ofNat (128 + r / 64 % 64), UInt8.ofNat (128 + r % 64)] ++ x) 3 = 128 + r % 64 := ofNat_nat (by omega)
    generalize hl : [UInt8.ofNat (240 + r / 262144), UInt8.ofNat (128 + r / 4096 % 64), UInt8.ofNat (128 + r / 64 % 64), UInt8.ofNat (128 + r % 64)] ++ x = l at *
    have hll : 4 ≤ l.length := by rw [← hl]; simp
    have hend := (atL_end l (by rintro rfl; simp at hll) (n := 4) (r := (bt l 0 : Int) - 240) (least := 65536) (.inr (.inr ⟨by omega, by omega, rfl, rfl, rfl⟩)) hll (fun i hi1 hi2 => by have : i = 1 ∨ i = 2 ∨ i = 3 := (by omega); rcases this with rfl | rfl | rfl <;> omega)).2
    have hc : contR l ((bt l 0 : Int) - 240) (4 - 1) = (r : Int) := by simp only [contR, Nat.reduceAdd, Nat.reduceSub]; omega
    rw [hc, if_neg (by omega)] at hend
    rw [hend]
    simp
theorem dig_hex {d : Nat} (hd : d < 16) : dig (hexDigs.getD d 0).toNat = some d := by
  have h : ∀ d : Fin 16, dig (hexDigs.getD d.1 0).toNat = some d.1 := by decide +kernel
  exact h ⟨d, hd⟩
theorem let_run {r c : Nat} (h : letOf r = some c) : runOf c = some r ∧ c ≠ 117 ∧ c < 128 ∧ 34 ≤ c := by
  unfold letOf at h
  repeat' split at h
  all_goals first | (cases h; subst_vars; decide) | cases h
/-- what stands for a rune is read as the rune -/
theorem stepU_q {r : Nat} (h : okR r) (x : List UInt8) : stepU (qOf r ++ x) = .go (Lib.encodeRune (r : Int)) (qOf r).length := by
  by_cases h1 : selfR r = true
  · have hq : qOf r = Lib.encodeRune (r : Int) := by unfold qOf; rw [if_pos h1]
    rw [hq]
    have ha := atL_enc h x
    have hl := enc_len r
    have hn : (atL (Lib.encodeRune (r : Int) ++ x)).2 ≠ 0 := by rw [ha]; show (Lib.encodeRune (r : Int)).length ≠ 0; omega
    rw [stepU_self hn (by rw [ha]; exact h1), ha]
    simp
  · have hself : selfR r = false := by simpa using h1
    cases hl : letOf r with
    | some c =>
      have hq : qOf r = [92, UInt8.ofNat c] := by unfold qOf; rw [if_neg h1, hl]
      have hqq := let_run hl
      obtain ⟨hc1, hc2, hc3, _⟩ := hqq
      rw [hq]
      have e0 : bt ([92, UInt8.ofNat c] ++ x) 0 = 92 := rfl
      have e1 : bt ([92, UInt8.ofNat c] ++ x) 1 = c := ofNat_nat (by omega)
      have hx : hexL ([92, UInt8.ofNat c] ++ x) = none := by unfold hexL; rw [if_neg (by omega)]
      have hs : escS ([92, UInt8.ofNat c] ++ x) = (r, 2, 0) := by
        unfold escS
        rw [hx]
        simp only
        rw [if_pos (by simp), e1, hc1]
      unfold stepU
      rw [if_neg (by simp), if_neg (by omega), if_pos e0, hs]
      rfl
    | none =>
      have hr32 : r < 32 := by
        unfold selfR at hself
        have h1' := of_decide_eq_false hself
        unfold letOf at hl
        repeat' split at hl
        all_goals first | cases hl; done | omega
      have hq : qOf r = [92, 117, 48, 48, hexDigs.getD (r / 16) 0, hexDigs.getD (r % 16) 0] := by unfold qOf; rw [if_neg h1, hl]
      have d4 := dig_hex (d := r / 16) (by omega)
      have d5 := dig_hex (d := r % 16) (by omega)
      rw [hq]
      have e0 : bt ([92, 117, 48, 48, hexDigs.getD (r / 16) 0, hexDigs.getD (r % 16) 0] ++ x) 0 = 92 := rfl
      have hx : hexL ([92, 117, 48, 48, hexDigs.getD (r / 16) 0, hexDigs.getD (r % 16) 0] ++ x) = some r := by
        have e2 : bt ([92, 117, 48, 48, hexDigs.getD (r / 16) 0, hexDigs.getD (r % 16) 0] ++ x) 2 = 48 := rfl
        have e3 : bt ([92, 117, 48, 48, hexDigs.getD (r / 16) 0, hexDigs.getD (r % 16) 0] ++ x) 3 = 48 := rfl
        have e4 : bt ([92, 117, 48, 48, hexDigs.getD (r / 16) 0, hexDigs.getD (r % 16) 0] ++ x) 4 = (hexDigs.getD (r / 16) 0).toNat := rfl
        have e5 : bt ([92, 117, 48, 48, hexDigs.getD (r / 16) 0, hexDigs.getD (r % 16) 0] ++ x) 5 = (hexDigs.getD (r % 16) 0).toNat := rfl
        have dz : dig 48 = some 0 := rfl
        unfold hexL
        rw [if_pos ⟨by simp, rfl, rfl⟩]
        simp only [hexF, Nat.zero_add, Nat.reduceAdd, e2, e3, e4, e5, d4, d5, dz]
        congr 1
        omega
      have hs : escS ([92, 117, 48, 48, hexDigs.getD (r / 16) 0, hexDigs.getD (r % 16) 0] ++ x) = (r, 6, 0) := by
        unfold escS
        rw [hx]
        simp only
        unfold pairS
        rw [if_pos (by omega)]
      unfold stepU
      rw [if_neg (by simp), if_neg (by omega), if_pos e0, hs]
      rfl
theorem validD_go {s : List UInt8} (hv : Lib.validD s = true) (h : s ≠ []) : (atL s).2 ≠ 0 ∧ Lib.validD (s.drop (atL s).2) = true := by
  rw [validD_atL s h] at hv
  by_cases h0 : (atL s).2 = 0
  · rw [if_pos h0] at hv; cases hv
  · rw [if_neg h0] at hv; exact ⟨h0, hv⟩
/-- a text's quote is read as the text -/
theorem unq_quote (b : List UInt8) (s : List UInt8) : ∀ i, Lib.validD s = true → unq (qAll (rns s i) ++ 34 :: b) = (s, (qAll (rns s i)).length + 1, 0) := by
  induction hn : s.length using Nat.strongRecOn generalizing s with
  | _ k ih =>
    intro i hv
    by_cases h : s = []
    · subst h
      rw [rns_stop i rfl]
      exact unq_fin rfl
    · have hqq := validD_go hv h
      obtain ⟨h0, hv2⟩ := hqq
      have hle := atL_le s
      have hsh := atL_shape s h0
      have hq : qAll (rns s i) = qOf (atL s).1 ++ qAll (rns (s.drop (atL s).2) (i + (atL s).2)) := by
        rw [rns_go i h0]
        simp only [qAll, List.flatMap_cons]
        rw [cR_id hsh.1]
      have := ih (s.drop (atL s).2).length (by rw [List.length_drop]; omega) _ rfl (i + (atL s).2) hv2
      rw [hq, List.append_assoc, unq_go (stepU_q hsh.1 _), List.drop_left, this]
      unfold preU
      simp only [if_true]
      rw [hsh.2.2.1, List.take_append_drop, List.length_append]
      simp only [Prod.mk.injEq, true_and, and_true]
      omega
theorem validD_enc {r : Nat} (h : okR r) (t : List UInt8) : Lib.validD (Lib.encodeRune (r : Int) ++ t) = Lib.validD t := by
  have hl := enc_len r
  have hne : Lib.encodeRune (r : Int) ++ t ≠ [] := by
    intro e
    have := congrArg List.length e
    rw [List.length_append, List.length_nil] at this
    omega
  rw [validD_atL _ hne, atL_enc h t]
  show (if (Lib.encodeRune (r : Int)).length = 0 then false else Lib.validD ((Lib.encodeRune (r : Int) ++ t).drop (Lib.encodeRune (r : Int)).length)) = _
  rw [if_neg (by omega), List.drop_left]
theorem stepU_text {l b : List UInt8} {n : Nat} (h : stepU l = .go b n) : ∃ r, okR r ∧ b = Lib.encodeRune (r : Int) := by
  unfold stepU at h
  by_cases h0 : l = []
  · rw [if_pos h0] at h; cases h
  rw [if_neg h0] at h
  by_cases h1 : bt l 0 = 34
  · rw [if_pos h1] at h; cases h
  rw [if_neg h1] at h
  by_cases h2 : bt l 0 = 92
  · rw [if_pos h2] at h
    by_cases h3 : (escS l).2.2 = 0
    · rw [if_pos h3] at h
      cases h
      exact ⟨_, (escS_ok h3).1, rfl⟩
    · rw [if_neg h3] at h; cases h
  rw [if_neg h2] at h
  by_cases h3 : bt l 0 < 32
  · rw [if_pos h3] at h; cases h
  rw [if_neg h3] at h
  by_cases h4 : (atL l).2 = 0
  · rw [if_pos h4] at h; cases h
  rw [if_neg h4] at h
  cases h
  have hsh := atL_shape l h4
  exact ⟨_, hsh.1, hsh.2.2.1.symm⟩
/-- what is read is a text -/
theorem unq_valid (l : List UInt8) : (unq l).2.2 = 0 → Lib.validD (unq l).1 = true := by
  induction hn : l.length using Nat.strongRecOn generalizing l with
  | _ k ih =>
    intro h
    cases hs : stepU l with
    | fin => rw [unq_fin hs]; exact Lib.validD_nil
    | bad c => rw [unq_bad hs] at h; exact absurd h (stepU_bad hs)
    | go b n =>
      have hg := stepU_go hs
      have hqq := stepU_text hs
      obtain ⟨r, hr, rfl⟩ := hqq
      rw [unq_go hs] at h ⊢
      have h' : (unq (l.drop n)).2.2 = 0 := h
      have := ih (l.drop n).length (by rw [List.length_drop]; omega) _ rfl h'
      unfold preU
      simp only [h', if_true]
      rw [validD_enc hr, this]
theorem unq_len (l : List UInt8) : (unq l).1.length ≤ l.length := by
  induction hn : l.length using Nat.strongRecOn generalizing l with
  | _ k ih =>
    cases hs : stepU l with
    | fin => rw [unq_fin hs]; exact Nat.zero_le _
    | bad c => rw [unq_bad hs]; exact Nat.zero_le _
    | go b n =>
      have hg := stepU_go hs
      have := ih (l.drop n).length (by rw [List.length_drop]; omega) _ rfl
      rw [List.length_drop] at this
      rw [unq_go hs]
      unfold preU
      simp only
      split
      · rw [List.length_append]; omega
      · exact Nat.zero_le _
theorem quote_back (a b s : List UInt8) (hv : Lib.validD s = true) : unquoteS (a ++ quoteL s ++ b) (a.length : Int) = (s, a.length + (quoteL s).length, 0) := by
  have e1 : a ++ quoteL s ++ b = a ++ (34 :: (qAll (rns s 0) ++ 34 :: b)) := by simp [quoteL]
  have e2 : (a ++ (34 :: (qAll (rns s 0) ++ 34 :: b))).drop a.length = 34 :: (qAll (rns s 0) ++ 34 :: b) := List.drop_left
  have e3 : (a ++ (34 :: (qAll (rns s 0) ++ 34 :: b))).drop (a.length + 1) = qAll (rns s 0) ++ 34 :: b := by rw [← List.drop_drop, e2]; rfl
  have hu := unq_quote b s 0 hv
  rw [e1]
  unfold unquoteS
  rw [if_neg (by simp only [List.length_append]; omega), Int.toNat_natCast, e2, e3, if_neg (by simp [bt]), hu]
  simp only [quoteL, Prod.mk.injEq, true_and, and_true]
  simp only [List.length_append, List.length_cons, List.length_nil]
  omega
theorem unquote_valid {x u : List UInt8} {a : Int} {m : Nat} (h : unquoteS x a = (u, m, 0)) : Lib.validD u = true := by
  unfold unquoteS at h
  by_cases h0 : a < 0 ∨ (x.length : Int) < a
  · rw [if_pos h0] at h; cases h
  · rw [if_neg h0] at h
    by_cases h1 : x.drop a.toNat = [] ∨ bt (x.drop a.toNat) 0 ≠ 34
    · rw [if_pos h1] at h; cases h
    · rw [if_neg h1] at h
      simp only [Prod.mk.injEq] at h
      rw [← h.1]
      exact unq_valid _ h.2.2
theorem unquote_len {x u : List UInt8} {a : Int} {m c : Nat} (h : unquoteS x a = (u, m, c)) : u.length ≤ x.length := by
  unfold unquoteS at h
  by_cases h0 : a < 0 ∨ (x.length : Int) < a
  · rw [if_pos h0] at h; cases h; exact Nat.zero_le _
  · rw [if_neg h0] at h
    by_cases h1 : x.drop a.toNat = [] ∨ bt (x.drop a.toNat) 0 ≠ 34
    · rw [if_pos h1] at h; cases h; exact Nat.zero_le _
    · rw [if_neg h1] at h
      simp only [Prod.mk.injEq] at h
      rw [← h.1]
      have := unq_len (x.drop (a.toNat + 1))
      rw [List.length_drop] at this
      omega
/-- a quote holds no control sign -/
theorem enc_ge {r : Nat} (h : okR r) (h32 : 32 ≤ r) : ∀ x ∈ Lib.encodeRune (r : Int), 32 ≤ x.toNat := by
  unfold okR at h
  obtain ⟨hr, hk⟩ := h
  by_cases h1 : r < 128
  · rw [enc1 h1]
    intro x hx
    simp only [List.mem_singleton] at hx
    subst hx
    rw [ofNat_nat (by omega)]
    exact h32
  by_cases h2 : r < 2048
  · rw [enc2 (by omega) h2]
    intro x hx
    simp only [List.mem_cons, List.mem_nil_iff, or_false] at hx
    rcases hx with rfl | rfl <;> rw [ofNat_nat (by omega)] <;> omega
  by_cases h3 : r < 65536
  · rw [enc3 (by omega) h3 hk]
    intro x hx
    simp only [List.mem_cons, List.mem_nil_iff, or_false] at hx
    rcases hx with rfl | rfl | rfl <;> rw [ofNat_nat (by omega)] <;> omega
  · rw [enc4 (by omega) hr]
    intro x hx
    simp only [List.mem_cons, List.mem_nil_iff, or_false] at hx
    rcases hx with rfl | rfl | rfl | rfl <;> rw [ofNat_nat (by omega)] <;> omega
theorem hexDigs_ge {d : Nat} (hd : d < 16) : 32 ≤ (hexDigs.getD d 0).toNat := by
  have h : ∀ d : Fin 16, 32 ≤ (hexDigs.getD d.1 0).toNat := by decide +kernel
  exact h ⟨d, hd⟩
theorem qOf_ge {r : Nat} (h : okR r) : ∀ x ∈ qOf r, 32 ≤ x.toNat := by
  by_cases h1 : selfR r = true
  · have hq : qOf r = Lib.encodeRune (r : Int) := by unfold qOf; rw [if_pos h1]
    rw [hq]
    unfold selfR at h1
    exact enc_ge h (of_decide_eq_true h1).1
  · cases hl : letOf r with
    | some c =>
      have hq : qOf r = [92, UInt8.ofNat c] := by unfold qOf; rw [if_neg h1, hl]
      have hqq := let_run hl
      obtain ⟨_, _, hc3, hc4⟩ := hqq
      rw [hq]
      intro x hx
      simp only [List.mem_cons, List.mem_nil_iff, or_false] at hx
      rcases hx with rfl | rfl
      · decide
      · rw [ofNat_nat (by omega)]; omega
    | none =>
      have hr32 : r < 32 := by
        have hself : selfR r = false := by simpa using h1
        unfold selfR at hself
        have h1' := of_decide_eq_false hself
        unfold letOf at hl
        repeat' split at hl
        all_goals first | cases hl; done | omega
      have hq : qOf r = [92, 117, 48, 48, hexDigs.getD (r / 16) 0, hexDigs.getD (r % 16) 0] := by unfold qOf; rw [if_neg h1, hl]
      rw [hq]
      intro x hx
      simp only [List.mem_cons, List.mem_nil_iff, or_false] at hx
      rcases hx with rfl | rfl | rfl | rfl | rfl | rfl
      · decide
      · decide
      · decide
      · decide
      · exact hexDigs_ge (by omega)
      · exact hexDigs_ge (by omega)
theorem quote_ge (s : List UInt8) : ∀ x ∈ quoteL s, 32 ≤ x.toNat := by
  intro x hx
  simp only [quoteL, List.cons_append, List.mem_cons, List.mem_append, List.mem_nil_iff, or_false] at hx
  rcases hx with rfl | hx | rfl
  · decide
  · have hqq := List.mem_flatMap.1 hx
    obtain ⟨p, _, hp2⟩ := hqq
    exact qOf_ge (cR_ok p.2) x hp2
  · decide
theorem quoteL_len (s : List UInt8) : (quoteL s).length ≤ 6 * s.length + 2 := by
  have h1 := qAll_len (rns s 0)
  have h2 := rns_len s 0
  simp only [quoteL, List.length_append, List.length_cons, List.length_nil]
  omega
end Go.Proofs.YtgdemkchfemmpaaDoor
