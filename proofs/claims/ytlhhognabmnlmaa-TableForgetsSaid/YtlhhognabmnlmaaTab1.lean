/-
  Notes: the plain law of a list of all notes.
-/
import Derived.Test.YtlhhognabmnlmaaTab0
namespace Go.Proofs.Ytlhhognabmnlmaa
open Go Go.RowKit Go.Cx
set_option linter.unusedVariables false
/-- a note: a client, a version, its number -/
structure Nt where
  c : Int
  v : Int
  i : Int
/-- a client's notes -/
def ofC (c : Int) (L : List Nt) : List (Int × Int) := (L.filter (fun n => decide (n.c = c))).map (fun n => (n.v, n.i))
/-- whose the versions are, from fl on -/
def ownOf (fl : Int) (L : List Nt) : List (Int × Int) := (L.filter (fun n => decide (fl ≤ n.v))).map (fun n => (n.v, n.c))
def newestL (L : List Nt) : Int := (L.getLast?.map Nt.v).getD 0
/-- the last one's number -/
def lastW (q : Nt → Bool) (L : List Nt) : Int := ((L.filter q).getLast?.map Nt.i).getD 0
def lastL (c : Int) (L : List Nt) : Int := lastW (fun n => decide (n.c = c)) L
def atL (c v : Int) (L : List Nt) : Int := lastW (fun n => decide (n.c = c) && decide (n.v ≤ v)) L
def whoL (fl v : Int) (L : List Nt) : Option Nt := L.find? (fun n => decide (n.v = v) && decide (fl ≤ v))
def MX : Int := 4611686018427387903
structure NtOk (n : Nt) : Prop where
  c : 1 ≤ n.c ∧ n.c ≤ MX
  v : 1 ≤ n.v ∧ n.v ≤ MX
  i : 1 ≤ n.i ∧ n.i ≤ MX
/-- what notes may be -/
structure Good (L : List Nt) : Prop where
  rise : L.Pairwise (fun a b => a.v < b.v)
  ok : ∀ n ∈ L, NtOk n
  ids : ∀ c j (h : j < (ofC c L).length), (ofC c L)[j].2 = (j : Int) + 1
theorem Good.nil : Good [] := ⟨by simp, by simp, fun c j h => absurd h (by simp [ofC])⟩
theorem ofC_append (c : Int) (L : List Nt) (n : Nt) : ofC c (L ++ [n]) = ofC c L ++ (if n.c = c then [(n.v, n.i)] else []) := by
  simp only [ofC, List.filter_append, List.map_append]
  congr 1
  by_cases h : n.c = c
  · rw [if_pos h, List.filter_cons, if_pos (by simpa using h)]; rfl
  · rw [if_neg h, List.filter_cons, if_neg (by simpa using h)]; rfl
theorem ownOf_append (fl : Int) (L : List Nt) (n : Nt) : ownOf fl (L ++ [n]) = ownOf fl L ++ (if fl ≤ n.v then [(n.v, n.c)] else []) := by
  simp only [ownOf, List.filter_append, List.map_append]
  congr 1
  by_cases h : fl ≤ n.v
  · rw [if_pos h, List.filter_cons, if_pos (by simpa using h)]; rfl
  · rw [if_neg h, List.filter_cons, if_neg (by simpa using h)]; rfl
theorem newestL_append (L : List Nt) (n : Nt) : newestL (L ++ [n]) = n.v := by simp [newestL]
theorem lastW_append (q : Nt → Bool) (L : List Nt) (n : Nt) : lastW q (L ++ [n]) = if q n = true then n.i else lastW q L := by
  unfold lastW
  rw [List.filter_append]
  by_cases h : q n = true
  · rw [if_pos h, List.filter_cons, if_pos h]; simp
  · rw [if_neg h, List.filter_cons, if_neg h]; simp
theorem lastL_eq (c : Int) (L : List Nt) : lastL c L = ((ofC c L).getLast?.map Prod.snd).getD 0 := by
  unfold lastL lastW ofC
  rw [List.getLast?_map]
  cases (List.filter (fun n => decide (n.c = c)) L).getLast? <;> rfl
theorem atL_eq (c v : Int) (L : List Nt) : atL c v L = (((ofC c L).filter (fun p => decide (p.1 ≤ v))).getLast?.map Prod.snd).getD 0 := by
  unfold atL lastW ofC
  rw [List.filter_map, List.getLast?_map, List.filter_filter]
  have : (fun a : Nt => ((fun p : Int × Int => decide (p.1 ≤ v)) ∘ fun n : Nt => (n.v, n.i)) a && decide (a.c = c)) = fun n : Nt => decide (n.c = c) && decide (n.v ≤ v) := by
    funext n
    exact Bool.and_comm _ _
  rw [this]
  cases (List.filter (fun n : Nt => decide (n.c = c) && decide (n.v ≤ v)) L).getLast? <;> rfl
theorem ofC_rise {L : List Nt} (h : L.Pairwise (fun a b => a.v < b.v)) (c : Int) : (ofC c L).Pairwise (fun a b => a.1 < b.1) := by
  unfold ofC
  rw [List.pairwise_map]
  exact (h.filter _).imp (fun h => h)
theorem ownOf_rise {L : List Nt} (h : L.Pairwise (fun a b => a.v < b.v)) (fl : Int) : (ownOf fl L).Pairwise (fun a b => a.1 < b.1) := by
  unfold ownOf
  rw [List.pairwise_map]
  exact (h.filter _).imp (fun h => h)
theorem ofC_len (c : Int) (L : List Nt) : (ofC c L).length ≤ L.length := by
  unfold ofC
  rw [List.length_map]
  exact List.length_filter_le _ _
theorem ownOf_len (fl : Int) (L : List Nt) : (ownOf fl L).length ≤ L.length := by
  unfold ownOf
  rw [List.length_map]
  exact List.length_filter_le _ _
theorem cnt_le (v : Int) (l : List (Int × Int)) : cnt v l ≤ l.length := List.length_filter_le _ _
theorem cnt_mono {u v : Int} (h : u ≤ v) (l : List (Int × Int)) : cnt u l ≤ cnt v l := by
  unfold cnt
  rw [← List.countP_eq_length_filter, ← List.countP_eq_length_filter]
  exact List.countP_mono_left (fun p _ hp => by simp at hp ⊢; omega)
/-- those of a rising list that are v at most stand first -/
theorem take_cnt (v : Int) : ∀ {l : List (Int × Int)}, l.Pairwise (fun a b => a.1 < b.1) → l.filter (fun p => decide (p.1 ≤ v)) = l.take (cnt v l)
  | [], _ => rfl
  | a :: l, h => by
    rw [List.pairwise_cons] at h
    unfold cnt
    rw [List.filter_cons]
    by_cases e : a.1 ≤ v
    · rw [if_pos (by simpa using e), List.length_cons, List.take_succ_cons]
      have := take_cnt v h.2
      unfold cnt at this
      rw [← this]
    · rw [if_neg (by simpa using e)]
      have : l.filter (fun p => decide (p.1 ≤ v)) = [] := List.filter_eq_nil_iff.2 (fun p hp => by have := h.1 p hp; simp; omega)
      rw [this]; rfl
theorem getLast_take {α : Type} {l : List α} {n : Nat} (h0 : 0 < n) (h : n ≤ l.length) : (l.take n).getLast? = some (l[n - 1]'(by omega)) := by
  rw [List.getLast?_eq_getElem?, List.length_take, Nat.min_eq_left h, List.getElem?_take_of_lt (by omega)]
  exact List.getElem?_eq_getElem (by omega)
/-- where some of the first ones are let go, the last one that is v at most is the same -/
theorem last_drop {fl v : Int} {l : List (Int × Int)} {k : Nat} (hk : k = 0 ∨ k < cnt fl l) (hv : fl ≤ v) : ((l.drop k).filter (fun p => decide (p.1 ≤ v))).getLast? = (l.filter (fun p => decide (p.1 ≤ v))).getLast? := by
  rcases hk with rfl | hk
  · rfl
  · have h1 : l.filter (fun p => decide (p.1 ≤ v)) = (l.take k).filter (fun p => decide (p.1 ≤ v)) ++ (l.drop k).filter (fun p => decide (p.1 ≤ v)) := by rw [← List.filter_append, List.take_append_drop]
    have h2 : ((l.take k).filter (fun p => decide (p.1 ≤ v))).length ≤ k := by
      have := List.length_filter_le (fun p : Int × Int => decide (p.1 ≤ v)) (l.take k)
      rw [List.length_take] at this
      omega
    have h3 := cnt_mono hv l
    have h4 : cnt v l = ((l.take k).filter (fun p => decide (p.1 ≤ v))).length + ((l.drop k).filter (fun p => decide (p.1 ≤ v))).length := by
      unfold cnt; rw [h1, List.length_append]
    have h5 : (l.drop k).filter (fun p => decide (p.1 ≤ v)) ≠ [] := fun e => by
      rw [e] at h4
      simp only [List.length_nil] at h4
      omega
    rw [h1, List.getLast?_append]
    cases h6 : ((l.drop k).filter (fun p => decide (p.1 ≤ v))).getLast? with
    | none => exact absurd (List.getLast?_eq_none_iff.1 h6) h5
    | some x => rfl
theorem getLast_drop {α : Type} {l : List α} {k : Nat} (h : k < l.length) : (l.drop k).getLast? = l.getLast? := by
  rw [List.getLast?_drop, if_neg (by omega)]
/-- what the table tells of a client as of a version -/
theorem at_val {L : List Nt} {fl v c : Int} {k : Nat} (hr : L.Pairwise (fun a b => a.v < b.v)) (hk : k = 0 ∨ k < cnt fl (ofC c L)) (hv : fl ≤ v) :
    (∀ h : 0 < cnt v ((ofC c L).drop k), (((ofC c L).drop k)[cnt v ((ofC c L).drop k) - 1]'(by have := cnt_le v ((ofC c L).drop k); omega)).2 = atL c v L) ∧ (cnt v ((ofC c L).drop k) = 0 → atL c v L = 0) := by
  have h1 := take_cnt v ((ofC_rise hr c).sublist (List.drop_sublist k _))
  have h2 := last_drop hk hv
  rw [h1] at h2
  refine ⟨fun h => ?_, fun h => ?_⟩
  · rw [getLast_take h (cnt_le _ _)] at h2
    rw [atL_eq, ← h2]; rfl
  · rw [h, List.take_zero] at h2
    rw [atL_eq, ← h2]; rfl
theorem last_val {L : List Nt} {fl c : Int} {k : Nat} (hk : k = 0 ∨ k < cnt fl (ofC c L)) (h0 : ofC c L ≠ []) : 0 < ((ofC c L).drop k).length ∧ ∀ h : ((ofC c L).drop k).length - 1 < ((ofC c L).drop k).length, (((ofC c L).drop k)[((ofC c L).drop k).length - 1]'h).2 = lastL c L := by
  have hl : 0 < (ofC c L).length := List.length_pos_iff.2 h0
  have hkl : k < (ofC c L).length := by
    rcases hk with rfl | h
    · exact hl
    · exact Nat.lt_of_lt_of_le h (cnt_le _ _)
  refine ⟨by rw [List.length_drop]; omega, fun h => ?_⟩
  rw [lastL_eq, ← getLast_drop hkl, List.getLast?_eq_getElem?, List.getElem?_eq_getElem h]
  rfl
theorem newest_le {L : List Nt} (h : L.Pairwise (fun a b => a.v < b.v)) : ∀ n ∈ L, n.v ≤ newestL L := by
  intro n hn
  have hqq := List.getElem_of_mem hn
  obtain ⟨i, hi, rfl⟩ := hqq
  unfold newestL
  rw [List.getLast?_eq_getElem?, List.getElem?_eq_getElem (by omega)]
  show _ ≤ L[L.length - 1].v
  rcases Nat.lt_or_ge i (L.length - 1) with e | e
  · have := List.pairwise_iff_getElem.1 h i (L.length - 1) hi (by omega) e
    omega
  · have : i = L.length - 1 := by omega
    subst this; exact Int.le_refl _
theorem newest_rng {L : List Nt} (h : Good L) : 0 ≤ newestL L ∧ newestL L ≤ MX := by
  unfold newestL
  cases e : L.getLast? with
  | none => exact ⟨by simp, by simp [MX]⟩
  | some n =>
    have := (h.ok n (List.mem_of_getLast? e)).v
    show 0 ≤ n.v ∧ n.v ≤ MX
    omega
theorem last_rng {L : List Nt} (h : Good L) (c : Int) : 0 ≤ lastL c L ∧ lastL c L ≤ MX := by
  unfold lastL lastW
  cases e : (L.filter (fun n => decide (n.c = c))).getLast? with
  | none => exact ⟨by simp, by simp [MX]⟩
  | some n =>
    have := (h.ok n (List.mem_filter.1 (List.mem_of_getLast? e)).1).i
    show 0 ≤ n.i ∧ n.i ≤ MX
    omega
/-- which error a note has -/
def noteE (L : List Nt) (n : Nt) : Int :=
  if ¬ (0 < n.c ∧ n.c ≤ MX) then 2 else if ¬ (0 < n.v ∧ n.v ≤ MX) ∨ ¬ (0 < n.i ∧ n.i ≤ MX) then 7 else if n.v ≤ newestL L ∨ n.i ≤ lastL n.c L then 15 else if lastL n.c L + 1 < n.i then 14 else 0
theorem last_len {L : List Nt} (h : Good L) (c : Int) : lastL c L = ((ofC c L).length : Int) := by
  rw [lastL_eq]
  rcases Nat.eq_zero_or_pos (ofC c L).length with e | e
  · rw [List.eq_nil_of_length_eq_zero e]; rfl
  · rw [List.getLast?_eq_getElem?, List.getElem?_eq_getElem (by omega)]
    show (ofC c L)[(ofC c L).length - 1].2 = _
    rw [h.ids c _ (by omega)]
    omega
theorem Good.note {L : List Nt} {n : Nt} (h : Good L) (he : noteE L n = 0) : Good (L ++ [n]) ∧ NtOk n ∧ newestL L < n.v ∧ n.i = lastL n.c L + 1 := by
  unfold noteE at he
  split at he
  · omega
  · rename_i h1
    split at he
    · omega
    · rename_i h2
      split at he
      · omega
      · rename_i h3
        split at he
        · omega
        · rename_i h4
          have hn : NtOk n := ⟨by omega, by omega, by omega⟩
          refine ⟨⟨?_, ?_, ?_⟩, hn, by omega, by omega⟩
          · rw [List.pairwise_append]
            refine ⟨h.rise, by simp, fun a ha b hb => ?_⟩
            have := newest_le h.rise a ha
            simp at hb
            subst hb
            omega
          · intro x hx
            rcases List.mem_append.1 hx with hx | hx
            · exact h.ok x hx
            · simp at hx; rw [hx]; exact hn
          · intro c j hj
            have hl := last_len h c
            simp only [ofC_append] at hj ⊢
            by_cases e : n.c = c
            · simp only [if_pos e, List.length_append, List.length_cons, List.length_nil] at hj ⊢
              rcases Nat.lt_or_ge j (ofC c L).length with e2 | e2
              · rw [List.getElem_append_left e2]
                exact h.ids c j e2
              · rw [List.getElem_append_right e2]
                simp only [List.getElem_singleton]
                rw [e] at h3 h4
                omega
            · simp only [if_neg e, List.append_nil] at hj ⊢
              exact h.ids c j hj
end Go.Proofs.Ytlhhognabmnlmaa
