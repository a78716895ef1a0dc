/-
  Shapes: plain laws.
-/
import Derived.Test.YtpefeefmdlfafaaVal16
namespace Go.Proofs.Ytpefeefmdlfafaa
open Go Go.RowKit Go.Cx
set_option linter.unusedVariables false
set_option maxHeartbeats 1000000
abbrev En := List UInt8 × V
/-- a shape: its entries, its kids -/
inductive Sh where
  | mk (es : List En) (kids : List Sh) : Sh
namespace Sh
def es : Sh → List En | mk a _ => a
def kids : Sh → List Sh | mk _ b => b
theorem ind {Q : Sh → Prop} (h : ∀ s : Sh, (∀ x ∈ s.kids, Q x) → Q s) : ∀ s, Q s
  | mk a b => h _ (fun x hx => ind h x)
termination_by s => SizeOf.sizeOf s
decreasing_by
  have := List.sizeOf_lt_of_mem (show x ∈ b from hx); simp only [mk.sizeOf_spec]; omega
end Sh
mutual
/-- a shape's entries, from the left -/
def flatS : Sh → List En
  | .mk es kids => if kids.length = 0 then es else flatL kids
def flatL : List Sh → List En
  | [] => []
  | k :: ks => flatS k ++ flatL ks
end
mutual
def nodesS : Sh → Nat
  | .mk _ kids => 1 + nodesL kids
def nodesL : List Sh → Nat
  | [] => 0
  | k :: ks => nodesS k + nodesL ks
end
def hS : Sh → Nat
  | .mk _ [] => 0
  | .mk _ (k :: _) => 1 + hS k
def sizeS (s : Sh) : Nat := s.es.length + s.kids.length
mutual
def soundS : Sh → Bool → Bool
  | .mk es kids, root => (root || decide (4 ≤ es.length + kids.length)) && soundL kids
def soundL : List Sh → Bool
  | [] => true
  | k :: ks => soundS k false && soundL ks
end
/-- does each one go ahead of the one behind it? -/
def rise (l : List En) : Prop := ∀ i (h : i + 1 < l.length), slt (l[i]'(by omega)).1 l[i + 1].1 = true
def firstS (l : List En) : List UInt8 := (l.head?.map Prod.fst).getD []
def lastS (l : List En) : List UInt8 := (l.getLast?.map Prod.fst).getD []
/-- may these stand together? -/
def innerOk (l : List Sh) : Prop := (2 ≤ l.length ∧ l.length ≤ 8) ∧ (∀ k ∈ l, flatS k ≠ [] ∧ some (hS k) = (l.head?.map hS)) ∧ ∀ i (h : i + 1 < l.length), slt (lastS (flatS (l[i]'(by omega)))) (firstS (flatS l[i + 1])) = true
/-- is there a node of it? -/
inductive OkS : Sh → Prop where
  | leaf {es : List En} (h : es.length ≤ 8) (hr : rise es) : OkS (.mk es [])
  | inner {kids : List Sh} (h : ∀ k ∈ kids, OkS k) (hi : innerOk kids) : OkS (.mk [] kids)
/-- what the document asks of a shape -/
inductive MayS : Sh → Prop where
  | leaf {es : List En} (h : es.length ≤ 8) (hr : rise es) : MayS (.mk es [])
  | inner {kids : List Sh} (h : ∀ k ∈ kids, MayS k) (h2 : 2 ≤ kids.length ∧ kids.length ≤ 8) (h3 : ∀ k ∈ kids, flatS k ≠ [] ∧ some (hS k) = (kids.head?.map hS)) (hr : rise (flatL kids)) : MayS (.mk [] kids)
theorem flatS_leaf (es : List En) : flatS (.mk es []) = es := by rw [flatS]; rfl
theorem flatS_inner {es : List En} {kids : List Sh} (h : kids.length ≠ 0) : flatS (.mk es kids) = flatL kids := by rw [flatS, if_neg h]
theorem flatL_append : ∀ a b : List Sh, flatL (a ++ b) = flatL a ++ flatL b
  | [], b => by rw [flatL]; rfl
  | k :: a, b => by rw [List.cons_append, flatL, flatL, flatL_append a b, List.append_assoc]
theorem flatL_mem {k : Sh} : ∀ {l : List Sh}, k ∈ l → (flatS k).length ≤ (flatL l).length
  | x :: l, h => by
    rw [flatL, List.length_append]
    rcases List.mem_cons.1 h with rfl | h
    · omega
    · have := flatL_mem h; omega
theorem nodesL_mem {k : Sh} : ∀ {l : List Sh}, k ∈ l → nodesS k ≤ nodesL l
  | x :: l, h => by
    rw [nodesL]
    rcases List.mem_cons.1 h with rfl | h
    · omega
    · have := nodesL_mem h; omega
theorem nodesL_append : ∀ a b : List Sh, nodesL (a ++ b) = nodesL a + nodesL b
  | [], b => by rw [nodesL]; simp
  | k :: a, b => by rw [List.cons_append, nodesL, nodesL, nodesL_append a b]; omega
theorem rise_app {a b : List En} (ha : a ≠ []) (hb : b ≠ []) : rise (a ++ b) ↔ rise a ∧ rise b ∧ slt (lastS a) (firstS b) = true := by
  have la : 0 < a.length := List.length_pos_iff.2 ha
  have lb : 0 < b.length := List.length_pos_iff.2 hb
  have e1 : lastS a = (a[a.length - 1]'(by omega)).1 := by
    unfold lastS
    rw [List.getLast?_eq_getElem?, List.getElem?_eq_getElem (by omega)]
    rfl
  have e2 : firstS b = (b[0]'lb).1 := by
    unfold firstS
    rw [List.head?_eq_getElem?, List.getElem?_eq_getElem lb]
    rfl
  constructor
  · intro h
    refine ⟨fun i hi => ?_, fun i hi => ?_, ?_⟩
    · have := h i (by rw [List.length_append]; omega)
      rwa [List.getElem_append_left (by omega), List.getElem_append_left hi] at this
    · have := h (a.length + i) (by rw [List.length_append]; omega)
      rw [List.getElem_append_right (by omega), List.getElem_append_right (by omega)] at this
      simp only [show a.length + i - a.length = i by omega, show a.length + i + 1 - a.length = i + 1 by omega] at this
      exact this
    · have := h (a.length - 1) (by rw [List.length_append]; omega)
      rw [List.getElem_append_left (by omega), List.getElem_append_right (by omega)] at this
      simp only [show a.length - 1 + 1 - a.length = 0 by omega] at this
      rw [e1, e2]; exact this
  · rintro ⟨h1, h2, h3⟩ i hi
    rw [List.length_append] at hi
    by_cases c1 : i + 1 < a.length
    · rw [List.getElem_append_left (by omega), List.getElem_append_left c1]
      exact h1 i c1
    · by_cases c2 : i < a.length
      · have e : i = a.length - 1 := by omega
        rw [List.getElem_append_left c2, List.getElem_append_right (by omega)]
        simp only [show i + 1 - a.length = 0 by omega]
        subst e
        rw [e1, e2] at h3; exact h3
      · rw [List.getElem_append_right (by omega), List.getElem_append_right (by omega)]
        simp only [show i + 1 - a.length = i - a.length + 1 by omega]
        exact h2 (i - a.length) (by omega)
theorem firstS_app {a b : List En} (ha : a ≠ []) : firstS (a ++ b) = firstS a := by
  cases a with
  | nil => exact absurd rfl ha
  | cons x a => rfl
theorem lastS_app {a b : List En} (hb : b ≠ []) : lastS (a ++ b) = lastS b := by
  unfold lastS
  rw [List.getLast?_append, List.getLast?_eq_some_getLast hb]
  rfl
/-- a row of kids is rising just if each one is, and each goes ahead of the one behind it -/
theorem rise_flat : ∀ l : List Sh, (∀ k ∈ l, flatS k ≠ [] ∧ rise (flatS k)) → (rise (flatL l) ↔ ∀ i (h : i + 1 < l.length), slt (lastS (flatS (l[i]'(by omega)))) (firstS (flatS l[i + 1])) = true)
  | [], _ => by
    rw [flatL]
    exact ⟨fun _ i h => absurd h (by simp), fun _ i h => absurd h (by simp)⟩
  | [k], hk => by
    rw [flatL, flatL, List.append_nil]
    exact ⟨fun _ i h => absurd h (by simp), fun _ => (hk k (by simp)).2⟩
  | k :: k2 :: l, hk => by
    have ih := rise_flat (k2 :: l) (fun x hx => hk x (by simp [List.mem_cons.1 hx]))
    have h2 := (hk k2 (by simp)).1
    have hne : flatL (k2 :: l) ≠ [] := by rw [flatL]; simp [h2]
    have hf : firstS (flatL (k2 :: l)) = firstS (flatS k2) := by rw [flatL, firstS_app h2]
    rw [flatL, rise_app (hk k (by simp)).1 hne, ih, hf]
    constructor
    · rintro ⟨_, hb, hc⟩ i hi
      cases i with
      | zero => exact hc
      | succ i => exact hb i (by simpa using hi)
    · intro h
      exact ⟨(hk k (by simp)).2, fun i hi => h (i + 1) (by simpa using hi), h 0 (by simp)⟩
theorem okS_rise : ∀ {s : Sh}, OkS s → rise (flatS s) := by
  intro s
  induction s using Sh.ind with
  | h s ih =>
    intro h
    cases h with
    | leaf h hr => rw [flatS_leaf]; exact hr
    | @inner kids h hi =>
      rw [flatS_inner (by have := hi.1.1; omega)]
      exact (rise_flat kids (fun k hk => ⟨(hi.2.1 k hk).1, ih k hk (h k hk)⟩)).2 hi.2.2
theorem ok_may : ∀ {s : Sh}, OkS s ↔ MayS s := by
  intro s
  induction s using Sh.ind with
  | h s ih =>
    constructor
    · intro h
      cases h with
      | leaf h hr => exact .leaf h hr
      | @inner kids h hi => exact .inner (fun k hk => (ih k hk).1 (h k hk)) hi.1 hi.2.1 ((rise_flat kids (fun k hk => ⟨(hi.2.1 k hk).1, okS_rise (h k hk)⟩)).2 hi.2.2)
    · intro h
      cases h with
      | leaf h hr => exact .leaf h hr
      | @inner kids h h2 h3 hr => exact .inner (fun k hk => (ih k hk).2 (h k hk)) ⟨h2, h3, (rise_flat kids (fun k hk => ⟨(h3 k hk).1, okS_rise ((ih k hk).2 (h k hk))⟩)).1 hr⟩
/-- is a shape small: so many nodes, so deep -/
def smallS : Nat → Sh → Prop
  | 0, _ => False
  | d + 1, s => s.es.length ≤ 20 ∧ s.kids.length ≤ 20 ∧ (∀ k ∈ s.kids, smallS d k) ∧ nodesS s ≤ 400
theorem nodes_pos (s : Sh) : 0 < nodesS s := by cases s; rw [nodesS]; omega
theorem hS_lt : ∀ s : Sh, hS s < nodesS s := by
  intro s
  induction s using Sh.ind with
  | h s ih =>
    cases s with
    | mk es kids =>
      cases kids with
      | nil => rw [hS, nodesS]; omega
      | cons k ks =>
        have := ih k (by simp [Sh.kids])
        rw [hS, nodesS, nodesL]; omega
theorem flatL_bound {c : Nat} : ∀ l : List Sh, (∀ k ∈ l, (flatS k).length ≤ c * nodesS k) → (flatL l).length ≤ c * nodesL l
  | [], _ => by rw [flatL, nodesL]; simp
  | k :: l, h => by
    have h1 := h k (by simp)
    have h2 := flatL_bound l (fun x hx => h x (by simp [hx]))
    rw [flatL, nodesL, List.length_append, Nat.mul_add]
    omega
theorem small_flat : ∀ (d : Nat) (s : Sh), smallS d s → (flatS s).length ≤ 20 * nodesS s
  | 0, _, h => h.elim
  | d + 1, .mk es kids, ⟨h1, h2, h3, h4⟩ => by
    have hp := nodes_pos (.mk es kids)
    by_cases h0 : kids.length = 0
    · have : kids = [] := List.eq_nil_of_length_eq_zero h0
      subst this
      rw [flatS_leaf]
      have h1 : es.length ≤ 20 := h1
      omega
    · rw [flatS_inner h0]
      have := flatL_bound (c := 20) kids (fun k hk => small_flat d k (h3 k hk))
      rw [nodesS]
      omega
theorem small_nodes {d : Nat} {s : Sh} (h : smallS d s) : nodesS s ≤ 400 := by
  cases d with
  | zero => exact h.elim
  | succ d => exact h.2.2.2
end Go.Proofs.Ytpefeefmdlfafaa
