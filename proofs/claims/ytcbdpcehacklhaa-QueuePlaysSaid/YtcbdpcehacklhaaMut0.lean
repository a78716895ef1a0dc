/-
  Mutators as trees; how they lie in memory.
-/
import Derived.Test.YtcbdpcehacklhaaVal18
import Derived.Test.YtcbdpcehacklhaaVal12
namespace Go.Proofs.Ytcbdpcehacklhaa
open Go Go.RowKit Go.Cx
set_option linter.unusedVariables false
set_option maxHeartbeats 4000000
/-- a mutator -/
inductive Mt where
  | mk (k : Int) (key to : List UInt8) (i : Int) (had : Bool) (was : V) (has : Bool) (val : V) (l : List Mt) : Mt
namespace Mt
def k : Mt → Int | mk k _ _ _ _ _ _ _ _ => k
def key : Mt → List UInt8 | mk _ a _ _ _ _ _ _ _ => a
def to : Mt → List UInt8 | mk _ _ a _ _ _ _ _ _ => a
def i : Mt → Int | mk _ _ _ a _ _ _ _ _ => a
def had : Mt → Bool | mk _ _ _ _ a _ _ _ _ => a
def was : Mt → V | mk _ _ _ _ _ a _ _ _ => a
def has : Mt → Bool | mk _ _ _ _ _ _ a _ _ => a
def val : Mt → V | mk _ _ _ _ _ _ _ a _ => a
def l : Mt → List Mt | mk _ _ _ _ _ _ _ _ a => a
theorem ind {Q : Mt → Prop} (h : ∀ m : Mt, (∀ x ∈ m.l, Q x) → Q m) : ∀ m, Q m
  | mk k a b i c d e f l => h _ (fun x hx => ind h x)
termination_by m => SizeOf.sizeOf m
decreasing_by
  have := List.sizeOf_lt_of_mem (show x ∈ l from hx); simp only [mk.sizeOf_spec]; omega
theorem ext {m n : Mt} (h1 : m.k = n.k) (h2 : m.key = n.key) (h3 : m.to = n.to) (h4 : m.i = n.i) (h5 : m.had = n.had) (h6 : m.was = n.was) (h7 : m.has = n.has) (h8 : m.val = n.val) (h9 : m.l = n.l) : m = n := by
  cases m; cases n
  simp only [k, key, to, i, had, was, has, val, l] at h1 h2 h3 h4 h5 h6 h7 h8 h9
  subst h1 h2 h3 h4 h5 h6 h7 h8 h9
  rfl
end Mt
/-- a mutator's cells -/
structure MC where
  c : List Value
  h : c.length = 19
def mtcell (m : Mt) (wc vc : List Value) (lv : Value) : List Value := [.int .i64 m.k, strv m.key, strv m.to, .int .i64 m.i, .bool m.had] ++ wc ++ [.bool m.has] ++ vc ++ [lv]
structure MOk (m : Mt) : Prop where
  k : -9223372036854775808 ≤ m.k ∧ m.k ≤ 9223372036854775807
  i : -9223372036854775808 ≤ m.i ∧ m.i ≤ 9223372036854775807
  key : m.key.length ≤ 140737488351232
  to : m.to.length ≤ 140737488351232
  l : m.l.length ≤ 533096546784
/-- a mutator lies in memory -/
inductive MtAt (w : World) : Mt → List Value → Prop where
  | mk {m : Mt} {wc vc : List Value} {lv : Value} {lc : List MC} (ok : MOk m) (hw : VAt w m.was wc) (hv : VAt w m.val vc) (h1 : lc.length = m.l.length) (h2 : ∀ j (h : j < m.l.length) (h' : j < lc.length), MtAt w m.l[j] lc[j].c) (hs : SlK w 19 lv m.l.length (lc.flatMap MC.c)) : MtAt w m (mtcell m wc vc lv)
/-- a mutator lies in rows of M, each of which one may write -/
inductive MtW (w : World) (M : Nat → Prop) : Mt → List Value → Prop where
  | mk {m : Mt} {wc vc : List Value} {lv : Value} {lc : List MC} {bl : Nat} (ok : MOk m) (hw : VW w M m.was wc) (hv : VW w M m.val vc) (h1 : lc.length = m.l.length) (h2 : ∀ j (h : j < m.l.length) (h' : j < lc.length), MtW w M m.l[j] lc[j].c) (hm : lv = .slice none 0 0 ∨ M bl) (hs : OwnK w bl 30 19 lv m.l.length (lc.flatMap MC.c)) : MtW w M m (mtcell m wc vc lv)
theorem MtAt.len {w : World} {m : Mt} {c : List Value} (h : MtAt w m c) : c.length = 19 := by
  cases h with
  | mk ok hw hv h1 h2 hs => simp [mtcell, hw.len, hv.len]
theorem MtAt.ok {w : World} {m : Mt} {c : List Value} (h : MtAt w m c) : MOk m := by cases h; assumption
theorem MtAt.bel {w w' : World} (hb : Below w.heap.size w w') : ∀ {m : Mt} {c : List Value}, MtAt w m c → MtAt w' m c := by
  intro m
  induction m using Mt.ind with
  | h m ih =>
    intro c h
    cases h with
    | mk ok hw hv h1 h2 hs => exact .mk ok (hw.bel hb) (hv.bel hb) h1 (fun j h h' => ih _ (List.getElem_mem h) (h2 j h h')) (hs.bel hb)
theorem one_append {a b : List Value} (ha : ∀ u ∈ a, One u = true) (hb : ∀ u ∈ b, One u = true) : ∀ u ∈ a ++ b, One u = true := fun u hu => (List.mem_append.1 hu).elim (ha u) (hb u)
theorem one_mt {m : Mt} {wc vc : List Value} {lv : Value} (hw : ∀ u ∈ wc, One u = true) (hv : ∀ u ∈ vc, One u = true) (hl : One lv = true) : ∀ u ∈ mtcell m wc vc lv, One u = true := by
  refine one_append (one_append (one_append (one_append ?_ hw) ?_) hv) ?_
  · intro u hu
    simp only [List.mem_cons, List.mem_nil_iff, or_false] at hu
    rcases hu with rfl | rfl | rfl | rfl | rfl <;> rfl
  · intro u hu
    simp only [List.mem_cons, List.mem_nil_iff, or_false] at hu
    rcases hu with rfl; rfl
  · intro u hu
    simp only [List.mem_cons, List.mem_nil_iff, or_false] at hu
    rcases hu with rfl; exact hl
theorem MtAt.one {w : World} {m : Mt} {c : List Value} (h : MtAt w m c) : ∀ u ∈ c, One u = true := by
  cases h with
  | mk ok hw hv h1 h2 hs => exact one_mt hw.one hv.one hs.one
theorem MtW.at {w : World} {M : Nat → Prop} : ∀ {m : Mt} {c : List Value}, MtW w M m c → MtAt w m c := by
  intro m
  induction m using Mt.ind with
  | h m ih =>
    intro c h
    cases h with
    | mk ok hw hv h1 h2 hm hs => exact .mk ok hw.at hv.at h1 (fun j h h' => ih _ (List.getElem_mem h) (h2 j h h')) hs.sl
theorem MtW.kept {w w' : World} {M M' : Nat → Prop} (hk : Kept M' w w') (hM : ∀ b, M b → ¬ M' b) : ∀ {m : Mt} {c : List Value}, MtW w M m c → MtW w' M m c := by
  intro m
  induction m using Mt.ind with
  | h m ih =>
    intro c h
    cases h with
    | mk ok hw hv h1 h2 hm hs =>
      refine .mk ok (VW.kept hk hM hw) (VW.kept hk hM hv) h1 (fun j h h' => ih _ (List.getElem_mem h) (h2 j h h')) hm ?_
      rcases hm with e | e
      · rw [e] at hs ⊢; exact own_nilAny hs
      · exact hs.kept hk (hM _ e)
theorem MtW.bel {w w' : World} {M : Nat → Prop} {m : Mt} {c : List Value} (h : MtW w M m c) (hb : Below w.heap.size w w') : MtW w' M m c := MtW.kept (M' := fun _ => False) (Kept.of_bel hb) (fun _ _ h => h) h
theorem MtW.mono {w : World} {M M' : Nat → Prop} (hM : ∀ b, b < w.heap.size → M b → M' b) : ∀ {m : Mt} {c : List Value}, MtW w M m c → MtW w M' m c := by
  intro m
  induction m using Mt.ind with
  | h m ih =>
    intro c h
    cases h with
    | mk ok hw hv h1 h2 hm hs =>
      refine .mk ok (VW.mono hM hw) (VW.mono hM hv) h1 (fun j h h' => ih _ (List.getElem_mem h) (h2 j h h')) ?_ hs
      rcases hm with e | e
      · exact .inl e
      · rcases hs.2 with ⟨e2, _⟩ | ⟨o, cap, cur, hv, hb, _⟩
        · exact .inl e2
        · exact .inr (hM _ (Array.getElem?_eq_some_iff.1 hb).1 e)
theorem MtW.len {w : World} {M : Nat → Prop} {m : Mt} {c : List Value} (h : MtW w M m c) : c.length = 19 := h.at.len
theorem MtW.ok {w : World} {M : Nat → Prop} {m : Mt} {c : List Value} (h : MtW w M m c) : MOk m := h.at.ok
theorem MtW.one {w : World} {M : Nat → Prop} {m : Mt} {c : List Value} (h : MtW w M m c) : ∀ u ∈ c, One u = true := h.at.one
/-- one of a list, by its cells -/
theorem elem_mt {w : World} {b o j : Nat} {lc : List MC} (h : j < lc.length) (hc : Cells w b o (((lc.flatMap MC.c).drop ((j : Int).toNat * 19)).take 19)) : Cells w b o lc[j].c := by
  rw [Int.toNat_natCast, flat_at MC.h lc j h] at hc
  exact hc
theorem MtAt.parts {w : World} {m : Mt} {c : List Value} (h : MtAt w m c) : ∃ w0 w1 w2 w3 w4 w5 v0 v1 v2 v3 v4 v5 lv, ∃ lc : List MC, MOk m ∧ VAt w m.was [w0, w1, w2, w3, w4, w5] ∧ VAt w m.val [v0, v1, v2, v3, v4, v5] ∧ lc.length = m.l.length ∧ (∀ j (h : j < m.l.length) (h' : j < lc.length), MtAt w m.l[j] lc[j].c) ∧ SlK w 19 lv m.l.length (lc.flatMap MC.c) ∧ c = mtcell m [w0, w1, w2, w3, w4, w5] [v0, v1, v2, v3, v4, v5] lv := by
  cases h with
  | mk ok hw hv h1 h2 hs =>
    have hqq := six hw.len
    obtain ⟨w0, w1, w2, w3, w4, w5, rfl⟩ := hqq
    have hqq := six hv.len
    obtain ⟨v0, v1, v2, v3, v4, v5, rfl⟩ := hqq
    exact ⟨_, _, _, _, _, _, _, _, _, _, _, _, _, _, ok, hw, hv, h1, h2, hs, rfl⟩
theorem MtW.parts {w : World} {M : Nat → Prop} {m : Mt} {c : List Value} (h : MtW w M m c) : ∃ w0 w1 w2 w3 w4 w5 v0 v1 v2 v3 v4 v5 lv bl, ∃ lc : List MC, MOk m ∧ VW w M m.was [w0, w1, w2, w3, w4, w5] ∧ VW w M m.val [v0, v1, v2, v3, v4, v5] ∧ lc.length = m.l.length ∧ (∀ j (h : j < m.l.length) (h' : j < lc.length), MtW w M m.l[j] lc[j].c) ∧ (lv = .slice none 0 0 ∨ M bl) ∧ OwnK w bl 30 19 lv m.l.length (lc.flatMap MC.c) ∧ c = mtcell m [w0, w1, w2, w3, w4, w5] [v0, v1, v2, v3, v4, v5] lv := by
  cases h with
  | mk ok hw hv h1 h2 hm hs =>
    have hqq := six hw.len
    obtain ⟨w0, w1, w2, w3, w4, w5, rfl⟩ := hqq
    have hqq := six hv.len
    obtain ⟨v0, v1, v2, v3, v4, v5, rfl⟩ := hqq
    exact ⟨_, _, _, _, _, _, _, _, _, _, _, _, _, _, _, ok, hw, hv, h1, h2, hm, hs, rfl⟩
/-- a mutator's cells, seen -/
def mtc (m : Mt) (w0 w1 w2 w3 w4 w5 v0 v1 v2 v3 v4 v5 lv : Value) : List Value := [.int .i64 m.k, strv m.key, strv m.to, .int .i64 m.i, .bool m.had, w0, w1, w2, w3, w4, w5, .bool m.has, v0, v1, v2, v3, v4, v5, lv]
end Go.Proofs.Ytcbdpcehacklhaa
