/-
  table: what is read of one: walks.
-/
import Derived.Test.YtlhhognabmnlmaaTab1
namespace Go.Proofs.Ytlhhognabmnlmaa
open Go Go.RowKit Go.Cx
set_option linter.unusedVariables false
set_option maxHeartbeats 8000000
theorem own_nilA {w w' : World} {bl bl' k n : Nat} {t : TypeId} {xs : List Value} (h : OwnK w bl t k (.slice none 0 0) n xs) : OwnK w' bl' t k (.slice none 0 0) n xs := by
  refine ⟨h.1, ?_⟩
  rcases h.2 with h | ⟨o, cap, cur, hv, _⟩
  · exact .inl h
  · cases hv
/-- pairs of numbers in a row of one's own, in a block of M -/
def RowW (w : World) (M : Nat → Prop) (t : TypeId) (v : Value) (l : List (Int × Int)) : Prop := ∃ bl, (v = .slice none 0 0 ∨ M bl) ∧ OwnK w bl t 2 v l.length (l.flatMap pr)
section
variable {w w' : World} {M M' : Nat → Prop} {t t' : TypeId} {v v' : Value} {l l' : List (Int × Int)}
theorem RowW.sl (h : RowW w M t v l) : SlK w 2 v l.length (l.flatMap pr) := by
  obtain ⟨bl, _, h⟩ := h
  exact h.sl
theorem RowW.in (h : RowW w M t v l) (b : Nat) (e : v.ownBlock = some b) : M b ∧ b < w.heap.size ∧ ∃ cur, w.heap[b]? = some (.cells cur t (0, 0)) := by
  obtain ⟨bl, h1, h2⟩ := h
  rcases h2.2 with ⟨rfl, _⟩ | ⟨o, cap, cur, rfl, hb, _⟩
  · cases e
  · simp only [Value.ownBlock, Option.some.injEq] at e
    subst e
    refine ⟨?_, (Array.getElem?_eq_some_iff.1 hb).1, cur, hb⟩
    rcases h1 with h1 | h1
    · cases h1
    · exact h1
theorem RowW.keep (h : RowW w M t v l) (hn : ∀ b, v.ownBlock = some b → w'.heap[b]? = w.heap[b]?) : RowW w' M t v l := by
  obtain ⟨bl, h1, h2⟩ := h
  refine ⟨bl, h1, h2.1, ?_⟩
  rcases h2.2 with h | ⟨o, cap, cur, hv, hb, h3⟩
  · exact .inl h
  · exact .inr ⟨o, cap, cur, hv, (hn bl (by rw [hv]; rfl)).trans hb, h3⟩
theorem RowW.kept (h : RowW w M t v l) (hk : Kept M' w w') (hn : ∀ b, v.ownBlock = some b → ¬ M' b) : RowW w' M t v l := h.keep fun b e => hk.block b (h.in b e).2.1 (hn b e)
theorem RowW.bel (h : RowW w M t v l) (hb : Below w.heap.size w w') : RowW w' M t v l := h.keep fun b e => hb.block b (h.in b e).2.1
theorem RowW.mono (h : RowW w M t v l) (hM : ∀ b, b < w.heap.size → M b → M' b) : RowW w M' t v l := by
  have h0 := h.in
  obtain ⟨bl, h1, h2⟩ := h
  rcases h2.2 with ⟨e, _⟩ | ⟨o, cap, cur, hv, hb, h3⟩
  · exact ⟨bl, .inl e, h2⟩
  · have := h0 bl (by rw [hv]; rfl)
    exact ⟨bl, .inr (hM bl this.2.1 this.1), h2⟩
theorem RowW.mono' {w0 : World} (h : RowW w M t v l) (hM : ∀ b, b < w0.heap.size → M b → M' b) (hl : ∀ b, v.ownBlock = some b → b < w0.heap.size) : RowW w M' t v l := by
  have h0 := h.in
  obtain ⟨bl, h1, h2⟩ := h
  rcases h2.2 with ⟨e, _⟩ | ⟨o, cap, cur, hv, hb, h3⟩
  · exact ⟨bl, .inl e, h2⟩
  · have e : v.ownBlock = some bl := by rw [hv]; rfl
    exact ⟨bl, .inr (hM bl (hl bl e) (h0 bl e).1), h2⟩
theorem RowW.nil : RowW w M t (.slice none 0 0) [] := ⟨0, .inl rfl, OwnK.nil⟩
/-- rows of unlike kinds lie apart -/
theorem RowW.apart (h : RowW w M t v l) (h' : RowW w M' t' v' l') (hne : t ≠ t') (b : Nat) (e : v.ownBlock = some b) : v'.ownBlock ≠ some b := fun e' => by
  have hqq := h.in b e
  obtain ⟨_, _, c1, h1⟩ := hqq
  have hqq := h'.in b e'
  obtain ⟨_, _, c2, h2⟩ := hqq
  rw [h1] at h2
  simp only [Option.some.injEq, Obj.cells.injEq] at h2
  exact hne h2.2.1
theorem RowW.off (h : RowW w M t v l) {b : Nat} {vs : List Value} (hB : Blk w b t' vs) (hne : t ≠ t') : v.ownBlock ≠ some b := fun e => by
  have hqq := h.in b e
  obtain ⟨_, _, c1, h1⟩ := hqq
  have := hB.symm.trans h1
  simp only [Option.some.injEq, Obj.cells.injEq] at this
  exact hne this.2.1.symm
theorem RowW.offM (h : RowW w M t v l) {b : Nat} {es : Array MapEntry} {c : Nat} (hB : w.heap[b]? = some (.map es c)) : v.ownBlock ≠ some b := fun e => by
  have hqq := h.in b e
  obtain ⟨_, _, c1, h1⟩ := hqq
  rw [h1] at hB
  cases hB
theorem RowW.one (h : RowW w M t v l) : One v = true := h.sl.one
end
/-- a map's keys -/
def ku (a : Int) : Value := .int .u64 a
def MapV (w : World) (M : Nat → Prop) (mb : Option Nat) (m : List (Int × Value)) : Prop := match mb with
  | none => m = []
  | some b => M b ∧ MapN ku w b m
/-- each client's notes: a map of rows, each from some note on, no two in one block -/
structure NotesW (w : World) (M : Nat → Prop) (mb : Option Nat) (m : List (Int × Value)) (g : Int → List (Int × Int)) (fl : Int) : Prop where
  map : MapV w M mb m
  nd : (m.map Prod.fst).Nodup
  has : ∀ c v, mget c m = some v → g c ≠ [] ∧ ∃ k, RowW w M 67 v ((g c).drop k) ∧ (k = 0 ∨ k < cnt fl (g c))
  no : ∀ c, mget c m = none → g c = []
  apart : ∀ c c' v v' x, c ≠ c' → mget c m = some v → mget c' m = some v' → v.ownBlock = some x → v'.ownBlock ≠ some x
section
variable {w w' : World} {M M' : Nat → Prop} {mb : Option Nat} {m : List (Int × Value)} {g : Int → List (Int × Int)} {fl fl' : Int}
theorem MapV.same (h : MapV w M mb m) (hk : ∀ b, mb = some b → w'.heap[b]? = w.heap[b]?) : MapV w' M mb m := by
  cases mb with
  | none => exact h
  | some b => exact ⟨h.1, h.2.same (hk b rfl)⟩
theorem MapV.mono (h : MapV w M mb m) (hM : ∀ b, b < w.heap.size → M b → M' b) : MapV w M' mb m := by
  cases mb with
  | none => exact h
  | some b => exact ⟨hM b h.2.lt h.1, h.2⟩
theorem NotesW.keep (h : NotesW w M mb m g fl) (hk : ∀ b, M b → b < w.heap.size → (mb = some b ∨ ∃ cur, w.heap[b]? = some (.cells cur 67 (0, 0))) → w'.heap[b]? = w.heap[b]?) : NotesW w' M mb m g fl where
  map := h.map.same fun b e => by
    have := h.map
    rw [e] at this
    exact hk b this.1 this.2.lt (.inl e)
  nd := h.nd
  has := fun c v hv => by
    have hqq := h.has c v hv
    obtain ⟨h1, k, h2, h3⟩ := hqq
    exact ⟨h1, k, h2.keep fun b e => hk b (h2.in b e).1 (h2.in b e).2.1 (.inr (h2.in b e).2.2), h3⟩
  no := h.no
  apart := h.apart
theorem NotesW.kept (h : NotesW w M mb m g fl) (hk : Kept M' w w') (hM : ∀ b, M b → ¬ M' b) : NotesW w' M mb m g fl := h.keep fun b h1 h2 _ => hk.block b h2 (hM b h1)
theorem NotesW.bel (h : NotesW w M mb m g fl) (hb : Below w.heap.size w w') : NotesW w' M mb m g fl := h.keep fun b _ h2 _ => hb.block b h2
theorem NotesW.mono (h : NotesW w M mb m g fl) (hM : ∀ b, b < w.heap.size → M b → M' b) : NotesW w M' mb m g fl where
  map := h.map.mono hM
  nd := h.nd
  has := fun c v hv => by
    have hqq := h.has c v hv
    obtain ⟨h1, k, h2, h3⟩ := hqq
    exact ⟨h1, k, h2.mono hM, h3⟩
  no := h.no
  apart := h.apart
/-- forgotten up to a later version -/
theorem NotesW.up (h : NotesW w M mb m g fl) (hf : fl ≤ fl') : NotesW w M mb m g fl' where
  map := h.map
  nd := h.nd
  has := fun c v hv => by
    have hqq := h.has c v hv
    obtain ⟨h1, k, h2, h3⟩ := hqq
    exact ⟨h1, k, h2, h3.imp id (fun h => Nat.lt_of_lt_of_le h (cnt_mono hf _))⟩
  no := h.no
  apart := h.apart
/-- what is found of a client -/
theorem NotesW.get (h : NotesW w M mb m g fl) (c : Int) : ∃ k, RowW w M 67 ((mget c m).getD (.slice none 0 0)) ((g c).drop k) ∧ (k = 0 ∨ k < cnt fl (g c)) := by
  cases e : mget c m with
  | none => exact ⟨0, by rw [h.no c e]; exact RowW.nil, .inl rfl⟩
  | some v => exact (h.has c v e).2
end
theorem kd : KD Try.prog 22 (.int .u64) ku := kd_int Try.underlying22
/-- a lookup, in a map or in none -/
theorem Y.lookV {P : Program} {f : Fr} {w : World} {d : Option Tmp} {ty : TypeId} {pos : String} {aft : Array Edge} {gg : Option (Nat × Bool)} {x y : Operand} {t K El : TypeId} {zv : Value} {size bytes : Nat} {M : Nat → Prop} {mb : Option Nat} {m : List (Int × Value)} {a : Int} (ht : P.underlying t = some (.map K El)) (D : KD P K (.int .u64) ku) (hi : TI P El zv size bytes) (hx : ev f x = .map mb) (hm : MapV w M mb m) (hy : ev f y = ku a) :
    Y P ⟨d, .lookup t x y false, ty, pos, aft, gg⟩ f w ((mget a m).getD zv) := by
  cases mb with
  | none =>
    rw [show m = [] from hm]
    exact Y.lookup1Nil ht D hi hx hy
  | some b => exact Y.lookup1 ht D hi hx hm.2 hy
/-- a table: in rows of M, over a list of all notes -/
structure TabC (w : World) (M : Nat → Prop) (b : Nat) (L : List Nt) (fl : Int) (mb : Option Nat) (m : List (Int × Value)) (ov : Value) : Prop where
  mem : M b
  blk : Blk w b 27 [.map mb, ov, .int .u64 (newestL L), .int .u64 fl]
  notes : NotesW w M mb m (fun c => ofC c L) fl
  own : RowW w M 62 ov (ownOf fl L)
def TabW (w : World) (M : Nat → Prop) (b : Nat) (L : List Nt) (fl : Int) : Prop := ∃ mb m ov, TabC w M b L fl mb m ov
section
variable {w w' : World} {M M' : Nat → Prop} {b : Nat} {L : List Nt} {fl : Int}
theorem TabW.kept (h : TabW w M b L fl) (hk : Kept M' w w') (hM : ∀ b, M b → ¬ M' b) : TabW w' M b L fl := by
  obtain ⟨mb, m, ov, h⟩ := h
  exact ⟨mb, m, ov, h.mem, (hk.block b h.blk.lt (hM b h.mem)).trans h.blk, h.notes.kept hk hM, h.own.kept hk (fun x e => hM x (h.own.in x e).1)⟩
theorem TabW.bel (h : TabW w M b L fl) (hb : Below w.heap.size w w') : TabW w' M b L fl := h.kept (M' := fun _ => False) (Kept.of_bel hb) (fun _ _ h => h)
theorem TabW.mono (h : TabW w M b L fl) (hM : ∀ b, b < w.heap.size → M b → M' b) : TabW w M' b L fl := by
  obtain ⟨mb, m, ov, h⟩ := h
  exact ⟨mb, m, ov, hM b h.blk.lt h.mem, h.blk, h.notes.mono hM, h.own.mono hM⟩
theorem TabW.lt (h : TabW w M b L fl) : b < w.heap.size ∧ M b := by
  obtain ⟨mb, m, ov, h⟩ := h
  exact ⟨h.blk.lt, h.mem⟩
end
theorem isNumber_ret (w : World) (n : Int) (h : 0 ≤ n) : Ret Try.prog 28 [.int .u64 n].toArray w fun v w' => v = .bool (decide (0 < n ∧ n ≤ MX)) ∧ w = w' := by
  refine Ret.of (n := 9) (rs := #[.tmp 2]) Try.func28 rfl rfl rfl (by simp) ?_
  refine WC.seqR rfl ?_
  refine WL.y rfl (Y.assign) ?_
  refine WL.nil ?_
  by_cases c0 : 0 < n
  · refine WC.seqR rfl ?_
    refine WL.y rfl (Y.move) ?_
    refine WL.y rfl (Y.dT (Y.gtr rfl rfl) (by omega)) ?_
    refine WL.y rfl (Y.move) ?_
    refine WL.y rfl (Y.move) ?_
    refine WL.y rfl (Y.leq rfl rfl) ?_
    refine WL.y rfl (Y.pickT rfl) ?_
    refine WL.y rfl (Y.assign) ?_
    refine WL.nil ?_
    refine WC.ret (endQ.one (.inr rfl) ?_)
    refine ⟨(show Value.bool (decide (n ≤ 4611686018427387903)) = _ from ?_), rfl⟩
    simp [c0, MX]
  · skip
    skip
    refine WC.seqR rfl ?_
    refine WL.y rfl (Y.move) ?_
    refine WL.y rfl (Y.dF (Y.gtr rfl rfl) (by omega)) ?_
    refine WL.y rfl (Y.move) ?_
    refine WL.off rfl ?_
    refine WL.off rfl ?_
    refine WL.y rfl (Y.pickF rfl) ?_
    refine WL.y rfl (Y.assign) ?_
    refine WL.nil ?_
    refine WC.ret (endQ.one (.inr rfl) ?_)
    refine ⟨(show Value.bool false = _ from ?_), rfl⟩
    simp [c0]
theorem newest_ret {w : World} {M : Nat → Prop} {b : Nat} {L : List Nt} {fl : Int} (h : TabW w M b L fl) : Ret Try.prog 14 [.pointer (some ⟨b, 0, none⟩)].toArray w fun v w' => v = .int .u64 (newestL L) ∧ w = w' := by
  obtain ⟨mb, m, ov, h⟩ := h
  refine Ret.of (n := 9) (rs := #[.tmp 2]) Try.func14 rfl rfl rfl (by simp) ?_
  refine WC.seqR rfl ?_
  refine WL.y rfl (Y.assign) ?_
  refine WL.nil ?_
  refine WC.seq ?_
  refine WC.seqR rfl ?_
  refine WL.y rfl (Y.move) ?_
  refine WL.y rfl (Y.eqpn Try.underlying23 rfl rfl) ?_
  refine WL.nil ?_
  refine WC.condF (rfl) ?_
  refine WC.skip (thenQ.normal ?_)
  refine WC.seqR rfl ?_
  refine WL.y rfl (Y.move) ?_
  refine WL.y rfl (Y.nilCheck rfl) ?_
  refine WL.y rfl (Y.fieldAddr fi27f2 ti22 (by decide) rfl (rfl) _) ?_
  refine WL.y rfl (Y.load1 Try.underlying22 rfl rfl (h.blk.cell 2)) ?_
  refine WL.y rfl (Y.assign) ?_
  refine WL.nil ?_
  refine WC.ret (endQ.one (.inr rfl) ?_)
  exact ⟨rfl, rfl⟩
theorem last_ret {w : World} {M : Nat → Prop} {b : Nat} {L : List Nt} {fl : Int} (c : Int) (h : TabW w M b L fl) : Ret Try.prog 13 [.pointer (some ⟨b, 0, none⟩), .int .u64 c].toArray w fun v w' => v = .int .u64 (lastL c L) ∧ w = w' := by
  obtain ⟨mb, m, ov, h⟩ := h
  have hqq := h.notes.get c
  obtain ⟨k, hr, hk⟩ := hqq
  have hsl := hr.sl
  have hmx : maxLen = 9223372036854775807 := rfl
  have hln := hsl.2.1
  refine Ret.of (n := 24) (rs := #[.tmp 4]) Try.func13 rfl rfl rfl (by simp) ?_
  refine WC.seqR rfl ?_
  refine WL.y rfl (Y.assign) ?_
  refine WL.nil ?_
  refine WC.seq ?_
  refine WC.seqR rfl ?_
  refine WL.y rfl (Y.move) ?_
  refine WL.y rfl (Y.eqpn Try.underlying23 rfl rfl) ?_
  refine WL.nil ?_
  refine WC.condF (rfl) ?_
  refine WC.skip (thenQ.normal ?_)
  refine WC.seqR rfl ?_
  refine WL.y rfl (Y.move) ?_
  refine WL.y rfl (Y.nilCheck rfl) ?_
  refine WL.y rfl (Y.fieldAddr fi27f0 ti24 (by decide) rfl (rfl) _) ?_
  refine WL.y rfl (Y.load1 Try.underlying24 rfl rfl (h.blk.cell 0)) ?_
  refine WL.y rfl (Y.move) ?_
  refine WL.y rfl ((Y.lookV (M := M) (m := m) (a := c) Try.underlying24 kd ti64 rfl h.notes.map rfl)) ?_
  refine WL.y rfl (Y.assign) ?_
  refine WL.nil ?_
  refine WC.seq ?_
  refine WC.seqR rfl ?_
  refine WL.y rfl (Y.move) ?_
  refine WL.y rfl (Y.lenSl Try.underlying64 (hsl) _) ?_
  refine WL.y rfl (Y.eqi rfl rfl) ?_
  refine WL.nil ?_
  refine WC.condD rfl (fun h0 => ?_) (fun h0 => ?_)
  · have h1 : ofC c L = [] := by
      by_cases e : ofC c L = []
      · exact e
      · have := (last_val hk e).1
        omega
    refine WC.seqR rfl ?_
    refine WL.y rfl (Y.assign) ?_
    refine WL.nil ?_
    refine WC.ret (thenQ.ret (endQ.one (.inr rfl) ?_))
    rw [lastL_eq, h1]
    exact ⟨rfl, rfl⟩
  · have hne : ofC c L ≠ [] := fun e => by
      rw [e] at h0
      simp at h0
    have h1 := last_val hk hne
    have e1 : ((((ofC c L).drop k).length : Int) - 1) = ((((ofC c L).drop k).length - 1 : Nat) : Int) := by omega
    refine WC.skip (thenQ.normal ?_)
    refine WC.seqR rfl ?_
    refine WL.y rfl (Y.move) ?_
    refine WL.y rfl (Y.move) ?_
    refine WL.y rfl (Y.lenSl Try.underlying64 (hsl) _) ?_
    refine WL.y rfl (Y.sub64 rfl rfl (by omega)) ?_
    refine WL.yex rfl (Y.idx Try.underlying64 ti67 (by decide) (hsl) rfl (by omega) (by omega)) ?_
    rintro _ ⟨b21, o21, rfl, hc21⟩
    refine WL.y rfl (Y.fieldAddr fi67f1 ti22 (by decide) rfl (rfl) _) ?_
    refine WL.y rfl (Y.load1 Try.underlying22 rfl rfl (cells_2 (elem_pr (show ((ofC c L).drop k).length - 1 < ((ofC c L).drop k).length by omega) (by rw [e1] at hc21; exact hc21)))) ?_
    refine WL.y rfl (Y.assign) ?_
    refine WL.nil ?_
    refine WC.ret (endQ.one (.inr rfl) ?_)
    rw [h1.2]
    exact ⟨rfl, rfl⟩
theorem at_ret {w : World} {M : Nat → Prop} {b : Nat} {L : List Nt} {fl : Int} (c v : Int) (h : TabW w M b L fl) (hg : Good L) (hL : L.length ≤ 100000) : Ret Try.prog 10 [.pointer (some ⟨b, 0, none⟩), .int .u64 c, .int .u64 v].toArray w fun r w' => r = .tuple #[.int .u64 (if fl ≤ v then atL c v L else 0), .bool (decide (fl ≤ v))] ∧ Below w.heap.size w w' := by
  obtain ⟨mb, m, ov, h⟩ := h
  have hqq := h.notes.get c
  obtain ⟨k, hr, hk⟩ := hqq
  have hsl := hr.sl
  have hmx : maxLen = 9223372036854775807 := rfl
  have hln := hsl.2.1
  refine Ret.of (n := 37) (rs := #[.tmp 6, .tmp 7]) Try.func10 rfl rfl rfl (by simp) ?_
  refine WC.seqR rfl ?_
  refine WL.y rfl (Y.assign) ?_
  refine WL.y rfl (Y.assign) ?_
  refine WL.nil ?_
  refine WC.seq ?_
  refine WC.seqR rfl ?_
  refine WL.y rfl (Y.move) ?_
  refine WL.y rfl (Y.bF (Y.eqpn Try.underlying23 rfl rfl) (rfl)) ?_
  refine WL.y rfl (Y.move) ?_
  refine WL.y rfl (Y.move) ?_
  refine WL.y rfl (Y.move) ?_
  refine WL.y rfl (Y.nilCheck rfl) ?_
  refine WL.y rfl (Y.fieldAddr fi27f3 ti22 (by decide) rfl (rfl) _) ?_
  refine WL.y rfl (Y.load1 Try.underlying22 rfl rfl (h.blk.cell 3)) ?_
  refine WL.y rfl (Y.lss rfl rfl) ?_
  refine WL.y rfl (Y.pickF rfl) ?_
  refine WL.nil ?_
  refine WC.condD rfl (fun h0 => ?_) (fun h0 => ?_)
  · have e1 : ¬ fl ≤ v := by omega
    refine WC.seqR rfl ?_
    refine WL.y rfl (Y.assign) ?_
    refine WL.y rfl (Y.assign) ?_
    refine WL.nil ?_
    refine WC.ret (thenQ.ret (endQ.two (.inr rfl) ?_))
    rw [if_neg e1, decide_eq_false e1]
    exact ⟨rfl, Below.refl _ _⟩
  · have e1 : fl ≤ v := by omega
    rw [if_pos e1, decide_eq_true e1]
    have hv := at_val hg.rise hk e1
    have hc := cnt_le v ((ofC c L).drop k)
    refine WC.skip (thenQ.normal ?_)
    refine WC.seqR rfl ?_
    refine WL.y rfl (Y.move) ?_
    refine WL.y rfl (Y.nilCheck rfl) ?_
    refine WL.y rfl (Y.fieldAddr fi27f0 ti24 (by decide) rfl (rfl) _) ?_
    refine WL.y rfl (Y.load1 Try.underlying24 rfl rfl (h.blk.cell 0)) ?_
    refine WL.y rfl (Y.move) ?_
    refine WL.y rfl ((Y.lookV (M := M) (m := m) (a := c) Try.underlying24 kd ti64 rfl h.notes.map rfl)) ?_
    refine WL.y rfl (Y.assign) ?_
    refine WL.nil ?_
    refine WC.seq ?_
    refine WC.seqR rfl ?_
    refine WL.y rfl (Y.move) ?_
    refine WL.y rfl (Y.move) ?_
    refine WL.call rfl (C.func go25) (upTo_ret w _ v _ hsl (by have := ofC_len c L; rw [List.length_drop]; omega) ((ofC_rise hg.rise c).sublist (List.drop_sublist k _))) ?_
    rintro _ w28 ⟨rfl, hb28⟩
    refine WL.y rfl (Y.assign) ?_
    refine WL.nil ?_
    refine WC.seqR rfl ?_
    refine WL.y rfl (Y.move) ?_
    refine WL.y rfl (Y.gtr rfl rfl) ?_
    refine WL.nil ?_
    refine WC.condD rfl (fun h1 => ?_) (fun h1 => ?_)
    · have h1' : 0 < cnt v ((ofC c L).drop k) := by omega
      have e2 : ((cnt v ((ofC c L).drop k) : Int) - 1) = ((cnt v ((ofC c L).drop k) - 1 : Nat) : Int) := by omega
      refine WC.seqR rfl ?_
      refine WL.y rfl (Y.move) ?_
      refine WL.y rfl (Y.move) ?_
      refine WL.y rfl (Y.sub64 rfl rfl (by omega)) ?_
      refine WL.yex rfl (Y.idx Try.underlying64 ti67 (by decide) (hsl.bel hb28) rfl (by omega) (by omega)) ?_
      rintro _ ⟨b34, o34, rfl, hc34⟩
      refine WL.y rfl (Y.fieldAddr fi67f1 ti22 (by decide) rfl (rfl) _) ?_
      refine WL.y rfl (Y.load1 Try.underlying22 rfl rfl (cells_2 (elem_pr (show cnt v ((ofC c L).drop k) - 1 < ((ofC c L).drop k).length by omega) (by rw [e2] at hc34; exact hc34)))) ?_
      refine WL.y rfl (Y.assign) ?_
      refine WL.y rfl (Y.assign) ?_
      refine WL.nil ?_
      refine WC.ret (thenQ.ret (endQ.two (.inr rfl) ?_))
      rw [hv.1 h1']
      exact ⟨rfl, hb28⟩
    · refine WC.skip (thenQ.normal ?_)
      refine WC.seqR rfl ?_
      refine WL.y rfl (Y.assign) ?_
      refine WL.y rfl (Y.assign) ?_
      refine WL.nil ?_
      refine WC.ret (endQ.two (.inr rfl) ?_)
      rw [hv.2 (by omega)]
      exact ⟨rfl, hb28⟩
end Go.Proofs.Ytlhhognabmnlmaa
