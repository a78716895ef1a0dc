/-
  table: Who, behind, cut: walks.
-/
import Derived.Test.YtlhhognabmnlmaaTab2
namespace Go.Proofs.Ytlhhognabmnlmaa
open Go Go.RowKit Go.Cx
set_option linter.unusedVariables false
set_option maxHeartbeats 8000000
theorem who_get {L : List Nt} {n : Nt} (h : L.Pairwise (fun a b => a.v < b.v)) (hn : n ∈ L) {fl : Int} (hf : fl ≤ n.v) : whoL fl n.v L = some n := by
  have hqq := List.append_of_mem hn
  obtain ⟨l1, l2, rfl⟩ := hqq
  rw [List.pairwise_append] at h
  unfold whoL
  rw [List.find?_append]
  have h1 : l1.find? (fun x => decide (x.v = n.v) && decide (fl ≤ n.v)) = none := by
    rw [List.find?_eq_none]
    intro x hx
    have := h.2.2 x hx n (by simp)
    simp
    omega
  rw [h1, List.find?_cons]
  simp [hf]
theorem who_none {L : List Nt} {fl v : Int} (h : ∀ n ∈ L, ¬ (n.v = v ∧ fl ≤ n.v)) : whoL fl v L = none := by
  unfold whoL
  rw [List.find?_eq_none]
  intro x hx
  have := h x hx
  simp
  intro e
  subst e
  omega
theorem at_self {L : List Nt} {n : Nt} (h : L.Pairwise (fun a b => a.v < b.v)) (hn : n ∈ L) : atL n.c n.v L = n.i := by
  have hqq := List.append_of_mem hn
  obtain ⟨l1, l2, rfl⟩ := hqq
  rw [List.pairwise_append, List.pairwise_cons] at h
  unfold atL lastW
  rw [List.filter_append, List.filter_cons]
  have h2 : l2.filter (fun x => decide (x.c = n.c) && decide (x.v ≤ n.v)) = [] := by
    rw [List.filter_eq_nil_iff]
    intro x hx
    have := h.2.1.1 x hx
    simp
    omega
  rw [h2]
  simp
theorem mem_own {L : List Nt} {fl : Int} {p : Int × Int} : p ∈ ownOf fl L ↔ ∃ n ∈ L, fl ≤ n.v ∧ p = (n.v, n.c) := by
  unfold ownOf
  rw [List.mem_map]
  constructor
  · rintro ⟨n, hn, rfl⟩
    rw [List.mem_filter] at hn
    exact ⟨n, hn.1, by simpa using hn.2, rfl⟩
  · rintro ⟨n, hn, h, rfl⟩
    exact ⟨n, List.mem_filter.2 ⟨hn, by simpa using h⟩, rfl⟩
theorem cnt_drop {v : Int} {l : List (Int × Int)} (hr : l.Pairwise (fun a b => a.1 < b.1)) {k : Nat} (hk : k ≤ cnt v l) : k + cnt v (l.drop k) = cnt v l := by
  have h1 : cnt v l = cnt v (l.take k) + cnt v (l.drop k) := by
    unfold cnt
    rw [← List.length_append, ← List.filter_append, List.take_append_drop]
  have h2 : cnt v (l.take k) = k := by
    unfold cnt
    rw [List.filter_eq_self.2, List.length_take]
    · have := cnt_le v l; omega
    · intro p hp
      have h3 := take_cnt v hr
      have : p ∈ l.take (cnt v l) := by
        have e : l.take k = (l.take (cnt v l)).take k := by rw [List.take_take, Nat.min_eq_left hk]
        rw [e] at hp
        exact List.mem_of_mem_take hp
      rw [← h3, List.mem_filter] at this
      exact this.2
  omega
theorem mput_keys (a : Int) (v : Value) : ∀ m : List (Int × Value), (m.map Prod.fst).Nodup → ((mput a v m).map Prod.fst).Nodup ∧ ∀ x, x ∈ (mput a v m).map Prod.fst ↔ x = a ∨ x ∈ m.map Prod.fst
  | [], _ => by simp [mput]
  | p :: m, h => by
    rw [List.map_cons, List.nodup_cons] at h
    unfold mput
    by_cases e : a = p.1
    · rw [if_pos e]
      refine ⟨by rw [List.map_cons, List.nodup_cons]; exact ⟨by rw [show ((a, v) : Int × Value).1 = p.1 from e]; exact h.1, h.2⟩, fun x => ?_⟩
      simp only [List.map_cons, List.mem_cons, ← e]
      exact ⟨fun h => h.elim .inl (fun h => .inr (.inr h)), fun h => h.elim .inl id⟩
    · rw [if_neg e]
      have hqq := mput_keys a v m h.2
      obtain ⟨h1, h2⟩ := hqq
      refine ⟨by rw [List.map_cons, List.nodup_cons]; exact ⟨fun hx => ((h2 _).1 hx).elim (fun e' => e e'.symm) h.1, h1⟩, fun x => ?_⟩
      simp only [List.map_cons, List.mem_cons, h2]
      exact ⟨fun h => h.elim (fun h => .inr (.inl h)) (fun h => h.elim .inl (fun h => .inr (.inr h))), fun h => h.elim (fun h => .inr (.inl h)) (fun h => h.elim .inl (fun h => .inr (.inr h)))⟩
theorem mget_mem {c : Int} {v : Value} : ∀ {m : List (Int × Value)}, mget c m = some v → (c, v) ∈ m
  | [], h => by cases h
  | p :: m, h => by
    unfold mget at h
    by_cases e : c = p.1
    · rw [if_pos e] at h
      simp only [Option.some.injEq] at h
      subst h
      subst e
      simp
    · rw [if_neg e] at h
      exact List.mem_cons_of_mem _ (mget_mem h)
theorem mem_mget {c : Int} {v : Value} : ∀ {m : List (Int × Value)}, (m.map Prod.fst).Nodup → (c, v) ∈ m → mget c m = some v
  | [], _, h => by cases h
  | p :: m, hn, h => by
    rw [List.map_cons, List.nodup_cons] at hn
    unfold mget
    rcases List.mem_cons.1 h with h | h
    · rw [← h, if_pos rfl]
    · rw [if_neg, mem_mget hn.2 h]
      intro e
      exact hn.1 (by rw [← e]; exact List.mem_map.2 ⟨_, h, rfl⟩)
theorem pr_ones (l : List (Int × Int)) : ∀ u ∈ l.flatMap pr, One u = true := by
  intro u hu
  have hqq := List.mem_flatMap.1 hu
  obtain ⟨p, _, hp⟩ := hqq
  simp only [pr, List.mem_cons, List.mem_nil_iff, or_false] at hp
  rcases hp with rfl | rfl <;> rfl
theorem pr_drop (l : List (Int × Int)) (k : Nat) : (l.flatMap pr).drop (k * 2) = (l.drop k).flatMap pr := by
  induction l generalizing k with
  | nil => simp
  | cons p l ih =>
    cases k with
    | zero => rfl
    | succ k =>
      rw [show (k + 1) * 2 = k * 2 + 2 by omega, List.flatMap_cons, List.drop_succ_cons, ← ih k]
      rfl
theorem pr_flen (l : List (Int × Int)) : (l.flatMap pr).length = l.length * 2 := by
  induction l with
  | nil => rfl
  | cons p l ih => rw [List.flatMap_cons, List.length_append, ih, List.length_cons]; simp [pr]; omega
/-- an entry stored anew: the others stand -/
theorem NotesW.put {w w' : World} {M M' : Nat → Prop} {b0 : Nat} {m : List (Int × Value)} {g g' : Int → List (Int × Int)} {fl c : Int} {v' : Value} {k : Nat} (h : NotesW w M (some b0) m g fl) (hM : ∀ b, b < w.heap.size → M b → M' b) (hmap : MapN ku w' b0 (mput c v' m)) (hg : ∀ c', c' ≠ c → g' c' = g c') (hne : g' c ≠ []) (hrow : RowW w' M' 67 v' ((g' c).drop k)) (hk : k = 0 ∨ k < cnt fl (g' c))
    (hoth : ∀ b, b < w.heap.size → b ≠ b0 → ((mget c m).getD (.slice none 0 0)).ownBlock ≠ some b → w'.heap[b]? = w.heap[b]?) (hown : ∀ x, v'.ownBlock = some x → ((mget c m).getD (.slice none 0 0)).ownBlock = some x ∨ w.heap.size ≤ x) : NotesW w' M' (some b0) (mput c v' m) g' fl := by
  have hb0 := h.map
  have key : ∀ c' v, c' ≠ c → mget c' m = some v → ∀ x, v.ownBlock = some x → x < w.heap.size ∧ x ≠ b0 ∧ ((mget c m).getD (.slice none 0 0)).ownBlock ≠ some x := by
    intro c' v hc hv x hx
    have hqq := h.has c' v hv
    obtain ⟨h1, k', h2, h3⟩ := hqq
    refine ⟨(h2.in x hx).2.1, fun e => ?_, fun e => ?_⟩
    · subst e
      have hqq := hb0.2
      obtain ⟨es, cl, h4, _⟩ := hqq
      exact h2.offM h4.blk hx
    · cases h5 : mget c m with
      | none => rw [h5] at e; cases e
      | some u =>
        rw [h5] at e
        exact h.apart c' c v u x hc hv h5 hx e
  have get : ∀ c', mget c' (mput c v' m) = if c' = c then some v' else mget c' m := fun c' => mget_mput c c' v' m
  refine ⟨⟨hM b0 hb0.2.lt hb0.1, hmap⟩, (mput_keys c v' m h.nd).1, fun c' v hv => ?_, fun c' hv => ?_, fun c1 c2 v1 v2 x hne12 h1 h2 hx => ?_⟩
  · rw [get] at hv
    by_cases e : c' = c
    · rw [if_pos e] at hv
      simp only [Option.some.injEq] at hv
      subst hv
      subst e
      exact ⟨hne, k, hrow, hk⟩
    · rw [if_neg e] at hv
      have hqq := h.has c' v hv
      obtain ⟨h1, k', h2, h3⟩ := hqq
      rw [hg c' e]
      refine ⟨h1, k', (h2.keep fun b hb => ?_).mono' hM (fun b hb => (h2.in b hb).2.1), h3⟩
      have hqq := key c' v e hv b hb
      obtain ⟨q1, q2, q3⟩ := hqq
      exact hoth b q1 q2 q3
  · rw [get] at hv
    by_cases e : c' = c
    · rw [if_pos e] at hv; cases hv
    · rw [if_neg e] at hv
      rw [hg c' e]
      exact h.no c' hv
  · rw [get] at h1 h2
    by_cases e1 : c1 = c
    · rw [if_pos e1] at h1
      rw [if_neg (fun e => hne12 (e1.trans e.symm))] at h2
      simp only [Option.some.injEq] at h1
      subst h1
      intro e
      have hqq := key c2 v2 (fun e => hne12 (e1.trans e.symm)) h2 x e
      obtain ⟨q1, q2, q3⟩ := hqq
      rcases hown x hx with e3 | e3
      · exact q3 e3
      · omega
    · rw [if_neg e1] at h1
      by_cases e2 : c2 = c
      · rw [if_pos e2] at h2
        simp only [Option.some.injEq] at h2
        subst h2
        intro e
        have hqq := key c1 v1 e1 h1 x hx
        obtain ⟨q1, q2, q3⟩ := hqq
        rcases hown x e with e3 | e3
        · exact q3 e3
        · omega
      · rw [if_neg e2] at h2
        exact h.apart c1 c2 v1 v2 x hne12 h1 h2 hx
theorem who1_ret (w : World) (b1 b2 b : Nat) (x0 x2 x3 r : Value) (v : Int) (l : List (Int × Int)) (i : Nat) (h1 : Blk w b1 23 [.pointer (some ⟨b, 0, none⟩)]) (h2 : Blk w b2 22 [.int .u64 v]) (hB : Blk w b 27 [x0, r, x2, x3]) (hs : SlK w 2 r l.length (l.flatMap pr)) (hi : i < l.length) : Ret Try.prog 27 [.int .i64 (i : Int), .pointer (some ⟨b1, 0, none⟩), .pointer (some ⟨b2, 0, none⟩)].toArray w fun x w' => x = .bool (decide (v ≤ l[i].1)) ∧ Below w.heap.size w w' := by
  refine Ret.of (n := 15) (rs := #[.tmp 4]) Try.func27 rfl rfl rfl (by simp) ?_
  refine WC.seqR rfl ?_
  refine WL.y rfl (Y.assign) ?_
  refine WL.nil ?_
  refine WC.seq ?_
  refine WC.regionB (fun _ => false) [(0, .held), (1, .any), (2, .any), (3, .held), (4, .any), (5, .any), (6, .any), (7, .held), (8, .held), (9, .any), (10, .any)] mixed (by kernel_rfl) (fun w1x hS1 hheap => ?_)
  refine RL.held rfl rfl hS1 (fun _ hb9 => Y.load1 Try.underlying23 rfl rfl (cell_bel (h1.cell 0) hb9)) ?_
  refine RL.any rfl rfl (fun _ => Y.nilCheck rfl) ?_
  refine RL.any rfl rfl (fun _ => Y.fieldAddr fi27f1 ti25 (by decide) rfl (rfl) _) ?_
  refine RL.held rfl rfl hS1 (fun _ hb9 => Y.load1 Try.underlying25 rfl rfl (cell_bel (hB.cell 1) hb9)) ?_
  refine RL.any rfl rfl (fun _ => Y.move) ?_
  refine RL.yex rfl rfl (Y.idx Try.underlying25 ti62 (by decide) (hs) rfl (by omega) (by omega)) ?_
  rintro _ ⟨b10, o10, rfl, hc10⟩
  refine RL.any rfl rfl (fun _ => Y.fieldAddr fi62f0 ti22 (by decide) rfl (rfl) _) ?_
  refine RL.held rfl rfl hS1 (fun _ hb9 => Y.load1 Try.underlying22 rfl rfl (cell_bel (cells_hd (elem_pr hi hc10)) hb9)) ?_
  refine RL.held rfl rfl hS1 (fun _ hb9 => Y.load1 Try.underlying22 rfl rfl (cell_bel (h2.cell 0) hb9)) ?_
  refine RL.any rfl rfl (fun _ => Y.geq rfl rfl) ?_
  refine RL.any rfl rfl (fun _ => Y.assign) ?_
  refine RL.nil (thenQ.normal ?_)
  refine WC.ret (endQ.one (.inr rfl) ?_)
  exact ⟨rfl, hS1⟩
theorem behnote_ret {w : World} {M : Nat → Prop} {v : Value} {l : List (Int × Int)} (k : Nat) {i : Int} (hi : i = (k : Int)) (h : RowW w M 67 v l) (hk : k ≤ l.length) (hl : l.length ≤ 100000) : Ret Try.prog 38 [v, .int .i64 i].toArray w fun r w' => (RowW w' (fun b => M b ∨ w.heap.size ≤ b) 67 r (l.drop k) ∧ ∀ x, r.ownBlock = some x → v.ownBlock = some x ∨ w.heap.size ≤ x) ∧ Below w.heap.size w w' := by
  subst hi
  have hsl := h.sl
  have hmx : maxLen = 9223372036854775807 := rfl
  obtain ⟨bl, h1, h2⟩ := h
  obtain ⟨a, cap, rfl, hcap⟩ : ∃ a cap, v = .slice a l.length cap ∧ l.length ≤ cap := by
    obtain ⟨_, _, a, c, e, hc, _⟩ := hsl
    exact ⟨a, c, e, hc⟩
  have hcut := h2.cut k l.length hk (Nat.le_refl _)
  have e1 : ((l.flatMap pr).drop (k * 2)).take ((l.length - k) * 2) = (l.drop k).flatMap pr := by
    rw [pr_drop, List.take_of_length_le]
    rw [pr_flen, List.length_drop]
    omega
  have e2 : l.length - k = (l.drop k).length := by rw [List.length_drop]
  rw [e1] at hcut
  refine Ret.of (n := 18) (rs := #[.tmp 4]) Try.func38 rfl rfl rfl (by simp) ?_
  refine WC.seqR rfl ?_
  refine WL.y rfl (Y.assign) ?_
  refine WL.nil ?_
  refine WC.seq ?_
  refine WC.seqR rfl ?_
  refine WL.y rfl (Y.move) ?_
  refine WL.y rfl (Y.move) ?_
  refine WL.y rfl (Y.lenSl Try.underlying64 (hsl) _) ?_
  refine WL.y rfl (Y.move) ?_
  refine WL.y rfl (Y.sub64 rfl rfl (by omega)) ?_
  refine WL.y rfl (Y.lss rfl rfl) ?_
  refine WL.nil ?_
  refine WC.condD rfl (fun c0 => ?_) (fun c0 => ?_)
  · refine WC.seqR rfl ?_
    refine WL.y rfl (Y.move) ?_
    refine WL.y rfl (Y.move) ?_
    refine WL.y rfl (Y.sliceVal (k2 := .i64) (ol := some (.tmp 12)) (oh := none) (lo := k) (hi := l.length) Try.underlying64 ti67 rfl hcap ⟨_, rfl, rfl⟩ rfl hk (Nat.le_refl _) _) ?_
    refine WL.y rfl (Y.assign) ?_
    refine WL.nil ?_
    refine WC.ret (thenQ.ret (endQ.one (.inr rfl) ?_))
    have hown : ∀ x, (Value.slice (if cap = k then a else a.map (·.add (k * 2))) (l.length - k) (cap - k)).ownBlock = some x → (Value.slice a l.length cap).ownBlock = some x := by
      intro x hx
      by_cases e : cap = k
      · rw [if_pos e] at hx
        cases a with
        | none => cases hx
        | some a => exact hx
      · rw [if_neg e] at hx
        cases a with
        | none => cases hx
        | some a => exact (show some a.block = some x from (congrArg some (show (Addr.add a (k * 2)).block = a.block by unfold Addr.add; split <;> rfl)).symm.trans hx)
    refine ⟨⟨⟨bl, ?_, by rw [← e2]; exact hcut⟩, fun x hx => .inl (hown x hx)⟩, Below.refl _ _⟩
    rcases h1 with e | e
    · left
      simp only [Value.slice.injEq] at e
      omega
    · exact .inr (.inl e)
  · refine WC.skip (thenQ.normal ?_)
    refine WC.seqR rfl ?_
    refine WL.y rfl (Y.move) ?_
    refine WL.y rfl (Y.move) ?_
    refine WL.y rfl (Y.sliceVal (k2 := .i64) (ol := some (.tmp 15)) (oh := none) (lo := k) (hi := l.length) Try.underlying64 ti67 rfl hcap ⟨_, rfl, rfl⟩ rfl hk (Nat.le_refl _) _) ?_
    refine WL.eex rfl (E.append Try.underlying64 ti67 rfl (by decide) (World.ownsRow_nil _ _ _ _) hcut.sl (pr_ones _) (by omega) (by omega) (Nat.le_refl _)) ?_
    rintro v17 w17 ⟨ho17, hb17, -⟩
    refine WL.y rfl (Y.assign) ?_
    refine WL.nil ?_
    refine WC.ret (endQ.one (.inr rfl) ?_)
    rw [Nat.zero_add, List.nil_append, e2] at ho17
    have hqq := OwnK.of_own ho17
    obtain ⟨bl', hB', hO'⟩ := hqq
    have hx2 : ∀ x, v17.ownBlock = some x → (Value.slice a l.length cap).ownBlock = some x ∨ w.heap.size ≤ x := by
      intro x hx
      rcases hO'.own with e | e <;> rw [e] at hx <;> cases hx
      exact .inr hB'
    exact ⟨⟨⟨bl', .inr (.inr hB'), hO'⟩, hx2⟩, hb17⟩
theorem behowner_ret {w : World} {M : Nat → Prop} {v : Value} {l : List (Int × Int)} (k : Nat) {i : Int} (hi : i = (k : Int)) (h : RowW w M 62 v l) (hk : k ≤ l.length) (hl : l.length ≤ 100000) : Ret Try.prog 23 [v, .int .i64 i].toArray w fun r w' => (RowW w' (fun b => M b ∨ w.heap.size ≤ b) 62 r (l.drop k) ∧ ∀ x, r.ownBlock = some x → v.ownBlock = some x ∨ w.heap.size ≤ x) ∧ Below w.heap.size w w' := by
  subst hi
  have hsl := h.sl
  have hmx : maxLen = 9223372036854775807 := rfl
  obtain ⟨bl, h1, h2⟩ := h
  obtain ⟨a, cap, rfl, hcap⟩ : ∃ a cap, v = .slice a l.length cap ∧ l.length ≤ cap := by
    obtain ⟨_, _, a, c, e, hc, _⟩ := hsl
    exact ⟨a, c, e, hc⟩
  have hcut := h2.cut k l.length hk (Nat.le_refl _)
  have e1 : ((l.flatMap pr).drop (k * 2)).take ((l.length - k) * 2) = (l.drop k).flatMap pr := by
    rw [pr_drop, List.take_of_length_le]
    rw [pr_flen, List.length_drop]
    omega
  have e2 : l.length - k = (l.drop k).length := by rw [List.length_drop]
  rw [e1] at hcut
  refine Ret.of (n := 18) (rs := #[.tmp 4]) Try.func23 rfl rfl rfl (by simp) ?_
  refine WC.seqR rfl ?_
  refine WL.y rfl (Y.assign) ?_
  refine WL.nil ?_
  refine WC.seq ?_
  refine WC.seqR rfl ?_
  refine WL.y rfl (Y.move) ?_
  refine WL.y rfl (Y.move) ?_
  refine WL.y rfl (Y.lenSl Try.underlying25 (hsl) _) ?_
  refine WL.y rfl (Y.move) ?_
  refine WL.y rfl (Y.sub64 rfl rfl (by omega)) ?_
  refine WL.y rfl (Y.lss rfl rfl) ?_
  refine WL.nil ?_
  refine WC.condD rfl (fun c0 => ?_) (fun c0 => ?_)
  · refine WC.seqR rfl ?_
    refine WL.y rfl (Y.move) ?_
    refine WL.y rfl (Y.move) ?_
    refine WL.y rfl (Y.sliceVal (k2 := .i64) (ol := some (.tmp 12)) (oh := none) (lo := k) (hi := l.length) Try.underlying25 ti62 rfl hcap ⟨_, rfl, rfl⟩ rfl hk (Nat.le_refl _) _) ?_
    refine WL.y rfl (Y.assign) ?_
    refine WL.nil ?_
    refine WC.ret (thenQ.ret (endQ.one (.inr rfl) ?_))
    have hown : ∀ x, (Value.slice (if cap = k then a else a.map (·.add (k * 2))) (l.length - k) (cap - k)).ownBlock = some x → (Value.slice a l.length cap).ownBlock = some x := by
      intro x hx
      by_cases e : cap = k
      · rw [if_pos e] at hx
        cases a with
        | none => cases hx
        | some a => exact hx
      · rw [if_neg e] at hx
        cases a with
        | none => cases hx
        | some a => exact (show some a.block = some x from (congrArg some (show (Addr.add a (k * 2)).block = a.block by unfold Addr.add; split <;> rfl)).symm.trans hx)
    refine ⟨⟨⟨bl, ?_, by rw [← e2]; exact hcut⟩, fun x hx => .inl (hown x hx)⟩, Below.refl _ _⟩
    rcases h1 with e | e
    · left
      simp only [Value.slice.injEq] at e
      omega
    · exact .inr (.inl e)
  · refine WC.skip (thenQ.normal ?_)
    refine WC.seqR rfl ?_
    refine WL.y rfl (Y.move) ?_
    refine WL.y rfl (Y.move) ?_
    refine WL.y rfl (Y.sliceVal (k2 := .i64) (ol := some (.tmp 15)) (oh := none) (lo := k) (hi := l.length) Try.underlying25 ti62 rfl hcap ⟨_, rfl, rfl⟩ rfl hk (Nat.le_refl _) _) ?_
    refine WL.eex rfl (E.append Try.underlying25 ti62 rfl (by decide) (World.ownsRow_nil _ _ _ _) hcut.sl (pr_ones _) (by omega) (by omega) (Nat.le_refl _)) ?_
    rintro v17 w17 ⟨ho17, hb17, -⟩
    refine WL.y rfl (Y.assign) ?_
    refine WL.nil ?_
    refine WC.ret (endQ.one (.inr rfl) ?_)
    rw [Nat.zero_add, List.nil_append, e2] at ho17
    have hqq := OwnK.of_own ho17
    obtain ⟨bl', hB', hO'⟩ := hqq
    have hx2 : ∀ x, v17.ownBlock = some x → (Value.slice a l.length cap).ownBlock = some x ∨ w.heap.size ≤ x := by
      intro x hx
      rcases hO'.own with e | e <;> rw [e] at hx <;> cases hx
      exact .inr hB'
    exact ⟨⟨⟨bl', .inr (.inr hB'), hO'⟩, hx2⟩, hb17⟩
end Go.Proofs.Ytlhhognabmnlmaa
