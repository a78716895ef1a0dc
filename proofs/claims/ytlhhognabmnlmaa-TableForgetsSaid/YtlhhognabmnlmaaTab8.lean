/-
  table: Copy: walk.
-/
import Derived.Test.YtlhhognabmnlmaaTab7
import Derived.Test.YtlhhognabmnlmaaBase11
namespace Go.Proofs.Ytlhhognabmnlmaa
open Go Go.RowKit Go.Cx
set_option linter.unusedVariables false
set_option maxHeartbeats 8000000
theorem Y.lenV {P : Program} {f : Fr} {w : World} {d : Option Tmp} {ty : TypeId} {pos : String} {aft : Array Edge} {g : Option (Nat × Bool)} {x : Operand} {t K El : TypeId} {M : Nat → Prop} {mb : Option Nat} {m : List (Int × Value)} (ht : P.underlying t = some (.map K El)) (hx : ev f x = .map mb) (hm : MapV w M mb m) :
    Y P ⟨d, .call ⟨.builtin .len, #[x], #[t]⟩, ty, pos, aft, g⟩ f w (.int .i64 (m.length : Int)) := by
  cases mb with
  | none =>
    have : m = [] := hm
    subst this
    simp [Y, execOp, resolve, invoke, builtin, Builtin.len_, hx, run_underlying ht, goInt]
  | some b =>
    have hqq := hm.2
    obtain ⟨es, c, h1, h2⟩ := hqq
    have hl : es.size = m.length := by
      have := congrArg List.length h2
      simpa using this
    simp [Y, execOp, resolve, invoke, builtin, Builtin.len_, hx, run_underlying ht, run_getMap h1.blk, goInt, Result.andThen, hl]
theorem E.rangeV {P : Program} {f : Fr} {w : World} {d : Option Tmp} {ty : TypeId} {pos : String} {aft : Array Edge} {g : Option (Nat × Bool)} {x : Operand} {t K El : TypeId} {M : Nat → Prop} {mb : Option Nat} {m : List (Int × Value)} (ht : P.underlying t = some (.map K El)) (hx : ev f x = .map mb) (hm : MapV w M mb m) :
    ∃ v w', E P ⟨d, .range t x, ty, pos, aft, g⟩ f w v w' ∧ (v = .pointer (some ⟨w.heap.size, 0, none⟩) ∧ IterAt ku w' w.heap.size mb m ∧ Below w.heap.size w w') := by
  cases mb with
  | none =>
    have : m = [] := hm
    subst this
    exact E.rangeNil ht hx
  | some b => exact E.rangeN ht hx hm.2
theorem E.makeMapE {P : Program} {f : Fr} {w : World} {d : Option Tmp} {ty : TypeId} {pos : String} {aft : Array Edge} {g : Option (Nat × Bool)} {t K El : TypeId} {r : Option Operand} {ki : IntKind} {n : Int} (hm : P.underlying t = some (.map K El)) (hr : ∀ o, r = some o → ev f o = .int ki n) : ∃ v w', E P ⟨d, .makeMap t r, ty, pos, aft, g⟩ f w v w' ∧ (∃ nb, v = .map (some nb) ∧ w.heap.size = nb ∧ MapN ku w' nb [] ∧ Below w.heap.size w w') := by
  have hqq := E.makeMapN (P := P) (f := f) (w := w) (d := d) (ty := ty) (pos := pos) (aft := aft) (g := g) (kv := ku) hm hr
  obtain ⟨v, w', h1, h2, h3, h4⟩ := hqq
  exact ⟨v, w', h1, _, h2, rfl, h3, h4⟩
theorem RowW.form {w : World} {M : Nat → Prop} {t : TypeId} {v : Value} {l : List (Int × Int)} (h : RowW w M t v l) : ∃ a c, v = .slice a l.length c := by
  have hqq := h.sl
  obtain ⟨_, _, a, c, e, _⟩ := hqq
  exact ⟨a, c, e⟩
theorem clonenote_ret {w : World} {M : Nat → Prop} {v : Value} {l : List (Int × Int)} (h : RowW w M 67 v l) (hl : l.length ≤ 100000) : Ret Try.prog 32 [v].toArray w fun r w' => RowW w' (fun x => w.heap.size ≤ x) 67 r l ∧ Below w.heap.size w w' := by
  have hmx : maxLen = 9223372036854775807 := rfl
  have hsl := h.sl
  obtain ⟨bl, h1, hs⟩ := h
  rcases hs.2 with ⟨rfl, h0⟩ | ⟨o, cap, cur, rfl, hb, _⟩
  · have : l = [] := List.eq_nil_of_length_eq_zero h0
    subst this
    refine Ret.of (n := 8) (rs := #[.tmp 2]) Try.func32 rfl rfl rfl (by simp) ?_
    refine WC.seqR rfl ?_
    refine WL.y rfl (Y.assign) ?_
    refine WL.nil ?_
    refine WC.seq ?_
    refine WC.seqR rfl ?_
    refine WL.y rfl (Y.move) ?_
    refine WL.y rfl (Y.eqsn Try.underlying64 rfl rfl) ?_
    refine WL.nil ?_
    refine WC.condT (rfl) ?_
    refine WC.seqR rfl ?_
    refine WL.y rfl (Y.assign) ?_
    refine WL.nil ?_
    refine WC.ret (thenQ.ret (endQ.one (.inr rfl) ?_))
    exact ⟨RowW.nil, Below.refl _ _⟩
  · refine Ret.of (n := 8) (rs := #[.tmp 2]) Try.func32 rfl rfl rfl (by simp) ?_
    refine WC.seqR rfl ?_
    refine WL.y rfl (Y.assign) ?_
    refine WL.nil ?_
    refine WC.seq ?_
    refine WC.seqR rfl ?_
    refine WL.y rfl (Y.move) ?_
    refine WL.y rfl (Y.eqsn Try.underlying64 rfl rfl) ?_
    refine WL.nil ?_
    refine WC.condF (rfl) ?_
    refine WC.skip (thenQ.normal ?_)
    refine WC.seqR rfl ?_
    refine WL.eex rfl (E.build0 Try.underlying64 ti67) ?_
    rintro v5 w5 ⟨ho5, hb5⟩
    refine WL.y rfl (Y.move) ?_
    refine WL.eex rfl (E.append Try.underlying64 ti67 rfl (by decide) ho5 (hsl.bel hb5) (pr_ones l) (by omega) (by omega) hb5.size) ?_
    rintro v7 w7 ⟨ho7, hb7, -⟩
    refine WL.y rfl (Y.assign) ?_
    refine WL.nil ?_
    refine WC.ret (endQ.one (.inr rfl) ?_)
    rw [Nat.zero_add, List.nil_append] at ho7
    have hqq := OwnK.of_own ho7
    obtain ⟨bl', hB', hO'⟩ := hqq
    exact ⟨⟨bl', .inr hB', hO'⟩, hb5.trans hb7⟩
theorem cloneowner_ret {w : World} {M : Nat → Prop} {v : Value} {l : List (Int × Int)} (h : RowW w M 62 v l) (hl : l.length ≤ 100000) : Ret Try.prog 31 [v].toArray w fun r w' => RowW w' (fun x => w.heap.size ≤ x) 62 r l ∧ Below w.heap.size w w' := by
  have hmx : maxLen = 9223372036854775807 := rfl
  have hsl := h.sl
  obtain ⟨bl, h1, hs⟩ := h
  rcases hs.2 with ⟨rfl, h0⟩ | ⟨o, cap, cur, rfl, hb, _⟩
  · have : l = [] := List.eq_nil_of_length_eq_zero h0
    subst this
    refine Ret.of (n := 8) (rs := #[.tmp 2]) Try.func31 rfl rfl rfl (by simp) ?_
    refine WC.seqR rfl ?_
    refine WL.y rfl (Y.assign) ?_
    refine WL.nil ?_
    refine WC.seq ?_
    refine WC.seqR rfl ?_
    refine WL.y rfl (Y.move) ?_
    refine WL.y rfl (Y.eqsn Try.underlying25 rfl rfl) ?_
    refine WL.nil ?_
    refine WC.condT (rfl) ?_
    refine WC.seqR rfl ?_
    refine WL.y rfl (Y.assign) ?_
    refine WL.nil ?_
    refine WC.ret (thenQ.ret (endQ.one (.inr rfl) ?_))
    exact ⟨RowW.nil, Below.refl _ _⟩
  · refine Ret.of (n := 8) (rs := #[.tmp 2]) Try.func31 rfl rfl rfl (by simp) ?_
    refine WC.seqR rfl ?_
    refine WL.y rfl (Y.assign) ?_
    refine WL.nil ?_
    refine WC.seq ?_
    refine WC.seqR rfl ?_
    refine WL.y rfl (Y.move) ?_
    refine WL.y rfl (Y.eqsn Try.underlying25 rfl rfl) ?_
    refine WL.nil ?_
    refine WC.condF (rfl) ?_
    refine WC.skip (thenQ.normal ?_)
    refine WC.seqR rfl ?_
    refine WL.eex rfl (E.build0 Try.underlying25 ti62) ?_
    rintro v5 w5 ⟨ho5, hb5⟩
    refine WL.y rfl (Y.move) ?_
    refine WL.eex rfl (E.append Try.underlying25 ti62 rfl (by decide) ho5 (hsl.bel hb5) (pr_ones l) (by omega) (by omega) hb5.size) ?_
    rintro v7 w7 ⟨ho7, hb7, -⟩
    refine WL.y rfl (Y.assign) ?_
    refine WL.nil ?_
    refine WC.ret (endQ.one (.inr rfl) ?_)
    rw [Nat.zero_add, List.nil_append] at ho7
    have hqq := OwnK.of_own ho7
    obtain ⟨bl', hB', hO'⟩ := hqq
    exact ⟨⟨bl', .inr hB', hO'⟩, hb5.trans hb7⟩
theorem cloneowner_ret2 {w : World} {M : Nat → Prop} {v : Value} {l : List (Int × Int)} (h : RowW w M 62 v l) (hl : l.length ≤ 100000) : Ret Try.prog 31 [v].toArray w fun r w' => (∃ a c, r = .slice a l.length c ∧ RowW w' (fun x => w.heap.size ≤ x) 62 (.slice a l.length c) l) ∧ Below w.heap.size w w' := (cloneowner_ret h hl).mono fun r w' ⟨h1, h2⟩ => by
  have hqq := h1.form
  obtain ⟨a, c, rfl⟩ := hqq
  exact ⟨⟨a, c, rfl, h1⟩, h2⟩
theorem off_iter {w : World} {r : Nat} {bo : Option Nat} {left : List (Int × Value)} (h : IterAt ku w r bo left) (c : Nat) (hc : (∃ es cl, w.heap[c]? = some (.map es cl)) ∨ (∃ cur t, w.heap[c]? = some (.cells cur t (0, 0)))) : c ≠ r := by
  have hqq := iter_obj h
  obtain ⟨i1, i2, i3, i4, hi⟩ := hqq
  intro e
  subst e
  rcases hc with ⟨_, _, h⟩ | ⟨_, _, h⟩ <;> rw [hi] at h <;> cases h
theorem copy_ret {w : World} {M : Nat → Prop} {b : Nat} {L : List Nt} {fl : Int} (h : TabW w M b L fl) (hL : L.length ≤ 50000) : Ret Try.prog 16 [.pointer (some ⟨b, 0, none⟩)].toArray w fun r w' => (∃ cb, r = .pointer (some ⟨cb, 0, none⟩) ∧ TabW w' (fun x => w.heap.size ≤ x) cb L fl) ∧ Below w.heap.size w w' := by
  have h' := h
  have hqq := h'
  obtain ⟨mb, m, ov, hT⟩ := hqq
  have hol := ownOf_len fl L
  have hmx : maxLen = 9223372036854775807 := rfl
  refine Ret.of (n := 47) (rs := #[.tmp 2]) Try.func16 rfl rfl rfl (by simp) ?_
  refine WC.seqR rfl ?_
  refine WL.y rfl (Y.assign) ?_
  refine WL.nil ?_
  refine WC.seq ?_
  refine WC.seqR rfl ?_
  refine WL.y rfl (Y.move) ?_
  refine WL.y rfl (Y.eqpn Try.underlying23 rfl rfl) ?_
  refine WL.nil ?_
  refine WC.condF (rfl) ?_
  refine WC.skip (thenQ.normal ?_)
  refine WC.seq ?_
  refine WC.cut (fun f ds w' => ds = [] ∧ Below w.heap.size w w' ∧ (∃ nb cb ov', Blk w' cb 27 [.map (some nb), ov', .int .u64 (newestL L), .int .u64 fl] ∧ MapN ku w' nb [] ∧ RowW w' (fun x => w.heap.size ≤ x) 62 ov' (ownOf fl L) ∧ w.heap.size ≤ nb ∧ w.heap.size ≤ cb ∧ ∃ J, f = Go.Cx.ov J [(0, .pointer (some ⟨b, 0, none⟩)), (3, .pointer (some ⟨cb, 0, none⟩))])) ?_ ?_
  · refine WC.regionTB (fun i => Nat.beq i 20) (.one 0 .any (.one 1 .any (.one 2 .any (.one 3 .held (.one 4 .held (.one 6 .any (.one 7 .any (.one 8 .any (.one 9 .held (.one 11 .any (.one 12 .any (.one 13 .any (.one 14 .held (.one 15 .any (.one 16 .any (.one 17 .any (.one 18 .held (.two 5 10 (.one 10 .seq (.one 19 .any (.one 20 .seq (.one 21 .any .nil)))) (.one 5 .seq (.one 19 .any (.one 20 .seq (.one 21 .any .nil)))))))))))))))))))))) mixed (by kernel_rfl) (fun w3x hS3 hheap => ?_)
    have kr3 := hS3
    refine RT.any rfl rfl (fun _ => Y.move) ?_
    refine RT.any rfl rfl (fun _ => Y.nilCheck rfl) ?_
    refine RT.any rfl rfl (fun _ => Y.fieldAddr fi27f0 ti24 (by decide) rfl (rfl) _) ?_
    refine RT.held rfl rfl hS3 (fun _ hb9 => Y.load1 Try.underlying24 rfl rfl (cell_bel (hT.blk.cell 0) hb9)) ?_
    refine RT.held rfl rfl hS3 (fun _ hb9 => (Y.lenV (M := M) (m := m) Try.underlying24 rfl (hT.notes.bel hb9).map)) ?_
    refine RT.any rfl rfl (fun _ => Y.move) ?_
    refine RT.any rfl rfl (fun _ => Y.nilCheck rfl) ?_
    refine RT.any rfl rfl (fun _ => Y.fieldAddr fi27f1 ti25 (by decide) rfl (rfl) _) ?_
    refine RT.held rfl rfl hS3 (fun _ hb9 => Y.load1 Try.underlying25 rfl rfl (cell_bel (hT.blk.cell 1) hb9)) ?_
    refine RT.any rfl rfl (fun _ => Y.move) ?_
    refine RT.any rfl rfl (fun _ => Y.nilCheck rfl) ?_
    refine RT.any rfl rfl (fun _ => Y.fieldAddr fi27f2 ti22 (by decide) rfl (rfl) _) ?_
    refine RT.held rfl rfl hS3 (fun _ hb9 => Y.load1 Try.underlying22 rfl rfl (cell_bel (hT.blk.cell 2) hb9)) ?_
    refine RT.any rfl rfl (fun _ => Y.move) ?_
    refine RT.any rfl rfl (fun _ => Y.nilCheck rfl) ?_
    refine RT.any rfl rfl (fun _ => Y.fieldAddr fi27f3 ti22 (by decide) rfl (rfl) _) ?_
    refine RT.held rfl rfl hS3 (fun _ hb9 => Y.load1 Try.underlying22 rfl rfl (cell_bel (hT.blk.cell 3) hb9)) ?_
    refine RT.two ?_ ?_
    · refine RT.eex rfl rfl (E.makeMapE (ki := .i64) (n := (m.length : Int)) Try.underlying24 (by intro o ho; cases ho; rfl)) ?_ ?_
      · exact fun _ _ h9 => .inr (fun h => Below.step h (by obtain ⟨_, _, _, _, h8⟩ := h9; exact h8))
      rintro _ w13 ⟨nb, rfl, hnb, hm13, hb13⟩ 
      have k13 := Below.step kr3 hb13
      refine RT.call rfl rfl (C.func go31) (cloneowner_ret2 (hT.own.bel k13) (by omega)) ?_
      rintro _ w18 ⟨⟨a18, c18, rfl, h18⟩, hb18⟩
      refine ⟨.inr (fun h => Below.step h hb18), ?_⟩
      have k18 := Below.step k13 hb18
      refine RT.any rfl rfl (fun _ => Y.build (cells := #[.map (some nb), .slice a18 (ownOf fl L).length c18, .int .u64 (newestL L), .int .u64 fl]) (by kernel_rfl) _) ?_
      refine RT.eex rfl rfl (E.boxX) ?_ ?_
      · exact fun _ _ _ => .inl rfl
      rintro _ w28 ⟨rfl, hB28, hb28⟩
      have k28 := Below.step k18 hb28
      refine RT.any rfl rfl (fun _ => Y.assign) ?_
      refine RT.nil (thenQ.normal ?_)
      (have q1 := hS3.size; have q2 := hb13.size; have q3 := hb18.size; have q4 := hb28.size; first | exact ⟨rfl, Below.step (Below.step (Below.step hS3 hb13) hb18) hb28, nb, _, _, hB28, (hm13.bel hb18).bel hb28, (h18.bel hb28).mono (fun c _ h => by omega), by omega, by omega, _, ov_mk ⟨rfl, rfl, trivial⟩⟩ | exact ⟨rfl, Below.step (Below.step (Below.step hS3 hb18) hb13) hb28, nb, _, _, hB28, hm13.bel hb28, ((h18.bel hb13).bel hb28).mono (fun c _ h => by omega), by omega, by omega, _, ov_mk ⟨rfl, rfl, trivial⟩⟩)
    · refine RT.call rfl rfl (C.func go31) (cloneowner_ret2 (hT.own.bel kr3) (by omega)) ?_
      rintro _ w18 ⟨⟨a18, c18, rfl, h18⟩, hb18⟩
      refine ⟨.inr (fun h => Below.step h hb18), ?_⟩
      have k18 := Below.step kr3 hb18
      refine RT.eex rfl rfl (E.makeMapE (ki := .i64) (n := (m.length : Int)) Try.underlying24 (by intro o ho; cases ho; rfl)) ?_ ?_
      · exact fun _ _ h9 => .inr (fun h => Below.step h (by obtain ⟨_, _, _, _, h8⟩ := h9; exact h8))
      rintro _ w13 ⟨nb, rfl, hnb, hm13, hb13⟩ 
      have k13 := Below.step k18 hb13
      refine RT.any rfl rfl (fun _ => Y.build (cells := #[.map (some nb), .slice a18 (ownOf fl L).length c18, .int .u64 (newestL L), .int .u64 fl]) (by kernel_rfl) _) ?_
      refine RT.eex rfl rfl (E.boxX) ?_ ?_
      · exact fun _ _ _ => .inl rfl
      rintro _ w28 ⟨rfl, hB28, hb28⟩
      have k28 := Below.step k13 hb28
      refine RT.any rfl rfl (fun _ => Y.assign) ?_
      refine RT.nil (thenQ.normal ?_)
      (have q1 := hS3.size; have q2 := hb13.size; have q3 := hb18.size; have q4 := hb28.size; first | exact ⟨rfl, Below.step (Below.step (Below.step hS3 hb13) hb18) hb28, nb, _, _, hB28, (hm13.bel hb18).bel hb28, (h18.bel hb28).mono (fun c _ h => by omega), by omega, by omega, _, ov_mk ⟨rfl, rfl, trivial⟩⟩ | exact ⟨rfl, Below.step (Below.step (Below.step hS3 hb18) hb13) hb28, nb, _, _, hB28, hm13.bel hb28, ((h18.bel hb13).bel hb28).mono (fun c _ h => by omega), by omega, by omega, _, ov_mk ⟨rfl, rfl, trivial⟩⟩)
  · rintro _ _ wC ⟨rfl, kC, nb, cb, ov', hBc, hmn, hro, hnb, hcb, J, rfl⟩
    have hN := hT.notes.bel kC
    have hmlt : ∀ c, mb = some c → c < w.heap.size := by
      intro c e
      have := hT.notes.map
      rw [e] at this
      exact this.2.lt
    have lnb := hmn.lt
    have lcb := hBc.lt
    have hbc : nb ≠ cb := fun e => by
      subst e
      have hqq := hmn.at
      obtain ⟨es, c, h1, _⟩ := hqq
      have h2 := hBc
      unfold Blk at h2
      rw [h1] at h2
      cases h2
    refine WC.seq ?_
    refine WC.seqR rfl ?_
    refine WL.y rfl (Y.move) ?_
    refine WL.y rfl (Y.nilCheck rfl) ?_
    refine WL.y rfl (Y.fieldAddr fi27f0 ti24 (by decide) rfl (rfl) _) ?_
    refine WL.y rfl (Y.load1 Try.underlying24 rfl rfl ((hT.blk.bel kC).cell 0)) ?_
    refine WL.eex rfl (E.rangeV (M := M) (m := m) Try.underlying24 rfl hN.map) ?_
    rintro _ w33 ⟨rfl, hit33, hb33⟩
    have k33 := Below.step kC hb33
    refine WL.nil ?_
    refine WC.block ?_
    have s33 := hb33.size
    have hg0 : NotesW w33 (fun x => w.heap.size ≤ x) (some nb) [] (fun _ => []) fl := ⟨⟨hnb, hmn.bel hb33⟩, by simp, (fun c v hv => by cases hv), fun c _ => rfl, (fun c c' v v' x _ hv => by cases hv)⟩
    refine WC.loop (S := List (Int × Value)) List.length (fun left f ds w' => ds = [] ∧ Below w.heap.size w w' ∧ w33.heap.size ≤ w'.heap.size ∧ Blk w' cb 27 [.map (some nb), ov', .int .u64 (newestL L), .int .u64 fl] ∧ RowW w' (fun x => w.heap.size ≤ x) 62 ov' (ownOf fl L) ∧ IterAt ku w' wC.heap.size mb left ∧ (∀ p ∈ left, p ∈ m) ∧ (∃ mj gj, NotesW w' (fun x => w.heap.size ≤ x) (some nb) mj gj fl ∧ ∀ c, gj c = ofC c L ∨ (gj c = [] ∧ ∃ u, (c, u) ∈ left)) ∧ ∃ J, f = Go.Cx.ov J [(3, .pointer (some ⟨cb, 0, none⟩)), (33, .pointer (some ⟨wC.heap.size, 0, none⟩))]) m ?_ ?_
    · refine ⟨rfl, Below.step kC hb33, Nat.le_refl _, hBc.bel hb33, hro.bel hb33, hit33, fun _ h => h, ⟨[], _, hg0, fun c => ?_⟩, _, ov_mk ⟨rfl, rfl, trivial⟩⟩
      cases e : mget c m with
      | none => exact .inl (hT.notes.no c e).symm
      | some u => exact .inr ⟨rfl, u, mget_mem e⟩
    · rintro left _ _ wL ⟨rfl, kL, sL, hBL, hrL, hit, hsub, ⟨mj, gj, hNj, hgj⟩, J, rfl⟩
      have hitl := hit.lt
      by_cases hl : left = []
      · have hit' : IterAt ku wL wC.heap.size mb [] := hl ▸ hit
        have hfin : TabW wL (fun x => w.heap.size ≤ x) cb L fl := by
          refine ⟨some nb, mj, ov', hcb, hBL, ?_, hrL⟩
          have e : gj = fun c => ofC c L := by
            funext c
            rcases hgj c with h | ⟨_, u, hu⟩
            · exact h
            · rw [hl] at hu
              exact absurd hu (by simp)
          rw [← e]
          exact hNj
        refine WC.seqR rfl ?_
        refine WL.eex rfl (E.nextEnd rfl hit') ?_
        rintro _ _ ⟨rfl, rfl⟩
        refine WL.y rfl (Y.extract rfl rfl) ?_
        refine WL.nil ?_
        refine WC.seq ?_
        refine WC.condF (rfl) ?_
        refine WC.exit (thenQ.exit (thenQ.exit (inBlockQ.hit (thenQ.normal ?_))))
        refine WC.seqR rfl ?_
        refine WL.y rfl (Y.move) ?_
        refine WL.y rfl (Y.assign) ?_
        refine WL.nil ?_
        refine WC.ret (endQ.one (.inr rfl) ?_)
        exact ⟨⟨cb, rfl, hfin⟩, kL⟩
      · skip
        skip
        refine WC.seqR rfl ?_
        refine WL.eex rfl (E.nextOne rfl hit hl) ?_
        rintro _ w34 ⟨l1, a, u, l2, rfl, hl2, hit34, hie34, hg34⟩
        have s34 := hg34.size
        have k34 : Below w.heap.size w w34 := Below.stepG kL hg34 kC.size
        have hob : ∀ c, (∃ es cl, wL.heap[c]? = some (.map es cl)) ∨ (∃ cur t, wL.heap[c]? = some (.cells cur t (0, 0))) → c ≠ wC.heap.size := off_iter hit
        have hB34 := hBL.grown hg34 (by omega)
        have hr34 : RowW w34 (fun x => w.heap.size ≤ x) 62 ov' (ownOf fl L) := hrL.keep fun c hc => hg34.block c (hrL.in c hc).2.1 (fun e => hob c (.inr ⟨_, _, (hrL.in c hc).2.2.choose_spec⟩) (by simpa using e))
        have hN34 : NotesW w34 (fun x => w.heap.size ≤ x) (some nb) mj gj fl := hNj.keep fun c _ h2 h3 => hg34.block c h2 (fun e => hob c (h3.elim (fun e2 => .inl (by have := hNj.map.2.at; obtain ⟨es, cl, h, _⟩ := this; simp only [Option.some.injEq] at e2; subst e2; exact ⟨es, cl, h⟩)) (fun ⟨cur, h⟩ => .inr ⟨cur, _, h⟩)) (by simpa using e))
        have hmem : (a, u) ∈ m := hsub _ (by rw [hl2]; simp)
        have hga := mem_mget hT.notes.nd hmem
        have hla := ofC_len a L
        have hqq := hT.notes.has a u hga
        obtain ⟨hne, k, hru, hk⟩ := hqq
        refine WL.y rfl (Y.extract rfl rfl) ?_
        refine WL.nil ?_
        refine WC.seq ?_
        refine WC.condT (rfl) ?_
        refine WC.skip (thenQ.normal ?_)
        refine WC.block ?_
        refine WC.seqR rfl ?_
        refine WL.y rfl (Y.entryN rfl hie34) ?_
        refine WL.y rfl (Y.extract rfl rfl) ?_
        refine WL.y rfl (Y.extract rfl rfl) ?_
        refine WL.y rfl (Y.assign) ?_
        refine WL.y rfl (Y.assign) ?_
        refine WL.nil ?_
        refine WC.regionB (fun i => Nat.beq i 7) [(0, .any), (1, .any), (2, .any), (3, .held), (4, .any), (5, .any), (6, .seq), (7, .seq)] mixed (by kernel_rfl) (fun w7x hS7 hheap => ?_)
        have kr7 := Below.step k34 hS7
        refine RL.any rfl rfl (fun _ => Y.move) ?_
        refine RL.any rfl rfl (fun _ => Y.nilCheck rfl) ?_
        refine RL.any rfl rfl (fun _ => Y.fieldAddr fi27f0 ti24 (by decide) rfl (rfl) _) ?_
        refine RL.held rfl rfl hS7 (fun _ hb9 => Y.load1 Try.underlying24 rfl rfl (cell_bel (hB34.cell 0) hb9)) ?_
        refine RL.any rfl rfl (fun _ => Y.move) ?_
        refine RL.any rfl rfl (fun _ => Y.move) ?_
        refine RL.call rfl rfl (C.func go32) (clonenote_ret (hru.bel (Below.step k34 hS7)) (by rw [List.length_drop]; omega)) ?_
        rintro v45 w45 ⟨h45, hb45⟩
        refine ⟨.inr (fun h => Below.step h hb45), ?_⟩
        have k45 := Below.step kr7 hb45
        refine RL.eex rfl rfl (E.mapUpdateN (kv := ku) (m := mj) (a := a) Try.underlying24 kd rfl ((hN34.map.2.bel hS7).bel hb45) rfl rfl) ?_ ?_
        · exact fun _ _ _ => .inl rfl
        rintro _ w7 ⟨hm7, hg7⟩
        refine RL.nil (inBlockQ.normal (thenQ.normal ?_))
        have kk : Below w34.heap.size w34 w45 := Below.step hS7 hb45
        have s7 := hS7.size
        have s45 := hb45.size
        have s77 := hg7.size
        have s0 := kC.size
        have hr7 : RowW w7 (fun x => w.heap.size ≤ x) 67 v45 ((if a = a then ofC a L else gj a).drop k) := by
          rw [if_pos rfl]
          refine (h45.keep (w' := w7) fun c hc => hg7.block c (h45.in c hc).2.1 (fun e => ?_)).mono (fun c _ h => by omega)
          have := (h45.in c hc).1
          simp only [Option.some.injEq] at e
          omega
        have hN7 : NotesW w7 (fun x => w.heap.size ≤ x) (some nb) (mput a v45 mj) (fun c => if c = a then ofC a L else gj c) fl := by
          refine hN34.put (k := k) (fun _ _ h => h) hm7 (fun c hc => if_neg hc) (by simpa using hne) hr7 (by simpa using hk) (fun c hc h1 _ => ?_) (fun c hc => .inr (by have := (h45.in c hc).1; omega))
          rw [hg7.block c (by omega) (fun e => h1 (by simpa using e))]
          exact kk.block c hc
        refine ⟨l1 ++ l2, ?_, rfl, Below.stepG (Below.step k34 kk) hg7 hnb, by omega, (hB34.bel kk).grown hg7 (fun e => hbc e.symm), (hr34.bel kk).keep (fun c hc => hg7.block c ((hr34.bel kk).in c hc).2.1 (fun e => ?_)), (hit34.bel kk).kept (fun c hc e => hg7.block c hc (fun e2 => ?_)), fun p hp => hsub p ?_, ⟨_, _, hN7, fun c => ?_⟩, _, ov_mk ⟨rfl, rfl, trivial⟩⟩
        · rw [hl2]
          simp only [List.length_append, List.length_cons]
          omega
        · have := (hN34.map.2.bel kk).at
          obtain ⟨es, cl, h, _⟩ := this
          simp only [Option.some.injEq] at e
          subst e
          exact (hr34.bel kk).offM h hc
        · simp only [Option.some.injEq] at e2
          rcases e with e | e
          · omega
          · have := hmlt c e
            omega
        · rw [hl2]
          rcases List.mem_append.1 hp with h | h
          · exact List.mem_append.2 (.inl h)
          · exact List.mem_append.2 (.inr (List.mem_cons_of_mem _ h))
        · by_cases e : c = a
          · left
            show (if c = a then ofC a L else gj c) = _
            rw [if_pos e, e]
          · show (if c = a then ofC a L else gj c) = _ ∨ ((if c = a then ofC a L else gj c) = _ ∧ _)
            rw [if_neg e]
            rcases hgj c with h | ⟨h, u', hu⟩
            · exact .inl h
            · refine .inr ⟨h, u', ?_⟩
              rw [hl2] at hu
              rcases List.mem_append.1 hu with h | h
              · exact List.mem_append.2 (.inl h)
              · rcases List.mem_cons.1 h with h | h
                · exact absurd (congrArg Prod.fst h) e
                · exact List.mem_append.2 (.inr h)
end Go.Proofs.Ytlhhognabmnlmaa
