/-
  table: Note: walk.
-/
import Derived.Test.YtlhhognabmnlmaaTab4
namespace Go.Proofs.Ytlhhognabmnlmaa
open Go Go.RowKit Go.Cx
set_option linter.unusedVariables false
set_option maxHeartbeats 8000000
theorem isNumT (w : World) (n : Int) (h : 0 < n ∧ n ≤ MX) : Ret Try.prog 28 [.int .u64 n].toArray w fun v w' => v = .bool true ∧ w = w' := (isNumber_ret w n (by omega)).mono fun v w' ⟨a, b⟩ => ⟨by rw [a, decide_eq_true h], b⟩
theorem isNumF (w : World) (n : Int) (h0 : 0 ≤ n) (h : ¬ (0 < n ∧ n ≤ MX)) : Ret Try.prog 28 [.int .u64 n].toArray w fun v w' => v = .bool false ∧ w = w' := (isNumber_ret w n h0).mono fun v w' ⟨a, b⟩ => ⟨by rw [a, decide_eq_false h], b⟩
theorem E.appendR {P : Program} {f : Fr} {w : World} {d : Option Tmp} {ty : TypeId} {pos : String} {aft : Array Edge} {g : Option (Nat × Bool)} {x y : Operand} {at' e : TypeId} {zv : Value} {k by' bl n m : Nat} {xs news : List Value} (ht : P.underlying at' = some (.slice e)) (hi : TI P e zv k by') (hzs : zv.cells.size = k) (hk : 0 < k)
    (hs : OwnK w bl e k (ev f x) n xs) (hy : SlK w k (ev f y) m news) (h1 : ∀ u ∈ news, One u = true) (hb : (n + m) * by' ≤ 140737488355328) (hm : n + m ≤ maxLen) :
    ∃ v w', E P ⟨d, .call ⟨.builtin .append, #[x, y], #[at', at']⟩, ty, pos, aft, g⟩ f w v w' ∧ ((∃ bl', OwnK w' bl' e k v (n + m) (xs ++ news) ∧ ((bl' = bl ∧ (ev f x).ownBlock = some bl) ∨ w.heap.size ≤ bl')) ∧ w.grownBy w' (ev f x).ownBlock) := by
  by_cases hv : ev f x = .slice none 0 0
  · have hs' : w.ownsRow w.heap.size e k (ev f x) n xs := by
      rw [hv]
      rcases hs.2 with ⟨_, h0⟩ | ⟨o, cap, cur, hv2, _⟩
      · have h2 := hs.1
        subst h0
        have : xs = [] := List.eq_nil_of_length_eq_zero (by simpa using h2)
        subst this
        exact World.ownsRow_nil _ _ _ _
      · rw [hv] at hv2; cases hv2
    have hqq := E.append (P := P) (f := f) (w := w) (d := d) (ty := ty) (pos := pos) (aft := aft) (g := g) (x := x) (y := y) ht hi hzs hk hs' hy h1 hb hm (Nat.le_refl _)
    obtain ⟨v, w', hE, ho, hb', hg⟩ := hqq
    have hqq := OwnK.of_own ho
    obtain ⟨bl', hB, hO⟩ := hqq
    exact ⟨v, w', hE, ⟨bl', hO, .inr hB⟩, hg⟩
  · have hqq := E.appendK (P := P) (f := f) (w := w) (d := d) (ty := ty) (pos := pos) (aft := aft) (g := g) (x := x) (y := y) ht ht hi hzs hk hs hy h1 hb hm
    obtain ⟨v, w', hE, ⟨bl', hO, hB⟩, hg⟩ := hqq
    refine ⟨v, w', hE, ⟨bl', hO, hB.imp (fun e => ⟨e, ?_⟩) id⟩, hg⟩
    rcases hs.own with e | e
    · rcases hs.2 with ⟨e2, _⟩ | ⟨o, cap, cur, e2, _⟩
      · exact absurd e2 hv
      · rw [e2]; rfl
    · exact e
theorem cnt_append (fl : Int) (l m : List (Int × Int)) : cnt fl l ≤ cnt fl (l ++ m) := by
  unfold cnt
  rw [List.filter_append, List.length_append]
  omega
/-- what an append has given: the row again -/
theorem RowW.append {w w' : World} {M M' : Nat → Prop} {t : TypeId} {v v' : Value} {l : List (Int × Int)} {p : Int × Int} {bl bl' : Nat} (h1 : v = .slice none 0 0 ∨ M bl) (hM : ∀ b, M b → M' b) (hN : ∀ b, w.heap.size ≤ b → M' b) (ho : OwnK w' bl' t 2 v' (l.length + 1) (l.flatMap pr ++ pr p)) (hbl : (bl' = bl ∧ v.ownBlock = some bl) ∨ w.heap.size ≤ bl') : RowW w' M' t v' (l ++ [p]) ∧ ∀ x, v'.ownBlock = some x → v.ownBlock = some x ∨ w.heap.size ≤ x := by
  refine ⟨⟨bl', ?_, by simpa using ho⟩, fun x hx => ?_⟩
  · rcases hbl with ⟨rfl, e⟩ | e
    · rcases h1 with h | h
      · rw [h] at e; cases e
      · exact .inr (hM _ h)
    · exact .inr (hN _ e)
  · rcases ho.own with e | e <;> rw [e] at hx <;> cases hx
    exact hbl.imp (fun h => by rw [h.2, h.1]) id
theorem noteE_c {L : List Nt} {n : Nt} (h : ¬ (0 < n.c ∧ n.c ≤ MX)) : noteE L n = 2 := by unfold noteE; rw [if_pos h]
theorem noteE_n {L : List Nt} {n : Nt} (h : 0 < n.c ∧ n.c ≤ MX) (h2 : ¬ (0 < n.v ∧ n.v ≤ MX) ∨ ¬ (0 < n.i ∧ n.i ≤ MX)) : noteE L n = 7 := by unfold noteE; rw [if_neg (fun e => e h), if_pos h2]
theorem noteE_o {L : List Nt} {n : Nt} (h : 0 < n.c ∧ n.c ≤ MX) (h2 : 0 < n.v ∧ n.v ≤ MX) (h3 : 0 < n.i ∧ n.i ≤ MX) (h4 : n.v ≤ newestL L ∨ n.i ≤ lastL n.c L) : noteE L n = 15 := by unfold noteE; rw [if_neg (fun e => e h), if_neg (fun e => e.elim (fun e => e h2) (fun e => e h3)), if_pos h4]
theorem noteE_g {L : List Nt} {n : Nt} (h : 0 < n.c ∧ n.c ≤ MX) (h2 : 0 < n.v ∧ n.v ≤ MX) (h3 : 0 < n.i ∧ n.i ≤ MX) (h4 : ¬ (n.v ≤ newestL L ∨ n.i ≤ lastL n.c L)) (h5 : lastL n.c L + 1 < n.i) : noteE L n = 14 := by unfold noteE; rw [if_neg (fun e => e h), if_neg (fun e => e.elim (fun e => e h2) (fun e => e h3)), if_neg h4, if_pos h5]
theorem noteE_ok {L : List Nt} {n : Nt} (h : 0 < n.c ∧ n.c ≤ MX) (h2 : 0 < n.v ∧ n.v ≤ MX) (h3 : 0 < n.i ∧ n.i ≤ MX) (h4 : ¬ (n.v ≤ newestL L ∨ n.i ≤ lastL n.c L)) (h5 : ¬ lastL n.c L + 1 < n.i) : noteE L n = 0 := by unfold noteE; rw [if_neg (fun e => e h), if_neg (fun e => e.elim (fun e => e h2) (fun e => e h3)), if_neg h4, if_neg h5]
/-- what a note leaves -/
def NoteR (w : World) (M : Nat → Prop) (b : Nat) (L : List Nt) (fl : Int) (n : Nt) (v : Value) (w' : World) : Prop := v = .int .i64 (noteE L n) ∧ TabW w' (fun x => M x ∨ w.heap.size ≤ x) b (if noteE L n = 0 then L ++ [n] else L) fl ∧ Kept M w w'
theorem NoteR.err {w : World} {M : Nat → Prop} {b : Nat} {L : List Nt} {fl : Int} {n : Nt} {e : Int} (h : TabW w M b L fl) (he : noteE L n = e) (h0 : e ≠ 0) : NoteR w M b L fl n (.int .i64 e) w :=
  ⟨by rw [he], by rw [he, if_neg h0]; exact h.mono (fun _ _ h => .inl h), Kept.refl _ _⟩
theorem note_err {w : World} {M : Nat → Prop} {b : Nat} {L : List Nt} {fl : Int} {n : Nt} (hc : 0 ≤ n.c) (hv : 0 ≤ n.v) (hi : 0 ≤ n.i) (h : TabW w M b L fl) (hg : Good L) (he : noteE L n ≠ 0) : Ret Try.prog 12 [.pointer (some ⟨b, 0, none⟩), .int .u64 n.c, .int .u64 n.v, .int .u64 n.i].toArray w (NoteR w M b L fl n) := by
  have h' := h
  have hqq := h'
  obtain ⟨mb, m, ov, hT⟩ := hqq
  have hlr := last_rng hg n.c
  simp only [MX] at hlr
  refine Ret.of (n := 97) (rs := #[.tmp 8]) Try.func12 rfl rfl rfl (by simp) ?_
  refine WC.seqR rfl ?_
  refine WL.y rfl (Y.assign) ?_
  refine WL.nil ?_
  refine WC.seq ?_
  refine WC.seqR rfl ?_
  refine WL.y rfl (Y.move) ?_
  refine WL.y rfl (Y.eqpn Try.underlying23 rfl rfl) ?_
  refine WL.nil ?_
  refine WC.condF (rfl) ?_
  refine WC.skip (thenQ.normal ?_)
  refine WC.seq ?_
  by_cases c1 : 0 < n.c ∧ n.c ≤ MX
  · by_cases c2 : 0 < n.v ∧ n.v ≤ MX
    · by_cases c3 : 0 < n.i ∧ n.i ≤ MX
      · by_cases c4 : n.v ≤ newestL L
        · refine WC.seqR rfl ?_
          refine WL.y rfl (Y.move) ?_
          refine WL.call rfl (C.func go28) (isNumT _ _ c1) ?_
          rintro _ _ ⟨rfl, rfl⟩
          refine WL.y rfl (Y.not rfl) ?_
          refine WL.nil ?_
          refine WC.condF (rfl) ?_
          refine WC.skip (thenQ.normal ?_)
          refine WC.seq ?_
          refine WC.seqR rfl ?_
          refine WL.y rfl (Y.move) ?_
          refine WL.call rfl (C.func go28) (isNumT _ _ c2) ?_
          rintro _ _ ⟨rfl, rfl⟩
          refine WL.y rfl (Y.not rfl) ?_
          refine WL.y rfl (Y.move) ?_
          refine WL.y rfl (Y.move) ?_
          refine WL.call rfl (C.func go28) (isNumT _ _ c3) ?_
          rintro _ _ ⟨rfl, rfl⟩
          refine WL.y rfl (Y.not rfl) ?_
          refine WL.y rfl (Y.pickF rfl) ?_
          refine WL.nil ?_
          refine WC.condF (rfl) ?_
          refine WC.skip (thenQ.normal ?_)
          refine WC.seqR rfl ?_
          refine WL.y rfl (Y.move) ?_
          refine WL.y rfl (Y.move) ?_
          refine WL.call rfl (C.func go13) (last_ret n.c h) ?_
          rintro _ _ ⟨rfl, rfl⟩
          refine WL.y rfl (Y.assign) ?_
          refine WL.nil ?_
          refine WC.seq ?_
          refine WC.seqR rfl ?_
          refine WL.y rfl (Y.move) ?_
          refine WL.y rfl (Y.move) ?_
          refine WL.y rfl (Y.nilCheck rfl) ?_
          refine WL.y rfl (Y.fieldAddr fi27f2 ti22 (by decide) rfl (rfl) _) ?_
          refine WL.y rfl (Y.load1 Try.underlying22 rfl rfl (hT.blk.cell 2)) ?_
          refine WL.y rfl (Y.dT (Y.leq rfl rfl) (by omega)) ?_
          refine WL.y rfl (Y.move) ?_
          refine WL.off rfl ?_
          refine WL.off rfl ?_
          refine WL.off rfl ?_
          refine WL.y rfl (Y.pickT rfl) ?_
          refine WL.nil ?_
          refine WC.condT (rfl) ?_
          refine WC.seqR rfl ?_
          refine WL.y rfl (Y.assign) ?_
          refine WL.nil ?_
          refine WC.ret (thenQ.ret (endQ.one (.inr rfl) ?_))
          exact NoteR.err h (noteE_o c1 c2 c3 (.inl c4)) (by decide)
        · by_cases c5 : n.i ≤ lastL n.c L
          · refine WC.seqR rfl ?_
            refine WL.y rfl (Y.move) ?_
            refine WL.call rfl (C.func go28) (isNumT _ _ c1) ?_
            rintro _ _ ⟨rfl, rfl⟩
            refine WL.y rfl (Y.not rfl) ?_
            refine WL.nil ?_
            refine WC.condF (rfl) ?_
            refine WC.skip (thenQ.normal ?_)
            refine WC.seq ?_
            refine WC.seqR rfl ?_
            refine WL.y rfl (Y.move) ?_
            refine WL.call rfl (C.func go28) (isNumT _ _ c2) ?_
            rintro _ _ ⟨rfl, rfl⟩
            refine WL.y rfl (Y.not rfl) ?_
            refine WL.y rfl (Y.move) ?_
            refine WL.y rfl (Y.move) ?_
            refine WL.call rfl (C.func go28) (isNumT _ _ c3) ?_
            rintro _ _ ⟨rfl, rfl⟩
            refine WL.y rfl (Y.not rfl) ?_
            refine WL.y rfl (Y.pickF rfl) ?_
            refine WL.nil ?_
            refine WC.condF (rfl) ?_
            refine WC.skip (thenQ.normal ?_)
            refine WC.seqR rfl ?_
            refine WL.y rfl (Y.move) ?_
            refine WL.y rfl (Y.move) ?_
            refine WL.call rfl (C.func go13) (last_ret n.c h) ?_
            rintro _ _ ⟨rfl, rfl⟩
            refine WL.y rfl (Y.assign) ?_
            refine WL.nil ?_
            refine WC.seq ?_
            refine WC.seqR rfl ?_
            refine WL.y rfl (Y.move) ?_
            refine WL.y rfl (Y.move) ?_
            refine WL.y rfl (Y.nilCheck rfl) ?_
            refine WL.y rfl (Y.fieldAddr fi27f2 ti22 (by decide) rfl (rfl) _) ?_
            refine WL.y rfl (Y.load1 Try.underlying22 rfl rfl (hT.blk.cell 2)) ?_
            refine WL.y rfl (Y.dF (Y.leq rfl rfl) (by omega)) ?_
            refine WL.y rfl (Y.move) ?_
            refine WL.y rfl (Y.move) ?_
            refine WL.y rfl (Y.move) ?_
            refine WL.y rfl (Y.dT (Y.leq rfl rfl) (by omega)) ?_
            refine WL.y rfl (Y.pickF rfl) ?_
            refine WL.nil ?_
            refine WC.condT (rfl) ?_
            refine WC.seqR rfl ?_
            refine WL.y rfl (Y.assign) ?_
            refine WL.nil ?_
            refine WC.ret (thenQ.ret (endQ.one (.inr rfl) ?_))
            exact NoteR.err h (noteE_o c1 c2 c3 (.inr c5)) (by decide)
          · have c6 : lastL n.c L + 1 < n.i := by
              by_cases e : lastL n.c L + 1 < n.i
              · exact e
              · exact absurd (noteE_ok c1 c2 c3 (fun e => e.elim c4 c5) e) he
            refine WC.seqR rfl ?_
            refine WL.y rfl (Y.move) ?_
            refine WL.call rfl (C.func go28) (isNumT _ _ c1) ?_
            rintro _ _ ⟨rfl, rfl⟩
            refine WL.y rfl (Y.not rfl) ?_
            refine WL.nil ?_
            refine WC.condF (rfl) ?_
            refine WC.skip (thenQ.normal ?_)
            refine WC.seq ?_
            refine WC.seqR rfl ?_
            refine WL.y rfl (Y.move) ?_
            refine WL.call rfl (C.func go28) (isNumT _ _ c2) ?_
            rintro _ _ ⟨rfl, rfl⟩
            refine WL.y rfl (Y.not rfl) ?_
            refine WL.y rfl (Y.move) ?_
            refine WL.y rfl (Y.move) ?_
            refine WL.call rfl (C.func go28) (isNumT _ _ c3) ?_
            rintro _ _ ⟨rfl, rfl⟩
            refine WL.y rfl (Y.not rfl) ?_
            refine WL.y rfl (Y.pickF rfl) ?_
            refine WL.nil ?_
            refine WC.condF (rfl) ?_
            refine WC.skip (thenQ.normal ?_)
            refine WC.seqR rfl ?_
            refine WL.y rfl (Y.move) ?_
            refine WL.y rfl (Y.move) ?_
            refine WL.call rfl (C.func go13) (last_ret n.c h) ?_
            rintro _ _ ⟨rfl, rfl⟩
            refine WL.y rfl (Y.assign) ?_
            refine WL.nil ?_
            refine WC.seq ?_
            refine WC.seqR rfl ?_
            refine WL.y rfl (Y.move) ?_
            refine WL.y rfl (Y.move) ?_
            refine WL.y rfl (Y.nilCheck rfl) ?_
            refine WL.y rfl (Y.fieldAddr fi27f2 ti22 (by decide) rfl (rfl) _) ?_
            refine WL.y rfl (Y.load1 Try.underlying22 rfl rfl (hT.blk.cell 2)) ?_
            refine WL.y rfl (Y.dF (Y.leq rfl rfl) (by omega)) ?_
            refine WL.y rfl (Y.move) ?_
            refine WL.y rfl (Y.move) ?_
            refine WL.y rfl (Y.move) ?_
            refine WL.y rfl (Y.dF (Y.leq rfl rfl) (by omega)) ?_
            refine WL.y rfl (Y.pickF rfl) ?_
            refine WL.nil ?_
            refine WC.condF (rfl) ?_
            refine WC.skip (thenQ.normal ?_)
            refine WC.seq ?_
            refine WC.seqR rfl ?_
            refine WL.y rfl (Y.move) ?_
            refine WL.y rfl (Y.move) ?_
            refine WL.y rfl (Y.addU64 rfl rfl (by omega)) ?_
            refine WL.y rfl (Y.dT (Y.gtr rfl rfl) (by omega)) ?_
            refine WL.nil ?_
            refine WC.condT (rfl) ?_
            refine WC.seqR rfl ?_
            refine WL.y rfl (Y.assign) ?_
            refine WL.nil ?_
            refine WC.ret (thenQ.ret (endQ.one (.inr rfl) ?_))
            exact NoteR.err h (noteE_g c1 c2 c3 (fun e => e.elim c4 c5) c6) (by decide)
      · refine WC.seqR rfl ?_
        refine WL.y rfl (Y.move) ?_
        refine WL.call rfl (C.func go28) (isNumT _ _ c1) ?_
        rintro _ _ ⟨rfl, rfl⟩
        refine WL.y rfl (Y.not rfl) ?_
        refine WL.nil ?_
        refine WC.condF (rfl) ?_
        refine WC.skip (thenQ.normal ?_)
        refine WC.seq ?_
        refine WC.seqR rfl ?_
        refine WL.y rfl (Y.move) ?_
        refine WL.call rfl (C.func go28) (isNumT _ _ c2) ?_
        rintro _ _ ⟨rfl, rfl⟩
        refine WL.y rfl (Y.not rfl) ?_
        refine WL.y rfl (Y.move) ?_
        refine WL.y rfl (Y.move) ?_
        refine WL.call rfl (C.func go28) (isNumF _ _ hi c3) ?_
        rintro _ _ ⟨rfl, rfl⟩
        refine WL.y rfl (Y.not rfl) ?_
        refine WL.y rfl (Y.pickF rfl) ?_
        refine WL.nil ?_
        refine WC.condT (rfl) ?_
        refine WC.seqR rfl ?_
        refine WL.y rfl (Y.assign) ?_
        refine WL.nil ?_
        refine WC.ret (thenQ.ret (endQ.one (.inr rfl) ?_))
        exact NoteR.err h (noteE_n c1 (.inr c3)) (by decide)
    · refine WC.seqR rfl ?_
      refine WL.y rfl (Y.move) ?_
      refine WL.call rfl (C.func go28) (isNumT _ _ c1) ?_
      rintro _ _ ⟨rfl, rfl⟩
      refine WL.y rfl (Y.not rfl) ?_
      refine WL.nil ?_
      refine WC.condF (rfl) ?_
      refine WC.skip (thenQ.normal ?_)
      refine WC.seq ?_
      refine WC.seqR rfl ?_
      refine WL.y rfl (Y.move) ?_
      refine WL.call rfl (C.func go28) (isNumF _ _ hv c2) ?_
      rintro _ _ ⟨rfl, rfl⟩
      refine WL.y rfl (Y.not rfl) ?_
      refine WL.y rfl (Y.move) ?_
      refine WL.off rfl ?_
      refine WL.off rfl ?_
      refine WL.off rfl ?_
      refine WL.y rfl (Y.pickT rfl) ?_
      refine WL.nil ?_
      refine WC.condT (rfl) ?_
      refine WC.seqR rfl ?_
      refine WL.y rfl (Y.assign) ?_
      refine WL.nil ?_
      refine WC.ret (thenQ.ret (endQ.one (.inr rfl) ?_))
      exact NoteR.err h (noteE_n c1 (.inl c2)) (by decide)
  · skip
    skip
    refine WC.seqR rfl ?_
    refine WL.y rfl (Y.move) ?_
    refine WL.call rfl (C.func go28) (isNumF _ _ hc c1) ?_
    rintro _ _ ⟨rfl, rfl⟩
    refine WL.y rfl (Y.not rfl) ?_
    refine WL.nil ?_
    refine WC.condT (rfl) ?_
    refine WC.seqR rfl ?_
    refine WL.y rfl (Y.assign) ?_
    refine WL.nil ?_
    refine WC.ret (thenQ.ret (endQ.one (.inr rfl) ?_))
    exact NoteR.err h (noteE_c c1) (by decide)
/-- a table on its way to a note more -/
structure Mid (w0 : World) (M : Nat → Prop) (b : Nat) (w : World) (mb : Option Nat) (m : List (Int × Value)) (ov : Value) (x : Int) (g : Int → List (Int × Int)) (fl : Int) (l : List (Int × Int)) : Prop where
  k : Kept M w0 w
  mem : M b
  blk : Blk w b 27 [.map mb, ov, .int .u64 x, .int .u64 fl]
  notes : NotesW w (fun x => M x ∨ w0.heap.size ≤ x) mb m g fl
  own : RowW w (fun x => M x ∨ w0.heap.size ≤ x) 62 ov l
theorem Mid.of {w : World} {M : Nat → Prop} {b : Nat} {L : List Nt} {fl : Int} {mb : Option Nat} {m : List (Int × Value)} {ov : Value} (h : TabC w M b L fl mb m ov) : Mid w M b w mb m ov (newestL L) (fun c => ofC c L) fl (ownOf fl L) :=
  ⟨Kept.refl _ _, h.mem, h.blk, h.notes.mono (fun _ _ h => .inl h), h.own.mono (fun _ _ h => .inl h)⟩
section
variable {w0 w w' : World} {M : Nat → Prop} {b b0 : Nat} {mb : Option Nat} {m m' : List (Int × Value)} {ov ov' : Value} {x x' fl : Int} {g g' : Int → List (Int × Int)} {l l' : List (Int × Int)}
theorem Mid.offM (h : Mid w0 M b w (some b0) m ov x g fl l) : b ≠ b0 := fun e => by
  subst e
  have := h.notes.map.2.at
  obtain ⟨es, c, h1, _⟩ := this
  have h2 := h.blk
  unfold Blk at h2
  rw [h1] at h2
  cases h2
theorem Mid.bel (h : Mid w0 M b w mb m ov x g fl l) (hb : Below w.heap.size w w') : Mid w0 M b w' mb m ov x g fl l :=
  ⟨h.k.bel hb, h.mem, h.blk.bel hb, h.notes.bel hb, h.own.bel hb⟩
/-- the table's own cells stored anew -/
theorem Mid.store (h : Mid w0 M b w mb m ov x g fl l) (hB : Blk w' b 27 [.map mb, ov, .int .u64 x', .int .u64 fl]) (hg : w.grownBy w' (some b)) : Mid w0 M b w' mb m ov x' g fl l :=
  ⟨h.k.trans (Kept.of_grown hg h.mem), h.mem, hB, h.notes.keep (fun c h1 h2 h3 => hg.block c h2 (fun e => by
    simp only [Option.some.injEq] at e
    subst e
    have hb := h.blk
    unfold Blk at hb
    rcases h3 with e | ⟨cur, e⟩
    · have := h.notes.map
      rw [e] at this
      have hqq := this.2.at
      obtain ⟨es, c', h5, _⟩ := hqq
      rw [h5] at hb
      cases hb
    · rw [e] at hb
      simp only [Option.some.injEq, Obj.cells.injEq] at hb
      exact absurd hb.2.1 (by decide))), h.own.keep (fun c hc => hg.block c (h.own.in c hc).2.1 (fun e => by
    simp only [Option.some.injEq] at e
    subst e
    exact h.own.off h.blk (by decide) hc))⟩
/-- a map made, where there was none -/
theorem Mid.made (h : Mid w0 M b w none m ov x g fl l) (hb : Below w.heap.size w w') (hm : MapN ku w' b0 []) (hb0 : w.heap.size ≤ b0) : Mid w0 M b w' none [] ov x g fl l ∧ NotesW w' (fun x => M x ∨ w0.heap.size ≤ x) (some b0) [] g fl := by
  have e : m = [] := h.notes.map
  subst e
  have h0 := h.k.size
  exact ⟨h.bel hb, ⟨⟨.inr (by omega), hm⟩, by simp, (fun c v hv => by cases hv), h.notes.no, (fun c c' v v' x _ hv => by cases hv)⟩⟩
end
/-- a client's note more -/
theorem Mid.note {w0 w w' : World} {M : Nat → Prop} {b b0 : Nat} {m : List (Int × Value)} {ov v' : Value} {x fl : Int} {L : List Nt} {l : List (Int × Int)} {n : Nt} {wa wb : World} {bl bl' k : Nat} (h : Mid w0 M b w (some b0) m ov x (fun c => ofC c L) fl l)
    (hb : Below w.heap.size w wa) (h1 : ((mget n.c m).getD (.slice none 0 0)) = .slice none 0 0 ∨ (M bl ∨ w0.heap.size ≤ bl)) (ho : OwnK wa bl 67 2 ((mget n.c m).getD (.slice none 0 0)) ((ofC n.c L).drop k).length (((ofC n.c L).drop k).flatMap pr)) (hk : k = 0 ∨ k < cnt fl (ofC n.c L))
    (ho' : OwnK wb bl' 67 2 v' (((ofC n.c L).drop k).length + 1) (((ofC n.c L).drop k).flatMap pr ++ pr (n.v, n.i))) (hbl : (bl' = bl ∧ ((mget n.c m).getD (.slice none 0 0)).ownBlock = some bl) ∨ wa.heap.size ≤ bl') (hg : wa.grownBy wb ((mget n.c m).getD (.slice none 0 0)).ownBlock) (hm : MapN ku w' b0 (mput n.c v' m)) (hg' : wb.grownBy w' (some b0)) : Mid w0 M b w' (some b0) (mput n.c v' m) ov x (fun c => ofC c (L ++ [n])) fl l := by
  have s1 := hb.size
  have s2 := hg.size
  have s3 := hg'.size
  have s0 := h.k.size
  have hbb := h.offM
  have hqq := h.notes.get n.c
  obtain ⟨k0, r0, _⟩ := hqq
  have hqq := RowW.append (M := fun x => M x ∨ w0.heap.size ≤ x) (M' := fun x => M x ∨ w0.heap.size ≤ x) h1 (fun _ h => h) (fun c hc => .inr (by omega)) ho' hbl
  obtain ⟨ra, rb⟩ := hqq
  have hlv : ∀ c, ((mget n.c m).getD (.slice none 0 0)).ownBlock = some c → (M c ∨ w0.heap.size ≤ c) ∧ c < w.heap.size ∧ ∃ cur, w.heap[c]? = some (.cells cur 67 (0, 0)) := r0.in
  have hb0 := h.notes.map
  have hqq := hb0.2.at
  obtain ⟨es, cl, hmm, _⟩ := hqq
  have hmb : wb.heap[b0]? = some (.map es cl) := by
    rw [hg.block b0 (by have := hb0.2.lt; omega) (fun e => ?_), hb.block b0 hb0.2.lt]
    · exact hmm
    · exact r0.offM hmm e.symm
  have hk1 : k ≤ (ofC n.c L).length := by
    rcases hk with rfl | hk
    · omega
    · have := cnt_le fl (ofC n.c L); omega
  have e1 : (ofC n.c (L ++ [n])).drop k = (ofC n.c L).drop k ++ [(n.v, n.i)] := by rw [ofC_append, if_pos rfl, List.drop_append_of_le_length hk1]
  -- what lies elsewhere stands
  have hstay : ∀ c, c < w.heap.size → c ≠ b0 → ((mget n.c m).getD (.slice none 0 0)).ownBlock ≠ some c → w'.heap[c]? = w.heap[c]? := by
    intro c h1 h2 h3
    rw [hg'.block c (by omega) (fun e => h2 (by simpa using e)), hg.block c (by omega) (fun e => h3 e.symm)]
    exact hb.block c h1
  have hrow : RowW w' (fun x => M x ∨ w0.heap.size ≤ x) 67 v' ((ofC n.c (L ++ [n])).drop k) := by
    rw [e1]
    refine ra.keep fun c hc => hg'.block c (ra.in c hc).2.1 (fun e => ?_)
    simp only [Option.some.injEq] at e
    subst e
    exact ra.offM hmb hc
  refine ⟨?_, h.mem, ?_, h.notes.put (k := k) (fun _ _ h => h) hm (fun c' hc => by show ofC c' (L ++ [n]) = _; rw [ofC_append, if_neg (fun e => hc e.symm), List.append_nil]) (by show ofC n.c (L ++ [n]) ≠ []; rw [ofC_append, if_pos rfl]; simp) hrow (hk.imp id (fun h => by show k < cnt fl (ofC n.c (L ++ [n])); rw [ofC_append]; exact Nat.lt_of_lt_of_le h (cnt_append _ _ _))) hstay (fun c hc => (rb c hc).imp id (fun h => by omega)), ?_⟩
  · refine ⟨?_, ?_, ?_, by omega, fun c hc hM => ?_⟩
    · rw [hg'.os, hg.os, hb.os, h.k.os]
    · rw [hg'.tape, hg.tape, hb.tape, h.k.tape]
    · rw [hg'.output, hg.output, hb.output, h.k.output]
    · rw [hstay c (by omega) (fun e => ?_) (fun e => ?_)]
      · exact h.k.block c hc hM
      · subst e
        exact hb0.1.elim hM (fun h => by omega)
      · exact (hlv c e).1.elim hM (fun h => by omega)
  · exact (hstay b h.blk.lt hbb (fun e => r0.off h.blk (by decide) e)).trans h.blk
  · refine h.own.keep fun c hc => hstay c (h.own.in c hc).2.1 (fun e => ?_) (fun e => ?_)
    · subst e
      exact h.own.offM hmm hc
    · exact h.own.apart r0 (by decide) c hc e
/-- whose a version is, told -/
theorem Mid.owner {w0 w w' wa wb : World} {M : Nat → Prop} {b bl bl' : Nat} {mb : Option Nat} {m : List (Int × Value)} {ov v' : Value} {x fl : Int} {g : Int → List (Int × Int)} {l : List (Int × Int)} {p : Int × Int} (h : Mid w0 M b w mb m ov x g fl l)
    (hb : Below w.heap.size w wa) (h1 : ov = .slice none 0 0 ∨ (M bl ∨ w0.heap.size ≤ bl)) (ho' : OwnK wb bl' 62 2 v' (l.length + 1) (l.flatMap pr ++ pr p)) (hbl : (bl' = bl ∧ ov.ownBlock = some bl) ∨ wa.heap.size ≤ bl') (hg : wa.grownBy wb ov.ownBlock) (hB : Blk w' b 27 [.map mb, v', .int .u64 x, .int .u64 fl]) (hg' : wb.grownBy w' (some b)) : Mid w0 M b w' mb m v' x g fl (l ++ [p]) := by
  have s1 := hb.size
  have s2 := hg.size
  have s3 := hg'.size
  have s0 := h.k.size
  have hqq := RowW.append (M := fun x => M x ∨ w0.heap.size ≤ x) (M' := fun x => M x ∨ w0.heap.size ≤ x) h1 (fun _ h => h) (fun c hc => .inr (by omega)) ho' hbl
  obtain ⟨ra, rb⟩ := hqq
  have hstay : ∀ c, c < w.heap.size → c ≠ b → ov.ownBlock ≠ some c → w'.heap[c]? = w.heap[c]? := by
    intro c h1 h2 h3
    rw [hg'.block c (by omega) (fun e => h2 (by simpa using e)), hg.block c (by omega) (fun e => h3 e.symm)]
    exact hb.block c h1
  have hbw : Blk wb b 27 [.map mb, ov, .int .u64 x, .int .u64 fl] := (h.blk.bel hb).grownR hg (fun r e e2 => h.own.off h.blk (by decide) (e2 ▸ e))
  refine ⟨?_, h.mem, hB, h.notes.keep fun c h1 h2 h3 => hstay c h2 (fun e => ?_) (fun e => ?_), ra.keep fun c hc => hg'.block c (ra.in c hc).2.1 (fun e => ?_)⟩
  · refine ⟨?_, ?_, ?_, by omega, fun c hc hM => ?_⟩
    · rw [hg'.os, hg.os, hb.os, h.k.os]
    · rw [hg'.tape, hg.tape, hb.tape, h.k.tape]
    · rw [hg'.output, hg.output, hb.output, h.k.output]
    · rw [hstay c (by omega) (fun e => hM (e ▸ h.mem)) (fun e => (h.own.in c e).1.elim hM (fun h => by omega))]
      exact h.k.block c hc hM
  · subst e
    have hbk := h.blk
    unfold Blk at hbk
    rcases h3 with e | ⟨cur, e⟩
    · have := h.notes.map
      rw [e] at this
      have hqq := this.2.at
      obtain ⟨es, c', h5, _⟩ := hqq
      rw [h5] at hbk
      cases hbk
    · rw [e] at hbk
      simp only [Option.some.injEq, Obj.cells.injEq] at hbk
      exact absurd hbk.2.1 (by decide)
  · rcases h3 with e3 | ⟨cur, e3⟩
    · have := h.notes.map
      rw [e3] at this
      have hqq := this.2.at
      obtain ⟨es, c', h5, _⟩ := hqq
      exact h.own.offM h5 e
    · have hqq := h.own.in c e
      obtain ⟨_, _, cur', e4⟩ := hqq
      rw [e3] at e4
      simp only [Option.some.injEq, Obj.cells.injEq] at e4
      exact absurd e4.2.1 (by decide)
  · simp only [Option.some.injEq] at e
    subst e
    exact ra.off hbw (by decide) hc
theorem note_ok {w : World} {M : Nat → Prop} {b : Nat} {L : List Nt} {fl : Int} {n : Nt} (h : TabW w M b L fl) (hg : Good L) (hL : L.length ≤ 50000) (c1 : 0 < n.c ∧ n.c ≤ MX) (c2 : 0 < n.v ∧ n.v ≤ MX) (c3 : 0 < n.i ∧ n.i ≤ MX) (c4 : ¬ n.v ≤ newestL L) (c5 : ¬ n.i ≤ lastL n.c L) (c6 : ¬ lastL n.c L + 1 < n.i) : Ret Try.prog 12 [.pointer (some ⟨b, 0, none⟩), .int .u64 n.c, .int .u64 n.v, .int .u64 n.i].toArray w (NoteR w M b L fl n) := by
  have h' := h
  have he := noteE_ok c1 c2 c3 (fun e => e.elim c4 c5) c6
  have hg' := (hg.note he).1
  have hqq := h'
  obtain ⟨mb, m, ov, hT⟩ := hqq
  have hlr := last_rng hg n.c
  simp only [MX] at hlr
  refine Ret.of (n := 97) (rs := #[.tmp 8]) Try.func12 rfl rfl rfl (by simp) ?_
  refine WC.seqR rfl ?_
  refine WL.y rfl (Y.assign) ?_
  refine WL.nil ?_
  refine WC.seq ?_
  refine WC.seqR rfl ?_
  refine WL.y rfl (Y.move) ?_
  refine WL.y rfl (Y.eqpn Try.underlying23 rfl rfl) ?_
  refine WL.nil ?_
  refine WC.condF (rfl) ?_
  refine WC.skip (thenQ.normal ?_)
  refine WC.seq ?_
  refine WC.seqR rfl ?_
  refine WL.y rfl (Y.move) ?_
  refine WL.call rfl (C.func go28) (isNumT _ _ c1) ?_
  rintro _ _ ⟨rfl, rfl⟩
  refine WL.y rfl (Y.not rfl) ?_
  refine WL.nil ?_
  refine WC.condF (rfl) ?_
  refine WC.skip (thenQ.normal ?_)
  refine WC.seq ?_
  refine WC.seqR rfl ?_
  refine WL.y rfl (Y.move) ?_
  refine WL.call rfl (C.func go28) (isNumT _ _ c2) ?_
  rintro _ _ ⟨rfl, rfl⟩
  refine WL.y rfl (Y.not rfl) ?_
  refine WL.y rfl (Y.move) ?_
  refine WL.y rfl (Y.move) ?_
  refine WL.call rfl (C.func go28) (isNumT _ _ c3) ?_
  rintro _ _ ⟨rfl, rfl⟩
  refine WL.y rfl (Y.not rfl) ?_
  refine WL.y rfl (Y.pickF rfl) ?_
  refine WL.nil ?_
  refine WC.condF (rfl) ?_
  refine WC.skip (thenQ.normal ?_)
  refine WC.seqR rfl ?_
  refine WL.y rfl (Y.move) ?_
  refine WL.y rfl (Y.move) ?_
  refine WL.call rfl (C.func go13) (last_ret n.c h) ?_
  rintro _ _ ⟨rfl, rfl⟩
  refine WL.y rfl (Y.assign) ?_
  refine WL.nil ?_
  refine WC.seq ?_
  refine WC.seqR rfl ?_
  refine WL.y rfl (Y.move) ?_
  refine WL.y rfl (Y.move) ?_
  refine WL.y rfl (Y.nilCheck rfl) ?_
  refine WL.y rfl (Y.fieldAddr fi27f2 ti22 (by decide) rfl (rfl) _) ?_
  refine WL.y rfl (Y.load1 Try.underlying22 rfl rfl (hT.blk.cell 2)) ?_
  refine WL.y rfl (Y.dF (Y.leq rfl rfl) (by omega)) ?_
  refine WL.y rfl (Y.move) ?_
  refine WL.y rfl (Y.move) ?_
  refine WL.y rfl (Y.move) ?_
  refine WL.y rfl (Y.dF (Y.leq rfl rfl) (by omega)) ?_
  refine WL.y rfl (Y.pickF rfl) ?_
  refine WL.nil ?_
  refine WC.condF (rfl) ?_
  refine WC.skip (thenQ.normal ?_)
  refine WC.seq ?_
  refine WC.seqR rfl ?_
  refine WL.y rfl (Y.move) ?_
  refine WL.y rfl (Y.move) ?_
  refine WL.y rfl (Y.addU64 rfl rfl (by omega)) ?_
  refine WL.y rfl (Y.dF (Y.gtr rfl rfl) (by omega)) ?_
  refine WL.nil ?_
  refine WC.condF (rfl) ?_
  refine WC.skip (thenQ.normal ?_)
  refine WC.seq ?_
  refine WC.seqR rfl ?_
  refine WL.y rfl (Y.move) ?_
  refine WL.y rfl (Y.nilCheck rfl) ?_
  refine WL.y rfl (Y.fieldAddr fi27f0 ti24 (by decide) rfl (rfl) _) ?_
  refine WL.y rfl (Y.load1 Try.underlying24 rfl rfl (hT.blk.cell 0)) ?_
  refine WL.y rfl (Y.eqmn Try.underlying24 rfl rfl) ?_
  refine WL.nil ?_
  have hM0 := Mid.of hT
  refine WC.cut (fun f ds w' => ds = [] ∧ (∃ b0 m0, Mid w M b w' (some b0) m0 ov (newestL L) (fun c => ofC c L) fl (ownOf fl L)) ∧ ∃ J, f = Go.Cx.ov J [(0, .pointer (some ⟨b, 0, none⟩)), (1, .int .u64 n.c), (2, .int .u64 n.v), (3, .int .u64 n.i)]) ?_ ?_
  · skip
    refine WC.cond rfl (fun c0 => ?_) (fun c0 => ?_)
    · have e0 : mb = none := by simpa using c0
      have hM1 : Mid w M b w none m ov (newestL L) (fun c => ofC c L) fl (ownOf fl L) := e0 ▸ hM0
      refine WC.region rfl ?_
      refine WL.y rfl (Y.move) ?_
      refine WL.eex rfl (E.makeMapN (kv := ku) (ki := .i64) (n := 0) Try.underlying24 (by simp)) ?_
      rintro _ w47 ⟨rfl, hm47, hb47⟩
      refine WL.y rfl (Y.nilCheck rfl) ?_
      refine WL.y rfl (Y.fieldAddr fi27f0 ti24 (by decide) rfl (rfl) _) ?_
      refine WL.eex rfl (E.storeX (u := .map (some w.heap.size)) ti24 rfl rfl rfl (hM1.bel hb47).blk (by simp)) ?_
      rintro _ w48 ⟨hB48, hg48, -⟩
      refine WL.nil (thenQ.normal ?_)
      have hfin : ∃ b0 m0, Mid w M b w48 (some b0) m0 ov (newestL L) (fun c => ofC c L) fl (ownOf fl L) := by
        have hqq := hM1.made hb47 hm47 (Nat.le_refl _)
        obtain ⟨q1, q2⟩ := hqq
        have q3 : Mid w M b w47 none [] ov (newestL L) (fun c => ofC c L) fl (ownOf fl L) := q1
        have hne : ∀ c, (M c ∨ w.heap.size ≤ c) → c < w47.heap.size → (some w.heap.size = some c ∨ ∃ cur, w47.heap[c]? = some (.cells cur 67 (0, 0))) → w48.heap[c]? = w47.heap[c]? := fun c h1 h2 h3 => hg48.block c h2 (fun e => by
          simp only [Option.some.injEq] at e
          subst e
          have hb := q1.blk
          unfold Blk at hb
          rcases h3 with e | ⟨cur, e⟩
          · have := hM1.blk.lt
            simp only [Option.some.injEq] at e
            omega
          · rw [e] at hb
            simp only [Option.some.injEq, Obj.cells.injEq] at hb
            exact absurd hb.2.1 (by decide))
        exact ⟨w.heap.size, [], q1.k.trans (Kept.of_grown hg48 q1.mem), q1.mem, hB48, q2.keep hne, q1.own.keep (fun c hc => hg48.block c (q1.own.in c hc).2.1 (fun e => by
          simp only [Option.some.injEq] at e
          subst e
          exact q1.own.off q1.blk (by decide) hc))⟩
      exact ⟨rfl, hfin, _, ov_mk ⟨rfl, rfl, rfl, rfl, trivial⟩⟩
    · have e0 : ∃ b0, mb = some b0 := by
        cases mb with
        | none => simp at c0
        | some b0 => exact ⟨b0, rfl⟩
      refine WC.skip (thenQ.normal ?_)
      have hfin : ∃ b0 m0, Mid w M b w (some b0) m0 ov (newestL L) (fun c => ofC c L) fl (ownOf fl L) := by
        obtain ⟨b0, e⟩ := e0
        exact ⟨b0, m, e ▸ hM0⟩
      exact ⟨rfl, hfin, _, ov_mk ⟨rfl, rfl, rfl, rfl, trivial⟩⟩
  · rintro _ _ wC ⟨rfl, ⟨b0, m0, hM⟩, J, rfl⟩
    have hqq := hM.notes.get n.c
    obtain ⟨k0, r0, hk0⟩ := hqq
    have hmap := hM.notes.map.2
    have hbb := hM.offM
    have hlen := ofC_len n.c L
    have hld : ((ofC n.c L).drop k0).length ≤ 50000 := by rw [List.length_drop]; omega
    have hoffb : ((mget n.c m0).getD (.slice none 0 0)).ownBlock ≠ some b := fun e => r0.off hM.blk (by decide) e
    have hoffm : ((mget n.c m0).getD (.slice none 0 0)).ownBlock ≠ some b0 := fun e => by
      have hqq := hmap.at
      obtain ⟨es, cl, hmm, _⟩ := hqq
      exact r0.offM hmm e
    have hqq := id r0
    obtain ⟨bl, hr1, hr2⟩ := hqq
    have hmx : maxLen = 9223372036854775807 := rfl
    refine WC.seq ?_
    refine WC.regionK ((fun x => ((mget n.c m0).getD (.slice none 0 0)).ownBlock = some x)) (fun i => Nat.beq i 16) [(0, .any), (1, .any), (2, .any), (3, .held), (4, .any), (5, .any), (6, .any), (7, .any), (8, .held), (9, .any), (10, .held), (11, .any), (12, .any), (13, .any), (14, .seq), (15, .seq), (16, .seq)] mixed (by kernel_rfl) (fun wr14 hS14 hheap => ?_)
    refine RL.any rfl rfl (fun _ => Y.move) ?_
    refine RL.any rfl rfl (fun _ => Y.nilCheck rfl) ?_
    refine RL.any rfl rfl (fun _ => Y.fieldAddr fi27f0 ti24 (by decide) rfl (rfl) _) ?_
    refine RL.held rfl rfl (Kept.refl _ _) (fun _ hb9 => Y.load1 Try.underlying24 rfl rfl (((hM.blk.bel hS14).kept hb9 hoffb).cell 0)) ?_
    refine RL.any rfl rfl (fun _ => Y.move) ?_
    refine RL.any rfl rfl (fun _ => Y.move) ?_
    refine RL.any rfl rfl (fun _ => Y.nilCheck rfl) ?_
    refine RL.any rfl rfl (fun _ => Y.fieldAddr fi27f0 ti24 (by decide) rfl (rfl) _) ?_
    refine RL.held rfl rfl (Kept.refl _ _) (fun _ hb9 => Y.load1 Try.underlying24 rfl rfl (((hM.blk.bel hS14).kept hb9 hoffb).cell 0)) ?_
    refine RL.any rfl rfl (fun _ => Y.move) ?_
    refine RL.held rfl rfl (Kept.refl _ _) (fun _ hb9 => (Y.lookup1 (kv := ku) (m := m0) (a := n.c) Try.underlying24 kd ti64 rfl ((hmap.bel hS14).same (hb9.block b0 (hmap.bel hS14).lt hoffm)) rfl)) ?_
    refine RL.any rfl rfl (fun _ => Y.move) ?_
    refine RL.any rfl rfl (fun _ => Y.move) ?_
    refine RL.any rfl rfl (fun _ => Y.build (cells := #[.int .u64 n.v, .int .u64 n.i]) (by kernel_rfl) _) ?_
    refine RL.eex rfl rfl (E.buildSliceX (len := 1) (cs := pr (n.v, n.i)) Try.underlying64 ti67 (by omega) (by omega) (by kernel_rfl) rfl) ?_ ?_
    · exact fun _ _ h9 => .inr (fun h => h.bel h9.2.2.1)
    rintro _ w64 ⟨rfl, ho64, hb64, -⟩ 
    refine RL.eex rfl rfl (E.appendR Try.underlying64 ti67 rfl (by decide) ((hr2.bel hS14).bel hb64) (ownsRow_sl ho64) (pr_ones [(n.v, n.i)]) (by omega) (by omega)) ?_ ?_
    · exact fun _ _ h9 => .inr (fun h => h.trans (Kept.of_grownR h9.2 (fun _ e => e)))
    rintro v65 w65 ⟨⟨bl', ho65, hbl65⟩, hg65⟩ 
    refine RL.eex rfl rfl (E.mapUpdateN (kv := ku) (m := m0) (a := n.c) Try.underlying24 kd rfl (((hmap.bel hS14).bel hb64).same (hg65.block b0 ((hmap.bel hS14).bel hb64).lt (fun e => hoffm e.symm))) rfl rfl) ?_ ?_
    · exact fun _ _ _ => .inl rfl
    rintro _ w14 ⟨hm14, hg14⟩
    have hM2 := hM.note (Below.step hS14 hb64) hr1 ((hr2.bel hS14).bel hb64) hk0 ho65 hbl65 hg65 hm14 hg14
    refine RL.nil (thenQ.normal ?_)
    refine WC.seqR rfl ?_
    refine WL.y rfl (Y.move) ?_
    refine WL.y rfl (Y.move) ?_
    refine WL.y rfl (Y.nilCheck rfl) ?_
    refine WL.y rfl (Y.fieldAddr fi27f2 ti22 (by decide) rfl (rfl) _) ?_
    refine WL.eex rfl (E.storeX (u := .int .u64 n.v) ti22 rfl rfl rfl hM2.blk (by simp)) ?_
    rintro _ w15 ⟨hB15, hg15, -⟩
    have hM3 : Mid w M b w15 (some b0) (mput n.c v65 m0) ov n.v (fun c => ofC c (L ++ [n])) fl (ownOf fl L) := hM2.store hB15 hg15
    refine WL.nil ?_
    refine WC.seq ?_
    refine WC.seqR rfl ?_
    refine WL.y rfl (Y.move) ?_
    refine WL.y rfl (Y.move) ?_
    refine WL.y rfl (Y.nilCheck rfl) ?_
    refine WL.y rfl (Y.fieldAddr fi27f3 ti22 (by decide) rfl (rfl) _) ?_
    refine WL.y rfl (Y.load1 Try.underlying22 rfl rfl (hM3.blk.cell 3)) ?_
    refine WL.y rfl (Y.geq rfl rfl) ?_
    refine WL.nil ?_
    have hqq := hM3.own
    obtain ⟨bo, ho1, ho2⟩ := hqq
    have hol := ownOf_len fl L
    have hooff : ∀ r, ov.ownBlock = some r → r ≠ b := fun r e e2 => hM3.own.off hM3.blk (by decide) (e2 ▸ e)
    refine WC.cut (fun f ds w' => ds = [] ∧ (∃ ov', Mid w M b w' (some b0) (mput n.c v65 m0) ov' n.v (fun c => ofC c (L ++ [n])) fl (ownOf fl (L ++ [n]))) ∧ ∃ J, f = Go.Cx.ov J [(0, .pointer (some ⟨b, 0, none⟩)), (1, .int .u64 n.c), (2, .int .u64 n.v)]) ?_ ?_
    · skip
      refine WC.condD rfl (fun c7 => ?_) (fun c7 => ?_)
      · refine WC.region rfl ?_
        refine WL.y rfl (Y.move) ?_
        refine WL.y rfl (Y.move) ?_
        refine WL.y rfl (Y.nilCheck rfl) ?_
        refine WL.y rfl (Y.fieldAddr fi27f1 ti25 (by decide) rfl (rfl) _) ?_
        refine WL.y rfl (Y.load1 Try.underlying25 rfl rfl (hM3.blk.cell 1)) ?_
        refine WL.y rfl (Y.move) ?_
        refine WL.y rfl (Y.move) ?_
        refine WL.y rfl (Y.build (cells := #[.int .u64 n.v, .int .u64 n.c]) (by kernel_rfl) _) ?_
        refine WL.eex rfl (E.buildSliceX (len := 1) (cs := pr (n.v, n.c)) Try.underlying25 ti62 (by omega) (by omega) (by kernel_rfl) rfl) ?_
        rintro _ w84 ⟨rfl, ho84, hb84, -⟩
        refine WL.eex rfl (E.appendR Try.underlying25 ti62 rfl (by decide) (ho2.bel hb84) (ownsRow_sl ho84) (pr_ones [(n.v, n.c)]) (by omega) (by omega)) ?_
        rintro v85 w85 ⟨⟨bl2, ho85, hbl85⟩, hg85⟩
        have hB85 := (hM3.blk.bel hb84).grownR hg85 hooff
        refine WL.y rfl (Y.nilCheck rfl) ?_
        refine WL.y rfl (Y.fieldAddr fi27f1 ti25 (by decide) rfl (rfl) _) ?_
        refine WL.eex rfl (E.storeX (u := v85) ti25 rfl rfl ho85.sl.one hB85 (by simp)) ?_
        rintro _ w17 ⟨hB17, hg17, -⟩
        refine WL.nil (thenQ.normal ?_)
        have hfin : ∃ ov', Mid w M b w17 (some b0) (mput n.c v65 m0) ov' n.v (fun c => ofC c (L ++ [n])) fl (ownOf fl (L ++ [n])) := by
          refine ⟨v85, ?_⟩
          rw [ownOf_append, if_pos c7]
          exact hM3.owner hb84 ho1 ho85 hbl85 hg85 hB17 hg17
        exact ⟨rfl, hfin, _, ov_mk ⟨rfl, rfl, rfl, trivial⟩⟩
      · refine WC.skip (thenQ.normal ?_)
        have hfin : ∃ ov', Mid w M b w15 (some b0) (mput n.c v65 m0) ov' n.v (fun c => ofC c (L ++ [n])) fl (ownOf fl (L ++ [n])) := by
          refine ⟨ov, ?_⟩
          rw [ownOf_append, if_neg (by omega), List.append_nil]
          exact hM3
        exact ⟨rfl, hfin, _, ov_mk ⟨rfl, rfl, rfl, trivial⟩⟩
    · rintro _ _ wD ⟨rfl, ⟨ov', hM4⟩, J', rfl⟩
      have hlast : newestL (L ++ [n]) = n.v := newestL_append L n
      have hbb4 := hM4.offM
      have hlen4 := ofC_len n.c (L ++ [n])
      refine WC.seq ?_
      refine WC.seqR rfl ?_
      refine WL.y rfl (Y.move) ?_
      refine WL.y rfl (Y.move) ?_
      refine WL.y rfl (Y.nilCheck rfl) ?_
      refine WL.y rfl (Y.fieldAddr fi27f3 ti22 (by decide) rfl (rfl) _) ?_
      refine WL.y rfl (Y.load1 Try.underlying22 rfl rfl (hM4.blk.cell 3)) ?_
      refine WL.y rfl (Y.leq rfl rfl) ?_
      refine WL.nil ?_
      refine WC.condD rfl (fun c8 => ?_) (fun c8 => ?_)
      · refine WC.region rfl ?_
        refine WL.y rfl (Y.move) ?_
        refine WL.y rfl (Y.move) ?_
        refine WL.call rfl (C.func go24) (cut_ret n.c hM4.blk hM4.notes (ofC_rise hg'.rise n.c) (by rw [List.length_append, List.length_singleton] at hlen4; omega)) ?_
        rintro _ w96 ⟨⟨m96, h96⟩, k96⟩
        refine WL.nil (thenQ.normal ?_)
        refine WC.seqR rfl ?_
        refine WL.y rfl (Y.assign) ?_
        refine WL.nil ?_
        refine WC.ret (endQ.one (.inr rfl) ?_)
        have hfin : NoteR w M b L fl n (.int .i64 0) w96 := by
          have s4 := hM4.k.size
          have hmp := hM4.notes.map
          have hk : Kept M w w96 := hM4.k.trans' k96 (fun c e hc => by
            simp only [Option.some.injEq] at e
            subst e
            exact hmp.1.elim id (fun h => by omega))
          refine ⟨by rw [he], ?_, hk⟩
          rw [if_pos he]
          refine ⟨some b0, m96, ov', .inl hM4.mem, ?_, h96.mono (fun c _ h => h.elim id (fun h => .inr (by omega))), hM4.own.kept k96 (fun c hc e => ?_)⟩
          · rw [hlast]
            exact hM4.blk.kept k96 (fun e => hbb4 (by simpa using e.symm))
          · simp only [Option.some.injEq] at e
            subst e
            have hqq := hmp.2.at
            obtain ⟨es, cl, hmm, _⟩ := hqq
            exact hM4.own.offM hmm hc
        exact hfin
      · refine WC.skip (thenQ.normal ?_)
        refine WC.seqR rfl ?_
        refine WL.y rfl (Y.assign) ?_
        refine WL.nil ?_
        refine WC.ret (endQ.one (.inr rfl) ?_)
        have hfin : NoteR w M b L fl n (.int .i64 0) wD := by
          refine ⟨by rw [he], ?_, hM4.k⟩
          rw [if_pos he]
          exact ⟨some b0, _, ov', .inl hM4.mem, by rw [hlast]; exact hM4.blk, hM4.notes, hM4.own⟩
        exact hfin
theorem note_ret {w : World} {M : Nat → Prop} {b : Nat} {L : List Nt} {fl : Int} {n : Nt} (hc : 0 ≤ n.c) (hv : 0 ≤ n.v) (hi : 0 ≤ n.i) (h : TabW w M b L fl) (hg : Good L) (hL : L.length ≤ 50000) : Ret Try.prog 12 [.pointer (some ⟨b, 0, none⟩), .int .u64 n.c, .int .u64 n.v, .int .u64 n.i].toArray w (NoteR w M b L fl n) := by
  by_cases he : noteE L n = 0
  · have he' := he
    unfold noteE at he'
    split at he'
    · omega
    · rename_i h1
      split at he'
      · omega
      · rename_i h2
        split at he'
        · omega
        · rename_i h3
          split at he'
          · omega
          · rename_i h4
            exact note_ok h hg hL (by omega) (by omega) (by omega) (by omega) (by omega) h4
  · exact note_err hc hv hi h hg he
end Go.Proofs.Ytlhhognabmnlmaa
