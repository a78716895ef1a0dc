/-
  node: Of; law06: entry, known: walks.
-/
import Derived.Test.YtpefeefmdlfafaaNod8
import Derived.Test.YtpefeefmdlfafaaNod1
namespace Go.Proofs.Ytpefeefmdlfafaa
open Go Go.RowKit Go.Cx
set_option linter.unusedVariables false
set_option maxHeartbeats 8000000
/-- nodes appended so far -/
def PB (w : World) (B : Nat) (l : List Sh) (j : Nat) (r : Value) (bl : Nat) (bs : List Nat) : Prop := bs.length = j ∧ bl < w.heap.size ∧ (r = .slice none 0 0 ∨ B ≤ bl) ∧ OwnK w bl 29 1 r j (bs.map ptr) ∧ ∀ i (h : i < l.length) (h' : i < bs.length), NdR w (fun b => B ≤ b ∧ b ≠ bl) l[i] bs[i]
theorem PB.bel {w w' : World} {B : Nat} {l : List Sh} {j : Nat} {r : Value} {bl : Nat} {bs : List Nat} (h : PB w B l j r bl bs) (hb : Below w.heap.size w w') : PB w' B l j r bl bs :=
  ⟨h.1, Nat.lt_of_lt_of_le h.2.1 hb.size, h.2.2.1, h.2.2.2.1.bel hb, fun i h1 h2 => (h.2.2.2.2 i h1 h2).bel hb⟩
theorem PB.zero {w : World} {B : Nat} {l : List Sh} (h : 0 < w.heap.size) : PB w B l 0 (.slice none 0 0) 0 [] := ⟨rfl, h, .inl rfl, OwnK.nil, fun i _ h => absurd h (by simp)⟩
theorem PB.apart {w : World} {B : Nat} {l : List Sh} {j : Nat} {r : Value} {bl : Nat} {bs : List Nat} (h : PB w B l j r bl bs) : ∀ b, r.ownBlock = some b → B ≤ b := by
  intro b hb
  rcases h.2.2.1 with e | e
  · rw [e] at hb; cases hb
  · rcases h.2.2.2.1.own with e2 | e2 <;> rw [e2] at hb <;> cases hb
    exact e
theorem PB.at {w : World} {B : Nat} {l : List Sh} {r : Value} {bl : Nat} {bs : List Nat} (h : PB w B l l.length r bl bs) : PsAt w (fun b => B ≤ b) l bs r := ⟨h.1, h.2.2.2.1.sl, fun j h1 h2 => (h.2.2.2.2 j h1 h2).mono (fun _ _ h => h.1)⟩
theorem NdR.append {w w' : World} {B bl bl' : Nat} {s : Sh} {b : Nat} {r : Value} (he : NdR w (fun b => B ≤ b ∧ b ≠ bl) s b) (hbl : (bl' = bl ∧ r ≠ .slice none 0 0) ∨ w.heap.size ≤ bl') (hk : Kept (fun b => b = bl) w w') : NdR w' (fun b => B ≤ b ∧ b ≠ bl') s b := by
  have h1 : NdR w (fun b => B ≤ b ∧ b ≠ bl ∧ b ≠ bl') s b := he.mono (fun b hb h => ⟨h.1, h.2, by rcases hbl with ⟨rfl, _⟩ | e; exact h.2; omega⟩)
  have h2 : NdR w' (fun b => B ≤ b ∧ b ≠ bl ∧ b ≠ bl') s b := NdR.kept hk (fun b h => h.2.1) h1
  exact h2.mono (fun b _ h => ⟨h.1, h.2.2⟩)
theorem PB.append {w w' : World} {B bl bl' j : Nat} {l : List Sh} {r r' : Value} {bs : List Nat} {b : Nat} (h : PB w B l j r bl bs) (hB : B ≤ w.heap.size) (hj : j < l.length) (hx : NdR w (fun b => B ≤ b ∧ b ≠ bl) l[j] b) (ho : OwnK w' bl' 29 1 r' (j + 1) (bs.map ptr ++ [ptr b])) (hbl : (bl' = bl ∧ r ≠ .slice none 0 0) ∨ w.heap.size ≤ bl') (hg : w.grownBy w' r.ownBlock) : PB w' B l (j + 1) r' bl' (bs ++ [b]) := by
  obtain ⟨h1, h2, h3, h4, h5⟩ := h
  have hk := own_row h4 hg
  refine ⟨by simp [h1], ?_, ?_, by simpa using ho, fun i hi hi' => ?_⟩
  · have hqq := ho.form (by omega)
    obtain ⟨_, _, _, _, _, h⟩ := hqq
    exact h
  · right
    rcases hbl with ⟨rfl, e⟩ | e
    · exact h3.resolve_left e
    · omega
  · by_cases e : i < bs.length
    · rw [List.getElem_append_left e]
      exact NdR.append (h5 i hi e) hbl hk
    · have e2 : i = j := by simp only [List.length_append, List.length_cons, List.length_nil] at hi'; omega
      subst e2
      rw [List.getElem_append_right (by omega)]
      simp only [h1, Nat.sub_self, List.getElem_cons_zero]
      exact NdR.append hx hbl hk
theorem ok_nil {s : Sh} (h : s.kids.length = 0) : s = .mk s.es [] := by
  cases s with
  | mk es kids => rw [List.eq_nil_of_length_eq_zero (show kids.length = 0 from h)]; rfl
theorem okS_inner {es : List En} {kids : List Sh} (h : 0 < kids.length) : OkS (.mk es kids) ↔ es = [] ∧ (∀ k ∈ kids, OkS k) ∧ innerOk kids := by
  constructor
  · intro hm
    cases hm with
    | leaf h1 hr => exact absurd h (by simp)
    | inner h1 hi => exact ⟨rfl, h1, hi⟩
  · rintro ⟨rfl, h1, hi⟩
    exact .inner h1 hi
theorem LeafR.T {w w' : World} {s : Sh} {v : Value} (h : LeafR w s v w') (hok : OkS s) : (∃ b, v = .tuple #[ptr b, .int .i64 0] ∧ NdR w' (fun b => w.heap.size ≤ b) s b) ∧ Below w.heap.size w w' := by
  obtain ⟨a, h | h⟩ := h
  · exact ⟨h.2, a⟩
  · exact absurd hok h.1
theorem LeafR.F {w w' : World} {s : Sh} {v : Value} (h : LeafR w s v w') (hok : ¬ OkS s) : v = .tuple #[.pointer none, .int .i64 2] ∧ Below w.heap.size w w' := by
  obtain ⟨a, h | h⟩ := h
  · exact absurd h.1 hok
  · exact ⟨h.2, a⟩
theorem leafT {l : List En} {r : Value} {w : World} (h : EAt w l r) (hlen : l.length ≤ 1353245080300) (hok : OkS (.mk l [])) : Ret Try.prog 16 [r].toArray w fun v w' => (∃ b, v = .tuple #[ptr b, .int .i64 0] ∧ NdR w' (fun b => w.heap.size ≤ b) (.mk l []) b) ∧ Below w.heap.size w w' := (leaf_ret l r w h hlen).mono fun _ _ h => h.T hok
theorem leafF {l : List En} {r : Value} {w : World} (h : EAt w l r) (hlen : l.length ≤ 1353245080300) (hok : ¬ OkS (.mk l [])) : Ret Try.prog 16 [r].toArray w fun v w' => v = .tuple #[.pointer none, .int .i64 2] ∧ Below w.heap.size w w' := (leaf_ret l r w h hlen).mono fun _ _ h => h.F hok
theorem innerT {l : List Sh} {bs : List Nat} {r : Value} {w : World} {M : Nat → Prop} (h : PsAt w M l bs r) (hfl : (flatL l).length ≤ 1000000) (hnd : nodesL l ≤ 1000000) (hlen : l.length ≤ 1000000) (hok : innerOk l) : Ret Try.prog 20 [r].toArray w fun v w' => (∃ b kv bl, v = .tuple #[ptr b, .int .i64 0] ∧ w.heap.size ≤ b ∧ w.heap.size ≤ bl ∧ Blk w' b 61 (ndc (.mk [] l) (.slice none 0 0) kv) ∧ OwnK w' bl 29 1 kv l.length (bs.map ptr)) ∧ Below w.heap.size w w' := (inner_ret l bs r w M h hfl hnd hlen).mono fun v w' ⟨a, h⟩ => by
  rcases h with h | h
  · exact ⟨h.2, a⟩
  · exact absurd hok h.1
theorem innerF {l : List Sh} {bs : List Nat} {r : Value} {w : World} {M : Nat → Prop} (h : PsAt w M l bs r) (hfl : (flatL l).length ≤ 1000000) (hnd : nodesL l ≤ 1000000) (hlen : l.length ≤ 1000000) (hok : ¬ innerOk l) : Ret Try.prog 20 [r].toArray w fun v w' => v = .tuple #[.pointer none, .int .i64 2] ∧ Below w.heap.size w w' := (inner_ret l bs r w M h hfl hnd hlen).mono fun v w' ⟨a, h⟩ => by
  rcases h with h | h
  · exact absurd h.1 hok
  · exact ⟨h.2, a⟩
def OfT (s : Sh) : Prop := ∀ (w : World) (c : List Value), ShAt w s c → (flatS s).length ≤ 1000000 → nodesS s ≤ 1000000 → OkS s → Ret Try.prog 12 [.agg c.toArray].toArray w fun v w' => (∃ b, v = .tuple #[ptr b, .int .i64 0] ∧ NdR w' (fun b => w.heap.size ≤ b) s b) ∧ Below w.heap.size w w'
def OfF (s : Sh) : Prop := ∀ (w : World) (c : List Value), ShAt w s c → (flatS s).length ≤ 1000000 → nodesS s ≤ 1000000 → ¬ OkS s → Ret Try.prog 12 [.agg c.toArray].toArray w fun v w' => v = .tuple #[.pointer none, .int .i64 2] ∧ Below w.heap.size w w'
theorem of_ret (s : Sh) : ∀ (w : World) (c : List Value), ShAt w s c → (flatS s).length ≤ 1000000 → nodesS s ≤ 1000000 → Ret Try.prog 12 [.agg c.toArray].toArray w (LeafR w s) := by
  induction s using Sh.ind with
  | h s ih =>
    have ihT : ∀ x ∈ s.kids, OfT x := fun x hx w c h1 h2 h3 h4 => (ih x hx w c h1 h2 h3).mono fun _ _ h => h.T h4
    have ihF : ∀ x ∈ s.kids, OfF x := fun x hx w c h1 h2 h3 h4 => (ih x hx w c h1 h2 h3).mono fun _ _ h => h.F h4
    clear ih
    intro w c hv hfl hnd
    have hmx : maxLen = 9223372036854775807 := rfl
    have hne := nodesS_eq s
    have hfe := flatS_eq s
    cases hv with
    | @mk _ ev kv lc he hn h1 h2 hs hk =>
    have hqq := id he
    obtain ⟨oc, o1, hes, o3⟩ := hqq
    refine Ret.of (n := 58) (rs := #[.tmp 2, .tmp 3]) Try.func12 rfl rfl rfl (by simp) ?_
    refine WC.seqR rfl ?_
    refine WL.eex rfl (E.boxX) ?_
    rintro _ w1 ⟨rfl, hB1, hb1⟩
    refine WL.y rfl (Y.assign) ?_
    refine WL.y rfl (Y.assign) ?_
    refine WL.nil ?_
    refine WC.seq ?_
    have hB : Blk w1 w.heap.size 25 [ev, kv] := hB1
    have l1 := hB.lt
    clear hB1
    refine WC.seqR rfl ?_
    refine WL.y rfl (Y.fieldAddr fi25f1 ti23 (by decide) rfl (rfl) _) ?_
    refine WL.y rfl (Y.load1 Try.underlying23 rfl rfl (hB.cell 1)) ?_
    refine WL.y rfl (Y.lenSl Try.underlying23 (hs.bel hb1) _) ?_
    refine WL.y rfl (Y.eqi rfl rfl) ?_
    refine WL.nil ?_
    refine WC.condD rfl (fun c0 => ?_) (fun c0 => ?_)
    · have e0 : s.kids.length = 0 := by omega
      have es0 := ok_nil e0
      by_cases hok : OkS (.mk s.es [])
      · refine WC.seqR rfl ?_
        refine WL.y rfl (Y.fieldAddr fi25f0 ti22 (by decide) rfl (rfl) _) ?_
        refine WL.y rfl (Y.load1 Try.underlying22 rfl rfl (hB.cell 0)) ?_
        refine WL.call rfl (C.func go16) (leafT (he.bel hb1) hn hok) ?_
        rintro _ w15 ⟨⟨b, rfl, n15⟩, hb15⟩
        refine WL.y rfl (Y.extract rfl rfl) ?_
        refine WL.y rfl (Y.extract rfl rfl) ?_
        refine WL.y rfl (Y.assign) ?_
        refine WL.y rfl (Y.assign) ?_
        refine WL.nil ?_
        refine WC.ret (thenQ.ret (endQ.two (.inr rfl) ?_))
        rw [es0]
        have s1 := hb1.size
        exact ⟨Below.step hb1 hb15, .inl ⟨hok, b, rfl, n15.mono (fun b _ h => by omega)⟩⟩
      · skip
        skip
        refine WC.seqR rfl ?_
        refine WL.y rfl (Y.fieldAddr fi25f0 ti22 (by decide) rfl (rfl) _) ?_
        refine WL.y rfl (Y.load1 Try.underlying22 rfl rfl (hB.cell 0)) ?_
        refine WL.call rfl (C.func go16) (leafF (he.bel hb1) hn hok) ?_
        rintro _ w15 ⟨rfl, hb15⟩
        refine WL.y rfl (Y.extract rfl rfl) ?_
        refine WL.y rfl (Y.extract rfl rfl) ?_
        refine WL.y rfl (Y.assign) ?_
        refine WL.y rfl (Y.assign) ?_
        refine WL.nil ?_
        refine WC.ret (thenQ.ret (endQ.two (.inr rfl) ?_))
        rw [es0]
        exact ⟨Below.step hb1 hb15, .inr ⟨hok, rfl⟩⟩
    · have e0 : 0 < s.kids.length := by omega
      rw [if_neg (by omega)] at hfe
      rw [hfe] at hfl
      have hki : OkS s ↔ s.es.length = 0 ∧ (∀ k ∈ s.kids, OkS k) ∧ innerOk s.kids := by
        cases s with
        | mk es kids =>
          have e0' : 0 < kids.length := e0
          refine (okS_inner e0').trans ?_
          exact ⟨fun h => ⟨by rw [h.1]; rfl, h.2⟩, fun h => ⟨List.eq_nil_of_length_eq_zero h.1, h.2⟩⟩
      refine WC.skip (thenQ.normal ?_)
      refine WC.seq ?_
      by_cases c1 : 0 < s.es.length
      · refine WC.seqR rfl ?_
        refine WL.y rfl (Y.fieldAddr fi25f0 ti22 (by decide) rfl (rfl) _) ?_
        refine WL.y rfl (Y.load1 Try.underlying22 rfl rfl (hB.cell 0)) ?_
        refine WL.y rfl (Y.lenSl Try.underlying22 (hes.bel hb1) _) ?_
        refine WL.y rfl (Y.dT (Y.gtr rfl rfl) (by omega)) ?_
        refine WL.y rfl (Y.move) ?_
        refine WL.off rfl ?_
        refine WL.off rfl ?_
        refine WL.off rfl ?_
        refine WL.off rfl ?_
        refine WL.y rfl (Y.pickT rfl) ?_
        refine WL.y rfl (Y.move) ?_
        refine WL.off rfl ?_
        refine WL.off rfl ?_
        refine WL.off rfl ?_
        refine WL.off rfl ?_
        refine WL.y rfl (Y.pickT rfl) ?_
        refine WL.nil ?_
        refine WC.condT (rfl) ?_
        refine WC.seqR rfl ?_
        refine WL.y rfl (Y.assign) ?_
        refine WL.y rfl (Y.assign) ?_
        refine WL.nil ?_
        refine WC.ret (thenQ.ret (endQ.two (.inr rfl) ?_))
        exact ⟨hb1, .inr ⟨fun h => by have := (hki.1 h).1; omega, rfl⟩⟩
      · by_cases c2 : s.kids.length < 2
        · refine WC.seqR rfl ?_
          refine WL.y rfl (Y.fieldAddr fi25f0 ti22 (by decide) rfl (rfl) _) ?_
          refine WL.y rfl (Y.load1 Try.underlying22 rfl rfl (hB.cell 0)) ?_
          refine WL.y rfl (Y.lenSl Try.underlying22 (hes.bel hb1) _) ?_
          refine WL.y rfl (Y.dF (Y.gtr rfl rfl) (by omega)) ?_
          refine WL.y rfl (Y.move) ?_
          refine WL.y rfl (Y.fieldAddr fi25f1 ti23 (by decide) rfl (rfl) _) ?_
          refine WL.y rfl (Y.load1 Try.underlying23 rfl rfl (hB.cell 1)) ?_
          refine WL.y rfl (Y.lenSl Try.underlying23 (hs.bel hb1) _) ?_
          refine WL.y rfl (Y.dT (Y.lss rfl rfl) (by omega)) ?_
          refine WL.y rfl (Y.pickF rfl) ?_
          refine WL.y rfl (Y.move) ?_
          refine WL.off rfl ?_
          refine WL.off rfl ?_
          refine WL.off rfl ?_
          refine WL.off rfl ?_
          refine WL.y rfl (Y.pickT rfl) ?_
          refine WL.nil ?_
          refine WC.condT (rfl) ?_
          refine WC.seqR rfl ?_
          refine WL.y rfl (Y.assign) ?_
          refine WL.y rfl (Y.assign) ?_
          refine WL.nil ?_
          refine WC.ret (thenQ.ret (endQ.two (.inr rfl) ?_))
          exact ⟨hb1, .inr ⟨fun h => by have := (hki.1 h).2.2.1; omega, rfl⟩⟩
        · by_cases c3 : 8 < s.kids.length
          · refine WC.seqR rfl ?_
            refine WL.y rfl (Y.fieldAddr fi25f0 ti22 (by decide) rfl (rfl) _) ?_
            refine WL.y rfl (Y.load1 Try.underlying22 rfl rfl (hB.cell 0)) ?_
            refine WL.y rfl (Y.lenSl Try.underlying22 (hes.bel hb1) _) ?_
            refine WL.y rfl (Y.dF (Y.gtr rfl rfl) (by omega)) ?_
            refine WL.y rfl (Y.move) ?_
            refine WL.y rfl (Y.fieldAddr fi25f1 ti23 (by decide) rfl (rfl) _) ?_
            refine WL.y rfl (Y.load1 Try.underlying23 rfl rfl (hB.cell 1)) ?_
            refine WL.y rfl (Y.lenSl Try.underlying23 (hs.bel hb1) _) ?_
            refine WL.y rfl (Y.dF (Y.lss rfl rfl) (by omega)) ?_
            refine WL.y rfl (Y.pickF rfl) ?_
            refine WL.y rfl (Y.move) ?_
            refine WL.y rfl (Y.fieldAddr fi25f1 ti23 (by decide) rfl (rfl) _) ?_
            refine WL.y rfl (Y.load1 Try.underlying23 rfl rfl (hB.cell 1)) ?_
            refine WL.y rfl (Y.lenSl Try.underlying23 (hs.bel hb1) _) ?_
            refine WL.y rfl (Y.dT (Y.gtr rfl rfl) (by omega)) ?_
            refine WL.y rfl (Y.pickF rfl) ?_
            refine WL.nil ?_
            refine WC.condT (rfl) ?_
            refine WC.seqR rfl ?_
            refine WL.y rfl (Y.assign) ?_
            refine WL.y rfl (Y.assign) ?_
            refine WL.nil ?_
            refine WC.ret (thenQ.ret (endQ.two (.inr rfl) ?_))
            exact ⟨hb1, .inr ⟨fun h => by have := (hki.1 h).2.2.1; omega, rfl⟩⟩
          · skip
            skip
            refine WC.seqR rfl ?_
            refine WL.y rfl (Y.fieldAddr fi25f0 ti22 (by decide) rfl (rfl) _) ?_
            refine WL.y rfl (Y.load1 Try.underlying22 rfl rfl (hB.cell 0)) ?_
            refine WL.y rfl (Y.lenSl Try.underlying22 (hes.bel hb1) _) ?_
            refine WL.y rfl (Y.dF (Y.gtr rfl rfl) (by omega)) ?_
            refine WL.y rfl (Y.move) ?_
            refine WL.y rfl (Y.fieldAddr fi25f1 ti23 (by decide) rfl (rfl) _) ?_
            refine WL.y rfl (Y.load1 Try.underlying23 rfl rfl (hB.cell 1)) ?_
            refine WL.y rfl (Y.lenSl Try.underlying23 (hs.bel hb1) _) ?_
            refine WL.y rfl (Y.dF (Y.lss rfl rfl) (by omega)) ?_
            refine WL.y rfl (Y.pickF rfl) ?_
            refine WL.y rfl (Y.move) ?_
            refine WL.y rfl (Y.fieldAddr fi25f1 ti23 (by decide) rfl (rfl) _) ?_
            refine WL.y rfl (Y.load1 Try.underlying23 rfl rfl (hB.cell 1)) ?_
            refine WL.y rfl (Y.lenSl Try.underlying23 (hs.bel hb1) _) ?_
            refine WL.y rfl (Y.dF (Y.gtr rfl rfl) (by omega)) ?_
            refine WL.y rfl (Y.pickF rfl) ?_
            refine WL.nil ?_
            refine WC.condF (rfl) ?_
            refine WC.skip (thenQ.normal ?_)
            refine WC.seqR rfl ?_
            refine WL.y rfl (Y.assign) ?_
            refine WL.nil ?_
            refine WC.seq ?_
            refine WC.seqR rfl ?_
            refine WL.y rfl (Y.fieldAddr fi25f1 ti23 (by decide) rfl (rfl) _) ?_
            refine WL.y rfl (Y.load1 Try.underlying23 rfl rfl (hB.cell 1)) ?_
            refine WL.y rfl (Y.lenSl Try.underlying23 (hs.bel hb1) _) ?_
            refine WL.y rfl (Y.move) ?_
            refine WL.nil ?_
            refine WC.block ?_
            refine WC.loop (fun j => s.kids.length - j) (fun j f ds w' => j ≤ s.kids.length ∧ ds = [] ∧ Below w.heap.size w w' ∧ w1.heap.size ≤ w'.heap.size ∧ (∀ k ∈ s.kids.take j, OkS k) ∧ ∃ v4 bl bs J, PB w' w1.heap.size s.kids j v4 bl bs ∧ f = Go.Cx.ov J [(4, v4), (35, kv), (36, .int .i64 (s.kids.length : Int)), (37, .int .i64 (j : Int))]) 0 ?_ ?_
            · exact ⟨by omega, rfl, hb1, Nat.le_refl _, fun k hk => absurd hk (by simp), _, 0, [], _, PB.zero (by omega), ov_mk ⟨rfl, rfl, rfl, rfl, trivial⟩⟩
            · rintro j _ _ wL ⟨hj, rfl, kL, sL, hgood, v4, bl, bs, J, hPB, rfl⟩
              refine WC.seqR rfl ?_
              refine WL.y rfl (Y.lss rfl rfl) ?_
              refine WL.nil ?_
              refine WC.seq ?_
              refine WC.condD rfl (fun h0 => ?_) (fun h0 => ?_)
              · have hjl : j < s.kids.length := by omega
                have hjc : j < lc.length := by omega
                have hjm := List.getElem_mem hjl
                have f1 := flatL_mem hjm
                have f2 := nodesL_mem hjm
                have hsh := (h2 j hjl hjc).bel kL
                have hso := hsh.one
                have hap := hPB.apart
                have lbl := hPB.2.1
                refine WC.skip (thenQ.normal ?_)
                refine WC.seq ?_
                refine WC.block ?_
                refine WC.seqR rfl ?_
                refine WL.yex rfl (Y.idx Try.underlying23 ti25 (by decide) (hs.bel kL) rfl (by omega) (by omega)) ?_
                rintro _ ⟨b39, o39, rfl, hc39⟩
                refine WL.y rfl (Y.loadK Try.underlying25 rfl ti25 (lc[j].h) rfl (elem_sh hjc hc39)) ?_
                refine WL.eex rfl (E.allocX ti25) ?_
                rintro _ w6 ⟨rfl, hB6, hb6⟩
                refine WL.eex rfl (E.storeAllK (us := lc[j].c) ti25 lc[j].h rfl rfl hso hB6 rfl) ?_
                rintro _ w8s ⟨hB8, hg8⟩
                refine WL.nil ?_
                have k8 : Below wL.heap.size wL w8s := Below.stepG hb6 hg8 (Nat.le_refl _)
                have s8 := k8.size
                by_cases hok : OkS s.kids[j]
                · refine WC.seqR rfl ?_
                  refine WL.y rfl (Y.loadK Try.underlying25 rfl ti25 (lc[j].h) rfl (hB8.cells)) ?_
                  refine WL.call rfl (C.func go12) (ihT _ hjm _ _ (hsh.bel k8) (by omega) (by omega) hok) ?_
                  rintro _ w43 ⟨⟨b, rfl, n43⟩, hb43⟩
                  refine WL.y rfl (Y.move) ?_
                  refine WL.y rfl (Y.extract rfl rfl) ?_
                  refine WL.y rfl (Y.extract rfl rfl) ?_
                  refine WL.y rfl (Y.assign) ?_
                  refine WL.y rfl (Y.assign) ?_
                  refine WL.nil ?_
                  refine WC.seq ?_
                  refine WC.seqR rfl ?_
                  refine WL.y rfl (Y.move) ?_
                  refine WL.y rfl (Y.nei rfl rfl) ?_
                  refine WL.nil ?_
                  refine WC.condF (rfl) ?_
                  refine WC.skip (thenQ.normal ?_)
                  refine WC.region rfl ?_
                  refine WL.y rfl (Y.move) ?_
                  refine WL.y rfl (Y.move) ?_
                  refine WL.eex rfl (E.build1 (u := ptr b) Try.underlying49 ti29 rfl rfl rfl) ?_
                  rintro v51 w51 ⟨hs51, hb51, -⟩
                  have bb : Below wL.heap.size wL w51 := Below.step (Below.step k8 hb43) hb51
                  have hPB' := hPB.bel bb
                  refine WL.eex rfl (E.appendN Try.underlying49 ti29 rfl (by decide) hPB'.2.2.2.1 hs51 (one_one rfl) (by omega) (by omega)) ?_
                  rintro v52 w52 ⟨⟨bl', ho52, hbl'⟩, hg52⟩
                  refine WL.y rfl (Y.assign) ?_
                  refine WL.nil (inBlockQ.normal (thenQ.normal ?_))
                  refine WC.region rfl ?_
                  refine WL.y rfl (Y.add64 rfl rfl (by omega)) ?_
                  refine WL.y rfl (Y.move) ?_
                  refine WL.nil (thenQ.normal ?_)
                  have s43 := hb43.size
                  have s51 := hb51.size
                  have s52 := hg52.size
                  have s1 := hb1.size
                  have k52 : Below w.heap.size w w52 := (Below.step kL bb).trans (below_of_grown hg52 (by omega) (fun b e => by have := hap b e; omega))
                  refine ⟨j + 1, by omega, by omega, rfl, k52, by omega, fun k hk => ?_, _, bl', bs ++ [b], _, hPB'.append (by omega) hjl ((n43.bel hb51).mono (fun b _ h => ⟨by omega, by omega⟩)) ho52 hbl' hg52, ov_mk ⟨rfl, rfl, rfl, rfl, trivial⟩⟩
                  rw [List.take_succ_eq_append_getElem hjl, List.mem_append, List.mem_singleton] at hk
                  rcases hk with hk | rfl
                  · exact hgood k hk
                  · exact hok
                · skip
                  skip
                  refine WC.seqR rfl ?_
                  refine WL.y rfl (Y.loadK Try.underlying25 rfl ti25 (lc[j].h) rfl (hB8.cells)) ?_
                  refine WL.call rfl (C.func go12) (ihF _ hjm _ _ (hsh.bel k8) (by omega) (by omega) hok) ?_
                  rintro _ w43 ⟨rfl, hb43⟩
                  refine WL.y rfl (Y.move) ?_
                  refine WL.y rfl (Y.extract rfl rfl) ?_
                  refine WL.y rfl (Y.extract rfl rfl) ?_
                  refine WL.y rfl (Y.assign) ?_
                  refine WL.y rfl (Y.assign) ?_
                  refine WL.nil ?_
                  refine WC.seq ?_
                  refine WC.seqR rfl ?_
                  refine WL.y rfl (Y.move) ?_
                  refine WL.y rfl (Y.nei rfl rfl) ?_
                  refine WL.nil ?_
                  refine WC.condT (rfl) ?_
                  refine WC.seqR rfl ?_
                  refine WL.y rfl (Y.move) ?_
                  refine WL.y rfl (Y.assign) ?_
                  refine WL.y rfl (Y.assign) ?_
                  refine WL.nil ?_
                  refine WC.ret (thenQ.ret (inBlockQ.ret (thenQ.ret (thenQ.ret (inBlockQ.ret (thenQ.ret (endQ.two (.inr rfl) ?_)))))))
                  exact ⟨Below.step kL (Below.step k8 hb43), .inr ⟨fun h => hok ((hki.1 h).2.1 _ hjm), rfl⟩⟩
              · have hje : j = s.kids.length := by omega
                rw [hje, List.take_length] at hgood
                rw [hje] at hPB
                have hA := hPB.at
                refine WC.exit (thenQ.exit (thenQ.exit (inBlockQ.hit (thenQ.normal ?_))))
                by_cases hio : innerOk s.kids
                · refine WC.seqR rfl ?_
                  refine WL.y rfl (Y.move) ?_
                  refine WL.call rfl (C.func go20) (innerT hA (by omega) (by omega) (by omega) hio) ?_
                  rintro _ w55 ⟨⟨b, kv', bl', rfl, hb1', hb2', hB', hO'⟩, hb55⟩
                  refine WL.y rfl (Y.extract rfl rfl) ?_
                  refine WL.y rfl (Y.extract rfl rfl) ?_
                  refine WL.y rfl (Y.assign) ?_
                  refine WL.y rfl (Y.assign) ?_
                  refine WL.nil ?_
                  refine WC.ret (endQ.two (.inr rfl) ?_)
                  have hok : OkS s := hki.2 ⟨by omega, hgood, hio⟩
                  have s1 := hb1.size
                  have ees : s = .mk [] s.kids := by
                    cases s with
                    | mk es kids => rw [List.eq_nil_of_length_eq_zero (show es.length = 0 by have := (hki.1 hok).1; exact this)]; rfl
                  refine ⟨Below.step kL hb55, .inl ⟨hok, b, rfl, ?_⟩⟩
                  refine .mk (bs := bs) (bl := bl') (by rw [ees]; exact hB') (by show _ ≤ _; omega) (by rw [ees]; exact EW.nil) hA.len (.inr (by omega)) hO' (fun j h h' => ((hA.nd j h h').bel hb55).mono (fun b _ h => by omega)) hok
                · skip
                  skip
                  refine WC.seqR rfl ?_
                  refine WL.y rfl (Y.move) ?_
                  refine WL.call rfl (C.func go20) (innerF hA (by omega) (by omega) (by omega) hio) ?_
                  rintro _ w55 ⟨rfl, hb55⟩
                  refine WL.y rfl (Y.extract rfl rfl) ?_
                  refine WL.y rfl (Y.extract rfl rfl) ?_
                  refine WL.y rfl (Y.assign) ?_
                  refine WL.y rfl (Y.assign) ?_
                  refine WL.nil ?_
                  refine WC.ret (endQ.two (.inr rfl) ?_)
                  exact ⟨Below.step kL hb55, .inr ⟨fun h => hio (hki.1 h).2.2, rfl⟩⟩
end Go.Proofs.Ytpefeefmdlfafaa
