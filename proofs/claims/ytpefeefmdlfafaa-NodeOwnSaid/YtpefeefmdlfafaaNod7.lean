/-
  node: rising, Leaf: walks.
-/
import Derived.Test.YtpefeefmdlfafaaNod6
import Derived.Test.YtpefeefmdlfafaaNod3
namespace Go.Proofs.Ytpefeefmdlfafaa
open Go Go.RowKit Go.Cx
set_option linter.unusedVariables false
set_option maxHeartbeats 8000000
theorem eless_ret (w : World) (k1 k2 : List UInt8) (x y : V) (c d : List Value) (hc : VAt w x c) (hd : VAt w y d) : Ret Try.prog 34 [.agg (strv k1 :: c).toArray, .agg (strv k2 :: d).toArray].toArray w fun r w' => r = .bool (slt k1 k2) ∧ Below w.heap.size w w' := by
  have hl1 := hc.len
  have hl2 := hd.len
  refine Ret.of (n := 10) (rs := #[.tmp 4]) Try.func34 rfl rfl rfl (by simp) ?_
  refine WC.seqR rfl ?_
  refine WL.eex rfl (E.boxX) ?_
  rintro _ w2 ⟨rfl, hB2, hb2⟩
  refine WL.eex rfl (E.boxX) ?_
  rintro _ w3 ⟨rfl, hB3, hb3⟩
  refine WL.y rfl (Y.assign) ?_
  refine WL.nil ?_
  refine WC.seqR rfl ?_
  refine WL.y rfl (Y.fieldAddr fi42f0 ti9 (by decide) rfl (rfl) _) ?_
  refine WL.y rfl (Y.load1 Try.underlying9 rfl rfl (((show Blk _ _ _ (strv k1 :: c) from hB2).bel hb3).cell 0)) ?_
  refine WL.y rfl (Y.fieldAddr fi42f0 ti9 (by decide) rfl (rfl) _) ?_
  refine WL.y rfl (Y.load1 Try.underlying9 rfl rfl ((show Blk _ _ _ (strv k2 :: d) from hB3).cell 0)) ?_
  refine WL.y rfl (Y.ltS rfl rfl) ?_
  refine WL.y rfl (Y.assign) ?_
  refine WL.nil ?_
  refine WC.ret (endQ.one (.inr rfl) ?_)
  exact ⟨rfl, Below.step hb2 hb3⟩
theorem rise_ret (l : List En) (r : Value) (w : World) (h : EAt w l r) (hlen : l.length ≤ 1353245080300) : Ret Try.prog 33 [r, .func (.func 34) #[] #[]].toArray w fun v w' => (∃ e : Bool, v = .bool e ∧ (e = true ↔ rise l)) ∧ Below w.heap.size w w' := by
  obtain ⟨lc, a1, a2, a3⟩ := h
  refine Ret.of (n := 24) (rs := #[.tmp 4]) Try.func33 rfl rfl rfl (by simp) ?_
  refine WC.seqR rfl ?_
  refine WL.y rfl (Y.assign) ?_
  refine WL.nil ?_
  refine WC.seq ?_
  refine WC.seqR rfl ?_
  refine WL.y rfl (Y.assign) ?_
  refine WL.nil ?_
  refine WC.block ?_
  refine WC.loop (fun j => l.length - j) (fun j f ds w' => (j = 0 ∨ j + 1 ≤ l.length) ∧ ds = [] ∧ Below w.heap.size w w' ∧ (∀ i (h : i + 1 < l.length), i < j → slt (l[i]'(by omega)).1 l[i + 1].1 = true) ∧ ∃ J, f = Go.Cx.ov J [(0, r), (1, .func (.func 34) #[] #[]), (5, .int .i64 ((j : Int) + 1))]) 0 ?_ ?_
  · exact ⟨.inl rfl, rfl, Below.refl _ _, fun i h h2 => absurd h2 (by omega), _, ov_mk ⟨rfl, rfl, rfl, trivial⟩⟩
  · rintro j _ _ wL ⟨hj, rfl, kL, hgood, J, rfl⟩
    refine WC.seq ?_
    refine WC.seqR rfl ?_
    refine WL.y rfl (Y.move) ?_
    refine WL.y rfl (Y.move) ?_
    refine WL.y rfl (Y.lenSl Try.underlying22 (a2.bel kL) _) ?_
    refine WL.y rfl (Y.lss rfl rfl) ?_
    refine WL.nil ?_
    refine WC.condD rfl (fun h0 => ?_) (fun h0 => ?_)
    · have hj1 : j + 1 < l.length := by omega
      have hj0 : j < l.length := by omega
      have hc1 : j + 1 < lc.length := by omega
      have hc0 : j < lc.length := by omega
      have hm0 : (strv l[j].1 :: lc[j].c).length = 7 := by rw [List.length_cons, lc[j].h]
      have hm1 : (strv l[j + 1].1 :: lc[j + 1].c).length = 7 := by rw [List.length_cons, lc[j + 1].h]
      by_cases hlt : slt l[j].1 l[j + 1].1 = true
      · refine WC.skip (thenQ.normal ?_)
        refine WC.seq ?_
        refine WC.block ?_
        refine WC.seq ?_
        refine WC.regionB (fun i => Nat.beq i 10) [(0, .any), (1, .any), (2, .any), (3, .any), (4, .any), (5, .held), (6, .any), (7, .any), (8, .any), (9, .held), (10, .seq), (11, .any)] mixed (by kernel_rfl) (fun w4x hS4 hheap => ?_)
        refine RL.any rfl rfl (fun _ => Y.move) ?_
        refine RL.any rfl rfl (fun _ => Y.move) ?_
        refine RL.any rfl rfl (fun _ => Y.move) ?_
        refine RL.any rfl rfl (fun _ => Y.sub64 rfl rfl (by omega)) ?_
        refine RL.yex rfl rfl (Y.idx Try.underlying22 ti42 (by decide) (a2.bel kL) rfl (by omega) (by omega)) ?_
        rintro _ ⟨b16, o16, rfl, hc16⟩
        refine RL.held rfl rfl hS4 (fun _ hb9 => Y.loadK Try.underlying42 rfl ti42 (hm0) rfl (Cells.bel (elem_ent hj0 hc0 (by omega) hc16) hb9)) ?_
        refine RL.any rfl rfl (fun _ => Y.move) ?_
        refine RL.any rfl rfl (fun _ => Y.move) ?_
        refine RL.yex rfl rfl (Y.idx Try.underlying22 ti42 (by decide) (a2.bel kL) rfl (by omega) (by omega)) ?_
        rintro _ ⟨b20, o20, rfl, hc20⟩
        refine RL.held rfl rfl hS4 (fun _ hb9 => Y.loadK Try.underlying42 rfl ti42 (hm1) rfl (Cells.bel (elem_ent hj1 hc1 (by omega) hc20) hb9)) ?_
        refine RL.call rfl rfl (C.value go34 rfl) ((eless_ret _ l[j].1 l[j + 1].1 l[j].2 l[j + 1].2 lc[j].c lc[j + 1].c (((a3 j hj0 hc0).bel kL).bel hS4) (((a3 (j + 1) hj1 hc1).bel kL).bel hS4))) ?_
        rintro _ w22 ⟨rfl, hb22⟩
        refine ⟨.inl rfl, ?_⟩
        refine RL.any rfl rfl (fun _ => Y.not rfl) ?_
        refine RL.nil (thenQ.normal ?_)
        refine WC.condF (by rw [hlt]; rfl) ?_
        refine WC.skip (inBlockQ.normal (thenQ.normal ?_))
        refine WC.region rfl ?_
        refine WL.y rfl (Y.move) ?_
        refine WL.y rfl (Y.add64 rfl rfl (by omega)) ?_
        refine WL.y rfl (Y.assign) ?_
        refine WL.nil (thenQ.normal ?_)
        exact ⟨j + 1, by omega, .inr (by omega), rfl, Below.step (Below.step kL hS4) hb22, fun i h h2 => by
          by_cases e : i = j
          · subst e; exact hlt
          · exact hgood i h (by omega), _, ov_mk ⟨rfl, rfl, int_eq (by omega), trivial⟩⟩
      · have hlf : slt l[j].1 l[j + 1].1 = false := by simpa using hlt
        skip
        refine WC.skip (thenQ.normal ?_)
        refine WC.seq ?_
        refine WC.block ?_
        refine WC.seq ?_
        refine WC.regionB (fun i => Nat.beq i 10) [(0, .any), (1, .any), (2, .any), (3, .any), (4, .any), (5, .held), (6, .any), (7, .any), (8, .any), (9, .held), (10, .seq), (11, .any)] mixed (by kernel_rfl) (fun w4x hS4 hheap => ?_)
        refine RL.any rfl rfl (fun _ => Y.move) ?_
        refine RL.any rfl rfl (fun _ => Y.move) ?_
        refine RL.any rfl rfl (fun _ => Y.move) ?_
        refine RL.any rfl rfl (fun _ => Y.sub64 rfl rfl (by omega)) ?_
        refine RL.yex rfl rfl (Y.idx Try.underlying22 ti42 (by decide) (a2.bel kL) rfl (by omega) (by omega)) ?_
        rintro _ ⟨b16, o16, rfl, hc16⟩
        refine RL.held rfl rfl hS4 (fun _ hb9 => Y.loadK Try.underlying42 rfl ti42 (hm0) rfl (Cells.bel (elem_ent hj0 hc0 (by omega) hc16) hb9)) ?_
        refine RL.any rfl rfl (fun _ => Y.move) ?_
        refine RL.any rfl rfl (fun _ => Y.move) ?_
        refine RL.yex rfl rfl (Y.idx Try.underlying22 ti42 (by decide) (a2.bel kL) rfl (by omega) (by omega)) ?_
        rintro _ ⟨b20, o20, rfl, hc20⟩
        refine RL.held rfl rfl hS4 (fun _ hb9 => Y.loadK Try.underlying42 rfl ti42 (hm1) rfl (Cells.bel (elem_ent hj1 hc1 (by omega) hc20) hb9)) ?_
        refine RL.call rfl rfl (C.value go34 rfl) ((eless_ret _ l[j].1 l[j + 1].1 l[j].2 l[j + 1].2 lc[j].c lc[j + 1].c (((a3 j hj0 hc0).bel kL).bel hS4) (((a3 (j + 1) hj1 hc1).bel kL).bel hS4))) ?_
        rintro _ w22 ⟨rfl, hb22⟩
        refine ⟨.inl rfl, ?_⟩
        refine RL.any rfl rfl (fun _ => Y.not rfl) ?_
        refine RL.nil (thenQ.normal ?_)
        refine WC.condT (by rw [hlf]; rfl) ?_
        refine WC.seqR rfl ?_
        refine WL.y rfl (Y.assign) ?_
        refine WL.nil ?_
        refine WC.ret (inBlockQ.ret (thenQ.ret (thenQ.ret (inBlockQ.ret (thenQ.ret (endQ.one (.inr rfl) ?_))))))
        exact ⟨⟨false, rfl, noP (fun h => hlt (h j hj1))⟩, Below.step (Below.step kL hS4) hb22⟩
    · refine WC.exit (thenQ.exit (thenQ.exit (inBlockQ.hit (thenQ.normal ?_))))
      refine WC.seqR rfl ?_
      refine WL.y rfl (Y.assign) ?_
      refine WL.nil ?_
      refine WC.ret (endQ.one (.inr rfl) ?_)
      exact ⟨⟨true, rfl, fun _ i h => hgood i h (by omega), fun _ => rfl⟩, kL⟩
theorem riseT {l : List En} {r : Value} {w : World} (h : EAt w l r) (hlen : l.length ≤ 1353245080300) (hr : rise l) : Ret Try.prog 33 [r, .func (.func 34) #[] #[]].toArray w fun v w' => v = .bool true ∧ Below w.heap.size w w' :=
  (rise_ret l r w h hlen).mono fun r w' ⟨⟨e, a, b⟩, d⟩ => ⟨by rw [a, b.2 hr], d⟩
theorem riseF {l : List En} {r : Value} {w : World} (h : EAt w l r) (hlen : l.length ≤ 1353245080300) (hr : ¬ rise l) : Ret Try.prog 33 [r, .func (.func 34) #[] #[]].toArray w fun v w' => v = .bool false ∧ Below w.heap.size w w' :=
  (rise_ret l r w h hlen).mono fun r w' ⟨⟨e, a, b⟩, d⟩ => ⟨by rw [a]; cases e with | false => rfl | true => exact absurd (b.1 rfl) hr, d⟩
theorem okS_leaf {es : List En} : OkS (.mk es []) ↔ es.length ≤ 8 ∧ rise es := by
  constructor
  · intro h
    cases h with
    | leaf h hr => exact ⟨h, hr⟩
    | inner h hi => exact absurd hi.1.1 (by simp)
  · rintro ⟨h1, h2⟩
    exact .leaf h1 h2
def LeafR (w : World) (s : Sh) (v : Value) (w' : World) : Prop := Below w.heap.size w w' ∧ ((OkS s ∧ ∃ b, v = .tuple #[ptr b, .int .i64 0] ∧ NdR w' (fun b => w.heap.size ≤ b) s b) ∨ (¬ OkS s ∧ v = .tuple #[.pointer none, .int .i64 2]))
theorem firstS_get {l : List En} (h : 0 < l.length) : firstS l = l[0].1 := by
  unfold firstS
  rw [List.head?_eq_getElem?, List.getElem?_eq_getElem h]
  rfl
theorem lastS_get {l : List En} (h : 0 < l.length) : lastS l = (l[l.length - 1]'(by omega)).1 := by
  unfold lastS
  rw [List.getLast?_eq_getElem?, List.getElem?_eq_getElem (by omega)]
  rfl
theorem leaf_ret (l : List En) (r : Value) (w : World) (h : EAt w l r) (hlen : l.length ≤ 1353245080300) : Ret Try.prog 16 [r].toArray w fun v w' => LeafR w (.mk l []) v w' := by
  have h0 := h
  obtain ⟨lc, a1, a2, a3⟩ := h
  refine Ret.of (n := 40) (rs := #[.tmp 2, .tmp 3]) Try.func16 rfl rfl rfl (by simp) ?_
  refine WC.seqR rfl ?_
  refine WL.y rfl (Y.assign) ?_
  refine WL.y rfl (Y.assign) ?_
  refine WL.nil ?_
  refine WC.seq ?_
  by_cases c8 : 8 < l.length
  · refine WC.seqR rfl ?_
    refine WL.y rfl (Y.move) ?_
    refine WL.y rfl (Y.lenSl Try.underlying22 (a2) _) ?_
    refine WL.y rfl (Y.dT (Y.gtr rfl rfl) (by omega)) ?_
    refine WL.y rfl (Y.move) ?_
    refine WL.off rfl ?_
    refine WL.off rfl ?_
    refine WL.off rfl ?_
    refine WL.y rfl (Y.pickT rfl) ?_
    refine WL.nil ?_
    refine WC.condT (rfl) ?_
    refine WC.seqR rfl ?_
    refine WL.y rfl (Y.assign) ?_
    refine WL.y rfl (Y.assign) ?_
    refine WL.nil ?_
    refine WC.ret (thenQ.ret (endQ.two (.inr rfl) ?_))
    exact ⟨Below.refl _ _, .inr ⟨fun h => by have := (okS_leaf.1 h).1; omega, rfl⟩⟩
  · by_cases hr : rise l
    · refine WC.seqR rfl ?_
      refine WL.y rfl (Y.move) ?_
      refine WL.y rfl (Y.lenSl Try.underlying22 (a2) _) ?_
      refine WL.y rfl (Y.dF (Y.gtr rfl rfl) (by omega)) ?_
      refine WL.y rfl (Y.move) ?_
      refine WL.y rfl (Y.move) ?_
      refine WL.call rfl (C.func go33) (riseT h0 hlen hr) ?_
      rintro _ w10 ⟨rfl, hb10⟩
      refine WL.y rfl (Y.not rfl) ?_
      refine WL.y rfl (Y.pickF rfl) ?_
      refine WL.nil ?_
      refine WC.condF (rfl) ?_
      refine WC.skip (thenQ.normal ?_)
      refine WC.seqR rfl ?_
      refine WL.y rfl (Y.move) ?_
      refine WL.call rfl (C.func go35) (copies_ret l r _ (h0.bel hb10) hlen) ?_
      rintro v14 w14 ⟨h14, hb14⟩
      have hf14 := h14.form
      obtain ⟨x14, n14, c14, rfl⟩ := hf14
      refine WL.y rfl (Y.move) ?_
      refine WL.y rfl (Y.lenSl Try.underlying22 ((a2.bel hb10).bel hb14) _) ?_
      refine WL.y rfl (Y.build (cells := #[.slice x14 n14 c14, .slice none 0 0, .int .i64 0, .int .i64 (l.length : Int), strv [], strv [], .bool false]) (by kernel_rfl) _) ?_
      refine WL.eex rfl (E.boxX) ?_
      rintro _ w18 ⟨rfl, hB18, hb18⟩
      refine WL.y rfl (Y.assign) ?_
      refine WL.nil ?_
      refine WC.seq ?_
      refine WC.seqR rfl ?_
      refine WL.y rfl (Y.move) ?_
      refine WL.y rfl (Y.lenSl Try.underlying22 (((a2.bel hb10).bel hb14).bel hb18) _) ?_
      refine WL.y rfl (Y.gtr rfl rfl) ?_
      refine WL.nil ?_
      have hok : OkS (.mk l []) := okS_leaf.2 ⟨by omega, hr⟩
      have hx := (show Blk w18 w14.heap.size 61 [.slice x14 n14 c14, .slice none 0 0, .int .i64 0, .int .i64 (l.length : Int), strv [], strv [], .bool false] from hB18)
      clear hB18
      have s10 := hb10.size
      have s14 := hb14.size
      have s18 := hb18.size
      have k18 := Below.step (Below.step hb10 hb14) hb18
      have hE := (h14.mono (M' := fun b => w.heap.size ≤ b ∧ b < w14.heap.size) (fun b h1 h2 => ⟨by omega, h1⟩)).bel hb18
      refine WC.condD rfl (fun c0 => ?_) (fun c0 => ?_)
      · have hl0 : 0 < l.length := by omega
        have hc0 : 0 < lc.length := by omega
        have hl1 : l.length - 1 < l.length := by omega
        have hc1 : l.length - 1 < lc.length := by omega
        refine WC.regionB (fun i => Nat.beq i 15 || Nat.beq i 18) [(0, .any), (1, .any), (2, .any), (3, .any), (4, .any), (5, .held), (6, .any), (7, .any), (8, .any), (9, .any), (10, .any), (11, .any), (12, .held), (13, .any), (14, .any), (15, .seq), (16, .any), (17, .any), (18, .seq)] mixed (by kernel_rfl) (fun w5x hS5 hheap => ?_)
        refine RL.any rfl rfl (fun _ => Y.move) ?_
        refine RL.any rfl rfl (fun _ => Y.move) ?_
        refine RL.any rfl rfl (fun _ => Y.move) ?_
        refine RL.yex rfl rfl (Y.idx Try.underlying22 ti42 (by decide) (a2.bel k18) rfl (by omega) (by omega)) ?_
        rintro _ ⟨b25, o25, rfl, hc25⟩
        refine RL.any rfl rfl (fun _ => Y.fieldAddr fi42f0 ti9 (by decide) rfl (rfl) _) ?_
        refine RL.held rfl rfl hS5 (fun _ hb9 => Y.load1 Try.underlying9 rfl rfl (cell_bel (Cells.hd (elem_ent hl0 hc0 (by omega) hc25)) hb9)) ?_
        refine RL.any rfl rfl (fun _ => Y.move) ?_
        refine RL.any rfl rfl (fun _ => Y.move) ?_
        refine RL.any rfl rfl (fun _ => Y.lenSl Try.underlying22 (a2.bel k18) _) ?_
        refine RL.any rfl rfl (fun _ => Y.sub64 rfl rfl (by omega)) ?_
        refine RL.yex rfl rfl (Y.idx Try.underlying22 ti42 (by decide) (a2.bel k18) rfl (by omega) (by omega)) ?_
        rintro _ ⟨b32, o32, rfl, hc32⟩
        refine RL.any rfl rfl (fun _ => Y.fieldAddr fi42f0 ti9 (by decide) rfl (rfl) _) ?_
        refine RL.held rfl rfl hS5 (fun _ hb9 => Y.load1 Try.underlying9 rfl rfl (cell_bel (Cells.hd (elem_ent hl1 hc1 (by omega) hc32)) hb9)) ?_
        refine RL.any rfl rfl (fun _ => Y.nilCheck rfl) ?_
        refine RL.any rfl rfl (fun _ => Y.fieldAddr fi61f4 ti9 (by decide) rfl (rfl) _) ?_
        refine RL.eex rfl rfl (E.storeX (u := strv l[0].1) ti9 rfl rfl rfl (hx.bel hS5) (by simp)) ?_ ?_
        · exact fun _ _ _ => .inl rfl
        rintro _ w6 ⟨hx6, hg6, -⟩
        refine RL.any rfl rfl (fun _ => Y.nilCheck rfl) ?_
        refine RL.any rfl rfl (fun _ => Y.fieldAddr fi61f5 ti9 (by decide) rfl (rfl) _) ?_
        refine RL.eex rfl rfl (E.storeX (u := strv (l[l.length - 1]'hl1).1) ti9 rfl rfl rfl hx6 (by simp)) ?_ ?_
        · exact fun _ _ _ => .inl rfl
        rintro _ w7 ⟨hx7, hg7, -⟩
        refine RL.nil (thenQ.normal ?_)
        refine WC.seqR rfl ?_
        refine WL.y rfl (Y.move) ?_
        refine WL.y rfl (Y.assign) ?_
        refine WL.y rfl (Y.assign) ?_
        refine WL.nil ?_
        refine WC.ret (endQ.two (.inr rfl) ?_)
        have k7 : Below w.heap.size w w7 := Below.stepG (Below.stepG (Below.step k18 hS5) hg6 (by omega)) hg7 (by omega)
        have s5 := hS5.size
        have s6 := hg6.size
        have s7 := hg7.size
        have kM : Kept (fun b => b = w14.heap.size) w5x w7 := (Kept.of_grown (M := fun b => b = w14.heap.size) hg6 rfl).trans (Kept.of_grown (M := fun b => b = w14.heap.size) hg7 rfl)
        refine ⟨k7, .inl ⟨hok, _, rfl, ?_⟩⟩
        refine .mk (bs := []) (bl := 0) ?_ (by show _ ≤ _; omega) ((EW.kept kM (fun b h1 h2 => by omega) (hE.bel hS5)).mono (fun b _ h => h.1)) rfl (.inl rfl) OwnK.nil (fun j h => absurd h (by simp [Sh.kids])) hok
        have e1 := firstS_get hl0
        have e2 := lastS_get hl0
        unfold ndc
        rw [flatS_leaf, e1, e2]
        exact hx7
      · have e0 : l = [] := List.eq_nil_of_length_eq_zero (by omega)
        refine WC.skip (thenQ.normal ?_)
        refine WC.seqR rfl ?_
        refine WL.y rfl (Y.move) ?_
        refine WL.y rfl (Y.assign) ?_
        refine WL.y rfl (Y.assign) ?_
        refine WL.nil ?_
        refine WC.ret (endQ.two (.inr rfl) ?_)
        refine ⟨k18, .inl ⟨hok, _, rfl, ?_⟩⟩
        refine .mk (bs := []) (bl := 0) ?_ (by show _ ≤ _; omega) (hE.mono (fun b _ h => h.1)) rfl (.inl rfl) OwnK.nil (fun j h => absurd h (by simp [Sh.kids])) hok
        subst e0
        exact hx
    · skip
      skip
      refine WC.seqR rfl ?_
      refine WL.y rfl (Y.move) ?_
      refine WL.y rfl (Y.lenSl Try.underlying22 (a2) _) ?_
      refine WL.y rfl (Y.dF (Y.gtr rfl rfl) (by omega)) ?_
      refine WL.y rfl (Y.move) ?_
      refine WL.y rfl (Y.move) ?_
      refine WL.call rfl (C.func go33) (riseF h0 hlen hr) ?_
      rintro _ w10 ⟨rfl, hb10⟩
      refine WL.y rfl (Y.not rfl) ?_
      refine WL.y rfl (Y.pickF rfl) ?_
      refine WL.nil ?_
      refine WC.condT (rfl) ?_
      refine WC.seqR rfl ?_
      refine WL.y rfl (Y.assign) ?_
      refine WL.y rfl (Y.assign) ?_
      refine WL.nil ?_
      refine WC.ret (thenQ.ret (endQ.two (.inr rfl) ?_))
      exact ⟨hb10, .inr ⟨fun h => hr (okS_leaf.1 h).2, rfl⟩⟩
end Go.Proofs.Ytpefeefmdlfafaa
