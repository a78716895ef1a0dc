/-
  utf: Quote: walk.
-/
import Derived.Test.YtgdemkchfemmpaaDoorQt4
namespace Go.Proofs.YtgdemkchfemmpaaDoor
open Go Go.RowKit Go.Cx
set_option linter.unusedVariables false
set_option maxHeartbeats 4000000
def hexDigs : List UInt8 := [48, 49, 50, 51, 52, 53, 54, 55, 56, 57, 97, 98, 99, 100, 101, 102]
/-- what stands for a rune in a quote -/
def qOf (r : Nat) : List UInt8 := if selfR r then Lib.encodeRune (r : Int) else match letOf r with
  | some c => [92, UInt8.ofNat c]
  | none => [92, 117, 48, 48, hexDigs.getD (r / 16) 0, hexDigs.getD (r % 16) 0]
theorem enc_len (r : Nat) : 1 ≤ (Lib.encodeRune (r : Int)).length ∧ (Lib.encodeRune (r : Int)).length ≤ 4 := by
  have := Lib.runeCells_le (r : Int)
  rwa [Lib.runeCells_length] at this
theorem qOf_len (r : Nat) : (qOf r).length ≤ 6 := by
  unfold qOf
  have := enc_len r
  split
  · omega
  · split <;> simp
theorem enc_ascii (c : Nat) (h : c < 128) : Lib.encodeRune (c : Int) = [UInt8.ofNat c] := by
  unfold Lib.encodeRune
  rw [Lib.encodeRuneZ_one (by omega) (by omega)]
  simp
theorem letOf_lt {r c : Nat} (h : letOf r = some c) : c < 128 := by
  unfold letOf at h
  repeat' split at h
  all_goals first | (cases h; omega) | cases h
def qAll (ps : List (Nat × Nat)) : List UInt8 := ps.flatMap fun p => qOf (cR p.2)
theorem qAll_snoc (ps : List (Nat × Nat)) (x : Nat × Nat) : qAll (ps ++ [x]) = qAll ps ++ qOf (cR x.2) := by simp [qAll]
theorem qAll_len (ps : List (Nat × Nat)) : (qAll ps).length ≤ 6 * ps.length := by
  induction ps with
  | nil => simp [qAll]
  | cons p ps ih =>
    have := qOf_len (cR p.2)
    simp only [qAll, List.flatMap_cons, List.length_append, List.length_cons] at ih ⊢
    omega
/-- the quote of a text -/
def quoteL (s : List UInt8) : List UInt8 := 34 :: qAll (rns s 0) ++ [34]
def quoteV (s : List UInt8) : Value := if Lib.validD s then .tuple #[strv (quoteL s), .int .i64 0] else .tuple #[strv [], .int .i64 3]
/-- what a round keeps -/
def KK (w0 : World) (bx : Nat) (s : List UInt8) (W W' : World) : Prop := KeepsOthers W W' ∧ KpR w0 bx s W W'
theorem KK.trans {w0 A B C : World} {bx : Nat} {s : List UInt8} (h : KK w0 bx s A B) (k : KK w0 bx s B C) : KK w0 bx s A C := ⟨h.1.trans k.1, h.2.trans k.2⟩
theorem KK.wr {w0 W W' : World} {bx b : Nat} {s l : List UInt8} (h : WrA w0.heap.size b W W') (hb : BdA W w0.heap.size b l) (hne : bx ≠ b) : KK w0 bx s W W' := by
  obtain ⟨_, p, v, _, hB, _⟩ := hb
  exact ⟨h.keeps hB, h.1, fun hx => h.blk hx hne (by decide)⟩
theorem KK.below {w0 W W' : World} {bx : Nat} {s : List UInt8} (h : Below W.heap.size W W') (h0 : w0.heap.size ≤ W.heap.size) : KK w0 bx s W W' := ⟨keeps_below h, h.mono h0, fun hx => hx.bel h⟩
theorem BdA.bel {w w' : World} {B b : Nat} {l : List UInt8} (h : BdA w B b l) (hb : Below w.heap.size w w') : BdA w' B b l := by
  obtain ⟨h1, p, v, hp, hB, ho, hne⟩ := h
  exact ⟨h1, p, v, hp, hB.bel hb, ownsRow_bel ho hb, hne⟩
/-- another block is written -/
theorem BdA.grown {w w' : World} {B b c : Nat} {t : TypeId} {vs : List Value} {l : List UInt8} (h : BdA w B b l) (hc : Blk w c t vs) (ht : t ≠ 5) (hne : c ≠ b) (hg : w.grownBy w' (some c)) : BdA w' B b l := by
  obtain ⟨h1, p, v, hp, hB, ho, hne2⟩ := h
  refine ⟨h1, p, v, hp, hB.grown hg (fun e => hne e.symm), ho.kept hg ?_, hne2⟩
  rcases ho.2 with ⟨rfl, _⟩ | ⟨g, cap, cur, rfl, _, hgg, _⟩
  · exact .inl rfl
  · refine .inr (fun e => ?_)
    have e2 : g = c := Option.some.inj e
    subst e2
    rw [show w.heap[g]? = _ from hc] at hgg
    exact ht (Obj.cells.inj (Option.some.inj hgg)).2.1
theorem map_ne {w : World} {B b mb : Nat} {l : List UInt8} {m : List (Value × Value)} (hm : MapAt w mb m) (h : BdA w B b l) : mb ≠ b := by
  obtain ⟨_, p, v, _, hB, _⟩ := h
  obtain ⟨es, c, h1, _⟩ := hm
  rintro rfl
  rw [show w.heap[mb]? = _ from hB] at h1
  cases h1
theorem validString_ret (w : World) (s : List UInt8) (hs : s.length ≤ 2305843009213693952) (hT : Tabs w) :
    Ret Tryd.prog 21 [strv s].toArray w fun v w' => v = .bool (Lib.validD s) ∧ Below w.heap.size w w' := by
  refine Calls.mono (Any.utf8_ValidString Tryd.laysValid ⟨s.toArray⟩ w (by rw [ba_size]; omega) hT) ?_
  rintro e w' ⟨rfl, hb⟩
  exact ⟨_, rfl, by simp, hb⟩
theorem uvalid_ret (w : World) (s : List UInt8) (hs : s.length ≤ 2305843009213693952) (hT : Tabs w) :
    Ret Tryd.prog 9 [strv s].toArray w fun v w' => v = .bool (Lib.validD s) ∧ Below w.heap.size w w' := by
  refine Ret.of (n := 5) (rs := #[.tmp 2]) Tryd.func9 rfl rfl rfl (by simp) ?_
  refine WC.seqR rfl ?_
  refine WL.y rfl (Y.assign) ?_
  refine WL.nil ?_
  refine WC.seqR rfl ?_
  refine WL.y rfl (Y.move) ?_
  refine WL.call rfl (C.func go21) (validString_ret _ s hs hT) ?_
  rintro _ w4 ⟨rfl, hb4⟩
  refine WL.y rfl (Y.assign) ?_
  refine WL.nil ?_
  refine WC.ret (endQ.one (.inr rfl) ?_)
  exact ⟨rfl, hb4⟩
theorem wr_rec {B b D : Nat} {w w' : World} {x : Option (List Deferred)} (h : WrA B b w w') (hD : w.heap[D]? = some (.deferred x)) (hne : D ≠ b) : w'.heap[D]? = some (.deferred x) :=
  h.2 D _ hD (fun e => hne (Option.some.inj e)) (fun c fz e => by cases e)
theorem map_grown {w w' : World} {c mb : Nat} {t : TypeId} {vs : List Value} {m : List (Value × Value)} (hm : MapAt w mb m) (hc : Blk w c t vs) (hg : w.grownBy w' (some c)) : MapAt w' mb m :=
  hm.grown hg (fun e => by
    subst e
    obtain ⟨es, k, h1, _⟩ := hm
    rw [show w.heap[mb]? = _ from hc] at h1
    cases h1)
theorem quote_ret (w : World) (s : List UInt8) (hT : Tabs w) (hs : s.length ≤ 17592186044416) : Ret Tryd.prog 12 [strv s].toArray w fun v w' => v = quoteV s ∧ Below w.heap.size w w' := by
  have hlen := rns_len s 0
  refine Ret.ofM (n := 46) (rs := #[.tmp 2, .tmp 3]) Tryd.func12 rfl rfl rfl (by simp) ?_
  refine WC.seqR rfl ?_
  refine WL.y rfl (Y.assign) ?_
  refine WL.y rfl (Y.assign) ?_
  refine WL.nil ?_
  refine WC.seq ?_
  refine WC.seqR rfl ?_
  refine WL.y rfl (Y.move) ?_
  refine WL.call rfl (C.func go9) (uvalid_ret _ s (by omega) hT) ?_
  rintro _ w11 ⟨rfl, hb11⟩
  refine WL.y rfl (Y.not rfl) ?_
  refine WL.nil ?_
  refine WC.cond rfl (fun h0 => ?_) (fun h0 => ?_)
  · have e : quoteV s = .tuple #[strv [], .int .i64 3] := if_neg (by simpa using h0)
    refine WC.seqR rfl ?_
    refine WL.y rfl (Y.assign) ?_
    refine WL.y rfl (Y.assign) ?_
    refine WL.nil ?_
    refine WC.ret (thenQ.ret (endQM.plain2 (.inr rfl) ?_))
    exact ⟨e.symm, hb11⟩
  · have e : quoteV s = .tuple #[strv (quoteL s), .int .i64 0] := if_pos (by simpa using h0)
    have hbd5 : ∀ {w5 : World} {b : Nat}, Blk w5 b 51 [.pointer none, .slice none 0 0] → w.heap.size ≤ b → BdA w5 w.heap.size b [] := fun h hB => ⟨hB, _, _, .inl rfl, h, World.ownsRow_nil _ _ _ _, by simp [Value.ownBlock]⟩
    have l11 := hb11.size
    refine WC.skip (thenQ.normal ?_)
    refine WC.seqR rfl ?_
    refine WL.eex rfl (E.allocX ti47) ?_
    rintro _ w4 ⟨rfl, hB4, hb4⟩
    refine WL.nil ?_
    refine WC.seqR rfl ?_
    refine WL.eex rfl (E.allocX ti51) ?_
    rintro _ w5 ⟨rfl, hB5, hb5⟩
    refine WL.nil ?_
    refine WC.seqR rfl ?_
    refine WL.call rfl (C.func go23) (writeByte_ret _ w.heap.size _ [] 34 (hbd5 hB5 (by have := hb4.size; omega)) (by simp) (by have := hb4.size; have := hb5.size; omega)) ?_
    rintro _ w13 ⟨hbd13, hwr13⟩
    refine WL.nil ?_
    refine WC.seq ?_
    refine WC.seqR rfl ?_
    refine WL.y rfl (Y.move) ?_
    refine WL.call rfl (C.func go19) (runesI_ret _ s) ?_
    rintro _ w15 ⟨rfl, hBx, hb15⟩
    refine WL.nil ?_
    refine WC.block ?_
    have l4 := hb4.size
    have l5 := hb5.size
    have l6 := hB5.lt
    have l13 := hwr13.1.size
    have l15 := hBx.lt
    have lB4 := hB4.lt
    have hc13 : Blk w13 w11.heap.size 47 [.map none] := hwr13.blk (hB4.bel hb5) (by omega) (by decide)
    have hs13 : w5.heap.size ≤ w13.heap.size := hwr13.1.size
    have hbA : Below w.heap.size w w13 := (Below.step (Below.step hb11 hb4) hb5).trans hwr13.1
    have hb := Below.step hbA hb15
    generalize hc4 : w11.heap.size = c4 at *
    generalize hcb : w4.heap.size = b at *
    generalize hcx : w13.heap.size = bx at *
    refine WC.rangeFuncN (gf := 35) (lb := [.pointer (some ⟨bx, 0, none⟩)]) (ps := [16, 17]) rfl go35 (runes_seq bx s w w15 hT hb hBx (by omega)) (fun h k => h.trans k) (KpR.b (by omega) (by omega)) (Below.refl _ _) (fun _ => rfl) rfl
      (fun pre W => (BdA W w.heap.size b (34 :: qAll pre) ∧ Below w.heap.size w W) ∧ ∃ p : Option Nat, Blk W c4 47 [.map p] ∧ ∀ mb, p = some mb → MapAt W mb (encM letM)) (fun _ _ _ => False)
      ?_ (fun _ _ _ _ _ h _ _ => h) ⟨⟨hbd13.bel (hcx ▸ hb15), hb⟩, none, hc13.bel (hcx ▸ hb15), fun mb e => by cases e⟩ (fun x f => upd (foldSet [16, 17] (encR x) f) 7 (.int .i32 (cR x.2 : Int))) ?_ ?_ ?_ ?_
    · refine ((OwnR.bd (fun pre : List (Nat × Nat) => 34 :: qAll pre)).and (OwnR.below (Nat.le_refl _) (by omega))).and ?_
      intro s W W' row ⟨p, h1, h2⟩ hg hr
      exact ⟨p, not_rec h1 rfl hg hr, fun mb e => OwnR.map (β := Unit) () W W' row (h2 mb e) hg hr⟩
    · intro ll x W
      refine WC.region rfl ?_
      refine WL.y rfl (Y.assign) ?_
      refine WL.nil ?_
      exact ⟨rfl, rfl, rfl, rfl⟩
    · rintro ll pre x W ⟨⟨hbd, hb1⟩, p, hc, hmp⟩ hN
      have hs1 := hb1.size
      have hr := cR_ok x.2
      have hr1 := hr.1
      have hql := qAll_len pre
      have hqx := qAll_snoc pre x
      have hl8 : (34 :: qAll pre).length ≤ 105553116266497 := by rw [List.length_cons]; omega
      generalize cR x.2 = r at *
      refine WC.block ?_
      refine WC.seq ?_
      refine WC.seqR rfl ?_
      refine WL.y rfl (Y.move) ?_
      refine WL.call rfl (C.func go24) (self_ret _ r (by omega)) ?_
      rintro _ _ ⟨rfl, rfl⟩
      refine WL.nil ?_
      refine WC.cond rfl (fun h1 => ?_) (fun h1 => ?_)
      · have hq : qOf r = Lib.encodeRune (r : Int) := by unfold qOf; rw [if_pos h1]
        refine WC.seqR rfl ?_
        refine WL.y rfl (Y.move) ?_
        refine WL.call rfl (C.func go25) (writeRune_ret _ w.heap.size b _ r hbd hr1 (by omega) hs1) ?_
        rintro _ w21 ⟨hbd21, hwr⟩
        refine WL.nil ?_
        refine WC.exit (thenQ.exit (inBlockQ.hit ?_))
        have hk : KK w bx s W w21 := KK.wr hwr hbd (by omega)
        refine ⟨hk.1, hk.2, ⟨by rw [hqx, hq]; exact hbd21, hb1.trans hwr.1⟩, p, hwr.blk hc (by omega) (by decide), fun mb e => hwr.map (hmp mb e) (map_ne (hmp mb e) hbd)⟩
      · have hq : qOf r = match letOf r with | some c => [92, UInt8.ofNat c] | none => [92, 117, 48, 48, hexDigs.getD (r / 16) 0, hexDigs.getD (r % 16) 0] := by unfold qOf; rw [if_neg (by rw [h1]; simp)]
        refine WC.skip (thenQ.normal ?_)
        refine WC.seq ?_
        refine WC.seqR rfl ?_
        refine WL.y rfl (Y.load1 Tryd.underlying47 rfl rfl (hc.one)) ?_
        refine WL.y rfl (Y.eqmn Tryd.underlying47 rfl rfl) ?_
        refine WL.nil ?_
        refine WC.cut (fun f ds w' => ds = [] ∧ ∃ mb J, BdA w' w.heap.size b (34 :: qAll pre) ∧ Blk w' c4 47 [.map (some mb)] ∧ MapAt w' mb (encM letM) ∧ KK w bx s W w' ∧ Below w.heap.size w w' ∧ f = ov J [(4, .pointer (some ⟨c4, 0, none⟩)), (5, slf b), (7, .int .i32 (r : Int))]) ?_ ?_
        · skip
          refine WC.cond rfl (fun h2 => ?_) (fun h2 => ?_)
          · obtain rfl : p = none := by cases p with | none => rfl | some q => cases h2
            refine WC.region rfl ?_
            refine WL.call rfl (C.func go26) (letMap_ret _) ?_
            rintro _ w24 ⟨rfl, hm24, hb24⟩
            refine WL.eex rfl (E.storeX (u := .map (some W.heap.size)) ti47 rfl rfl rfl (hc.bel hb24) Nat.one_pos) ?_
            rintro _ wA ⟨hcA, hgA, -⟩
            refine WL.nil (thenQ.normal ?_)
            have hb24' : Below w.heap.size w w24 := Below.step hb1 hb24
            have hs24 := hb24'.size
            have k1 : KK w bx s W w24 := KK.below hb24 hs1
            have k2 : KK w bx s w24 wA := ⟨keeps_grown (hc.bel hb24) hgA, KpR.grown hgA (by omega) hs24 (by omega)⟩
            exact ⟨rfl, _, _, (hbd.bel hb24).grown (hc.bel hb24) (by decide) (by omega) hgA, hcA, map_grown hm24 (hc.bel hb24) hgA, k1.trans k2, Below.stepG hb24' hgA (by omega), ov_mk ⟨rfl, rfl, rfl, trivial⟩⟩
          · obtain ⟨mb, rfl⟩ : ∃ mb, p = some mb := by cases p with | none => cases h2 | some q => exact ⟨q, rfl⟩
            refine WC.skip (thenQ.normal ?_)
            exact ⟨rfl, _, _, hbd, hc, hmp _ rfl, ⟨keeps_below (Below.refl _ _), Below.refl _ _, fun h => h⟩, hb1, ov_mk ⟨rfl, rfl, rfl, trivial⟩⟩
        · rintro _ _ W2 ⟨rfl, mb, J, hbd2, hc2, hm2, hk2, hb2, rfl⟩
          have hs2 := hb2.size
          have hmg := mget_let r
          have hmb := map_ne hm2 hbd2
          cases hlt : letOf r with
          | some c =>
            rw [hlt] at hq hmg
            have hc128 := letOf_lt hlt
            have henc := enc_ascii c hc128
            have hqc : qOf r = [92] ++ Lib.encodeRune (c : Int) := by rw [hq, henc]; rfl
            refine WC.seq ?_
            refine WC.seqR rfl ?_
            refine WL.y rfl (Y.load1 Tryd.underlying47 rfl rfl (hc2.one)) ?_
            refine WL.y rfl (Y.move) ?_
            refine WL.y rfl (Y.lookup2S (m := letM) Tryd.underlying47 (kd_int Tryd.underlying21) ti21 rfl hm2 rfl hmg) ?_
            refine WL.y rfl (Y.move) ?_
            refine WL.y rfl (Y.extract rfl rfl) ?_
            refine WL.y rfl (Y.extract rfl rfl) ?_
            refine WL.y rfl (Y.assign) ?_
            refine WL.y rfl (Y.assign) ?_
            refine WL.nil ?_
            refine WC.seqR rfl ?_
            refine WL.y rfl (Y.move) ?_
            refine WL.nil ?_
            refine WC.condT (rfl) ?_
            refine WC.seqR rfl ?_
            refine WL.call rfl (C.func go23) (writeByte_ret _ w.heap.size b _ 92 hbd2 (by omega) hs2) ?_
            rintro _ w32 ⟨hbd32, hwr32⟩
            have hs32 := hwr32.1.size
            refine WL.nil ?_
            refine WC.seqR rfl ?_
            refine WL.y rfl (Y.move) ?_
            refine WL.call rfl (C.func go25) (writeRune_ret _ w.heap.size b _ c hbd32 (by omega) (by rw [List.length_append]; simp only [List.length_cons, List.length_nil] at hl8 ⊢; omega) (by omega)) ?_
            rintro _ w34 ⟨hbd34, hwr34⟩
            refine WL.nil ?_
            refine WC.exit (thenQ.exit (inBlockQ.hit ?_))
            have hk : KK w bx s W w34 := (hk2.trans (KK.wr hwr32 hbd2 (by omega))).trans (KK.wr hwr34 hbd32 (by omega))
            refine ⟨hk.1, hk.2, ⟨by rw [hqx, hqc]; simpa using hbd34, (hb2.trans hwr32.1).trans hwr34.1⟩, some mb, hwr34.blk (hwr32.blk hc2 (by omega) (by decide)) (by omega) (by decide), fun mb' e' => ?_⟩
            cases e'
            exact hwr34.map (hwr32.map hm2 hmb) hmb
          | none =>
            rw [hlt] at hq hmg
            have hr32 : r < 32 := by
              unfold selfR at h1
              have h1' := of_decide_eq_false h1
              unfold letOf at hlt
              repeat' split at hlt
              all_goals first | cases hlt; done | omega
            have hqc : qOf r = ([92, 117, 48, 48] ++ [hexDigs.getD (r / 16) 0]) ++ [hexDigs.getD (r % 16) 0] := by rw [hq]; rfl
            refine WC.seq ?_
            refine WC.seqR rfl ?_
            refine WL.y rfl (Y.load1 Tryd.underlying47 rfl rfl (hc2.one)) ?_
            refine WL.y rfl (Y.move) ?_
            refine WL.y rfl (Y.lookup2N (m := letM) Tryd.underlying47 (kd_int Tryd.underlying21) ti21 rfl hm2 rfl hmg) ?_
            refine WL.y rfl (Y.move) ?_
            refine WL.y rfl (Y.extract rfl rfl) ?_
            refine WL.y rfl (Y.extract rfl rfl) ?_
            refine WL.y rfl (Y.assign) ?_
            refine WL.y rfl (Y.assign) ?_
            refine WL.nil ?_
            refine WC.seqR rfl ?_
            refine WL.y rfl (Y.move) ?_
            refine WL.nil ?_
            refine WC.condF (rfl) ?_
            refine WC.skip (thenQ.normal ?_)
            refine WC.seqR rfl ?_
            refine WL.call rfl (C.func go27) (writeString_ret _ w.heap.size b _ [92, 117, 48, 48] hbd2 (by simp only [List.length_cons, List.length_nil] at hl8 ⊢; omega) hs2) ?_
            rintro _ w35 ⟨hbd35, hwr35⟩
            have hs35 := hwr35.1.size
            refine WL.nil ?_
            refine WC.seqR rfl ?_
            refine WL.y rfl (Y.move) ?_
            refine WL.y rfl (Y.shr4I32 (a := r) rfl rfl) ?_
            refine WL.y rfl (Y.idxN (r / 16) Tryd.underlying9 rfl rfl (by omega) (by simp only [List.length_cons, List.length_nil]; omega) _) ?_
            refine WL.call rfl (C.func go23) (writeByte_ret _ w.heap.size b _ (hexDigs.getD (r / 16) 0) hbd35 (by simp only [List.length_append, List.length_cons, List.length_nil] at hl8 ⊢; omega) (by omega)) ?_
            rintro _ w39 ⟨hbd39, hwr39⟩
            have hs39 := hwr39.1.size
            refine WL.nil ?_
            refine WC.region rfl ?_
            refine WL.y rfl (Y.move) ?_
            refine WL.y rfl (Y.and15I32 (a := r) rfl rfl (by omega)) ?_
            refine WL.y rfl (Y.idxN (r % 16) Tryd.underlying9 rfl rfl (by omega) (by simp only [List.length_cons, List.length_nil]; omega) _) ?_
            refine WL.call rfl (C.func go23) (writeByte_ret _ w.heap.size b _ (hexDigs.getD (r % 16) 0) hbd39 (by simp only [List.length_append, List.length_cons, List.length_nil] at hl8 ⊢; omega) (by omega)) ?_
            rintro _ w43 ⟨hbd43, hwr43⟩
            refine WL.nil (inBlockQ.normal ?_)
            have hk : KK w bx s W w43 := ((hk2.trans (KK.wr hwr35 hbd2 (by omega))).trans (KK.wr hwr39 hbd35 (by omega))).trans (KK.wr hwr43 hbd39 (by omega))
            refine ⟨hk.1, hk.2, ⟨by rw [hqx, hqc]; simpa using hbd43, ((hb2.trans hwr35.1).trans hwr39.1).trans hwr43.1⟩, some mb, hwr43.blk (hwr39.blk (hwr35.blk hc2 (by omega) (by decide)) (by omega) (by decide)) (by omega) (by decide), fun mb' e' => ?_⟩
            cases e'
            exact hwr43.map (hwr39.map (hwr35.map hm2 hmb) hmb) hmb
    · rintro D xs W hD rfl ⟨⟨hbd, hb2⟩, _⟩ hK
      have hs2 := hb2.size
      have hql := qAll_len (rns s 0)
      have hl8 : (34 :: qAll (rns s 0)).length ≤ 105553116266497 := by rw [List.length_cons]; omega
      refine (inBlockQ.normal (thenQ.normal ?_))
      refine WC.seqR rfl ?_
      refine WL.call rfl (C.func go23) (writeByte_ret _ w.heap.size b _ 34 hbd (by omega) hs2) ?_
      rintro _ w44 ⟨hbd44, hwr44⟩
      have hs44 := hwr44.1.size
      refine WL.nil ?_
      refine WC.seqR rfl ?_
      refine WL.call rfl (C.func go28) (builderString_ret _ w.heap.size b _ hbd44 (by omega)) ?_
      rintro _ w45 ⟨rfl, hwr45⟩
      have hK := wr_rec hwr45 (wr_rec hwr44 hK (by omega)) (by omega)
      refine WL.y rfl (Y.assign) ?_
      refine WL.y rfl (Y.assign) ?_
      refine WL.nil ?_
      refine WC.ret (endQM.mark2 (.inr rfl) hK ?_)
      exact ⟨e.symm, below_putObj ((hb2.trans hwr44.1).trans hwr45.1) (by omega)⟩
    · rintro D c pre W _ _ h
      exact h.elim
end Go.Proofs.YtgdemkchfemmpaaDoor
