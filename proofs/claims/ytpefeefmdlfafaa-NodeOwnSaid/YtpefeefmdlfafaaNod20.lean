/-
  law06: NodeOwn: walk, its end.
-/
import Derived.Test.YtpefeefmdlfafaaNod19
namespace Go.Proofs.Ytpefeefmdlfafaa
open Go Go.RowKit Go.Cx
set_option linter.unusedVariables false
set_option maxHeartbeats 8000000
set_option maxRecDepth 20000
def esOf (l : List (List UInt8)) (n : Int) : List En := l.map (fun s => (s, lsV n))
theorem esOf_len (l : List (List UInt8)) (n : Int) : (esOf l n).length = l.length := by simp [esOf]
theorem esOf_get {l : List (List UInt8)} {n : Int} {j : Nat} (h : j < (esOf l n).length) : (esOf l n)[j] = (l[j]'(by simpa [esOf] using h), lsV n) := by simp [esOf]
theorem str_at {l : List (List UInt8)} {j : Nat} (h : j < l.length) : (l.map strv)[j]? = some (strv l[j]) := by simp [h]
theorem shw_ent {w : World} {M : Nat → Prop} {s : Sh} {a b : Value} (h : ShW w M s [a, b]) : EW w M s.es a := by
  cases h with
  | mk he => exact he
/-- the first of some entries: where it lies -/
theorem EW.first {w : World} {M : Nat → Prop} {l : List (List UInt8)} {n : Int} {r : Value} (h : EW w M (esOf l n) r) (h0 : 0 < l.length) : ∃ (b2 o2 cap2 : Nat) (a b : Value) (rest : List Value), SlK w 7 r l.length (strv l[0] :: .int .i64 5 :: .bool false :: .int .i64 0 :: strv [] :: .slice (some ⟨b2, o2, none⟩) 1 cap2 :: rest) ∧ M b2 ∧ b2 < w.heap.size ∧ OwnK w b2 40 6 (.slice (some ⟨b2, o2, none⟩) 1 cap2) 1 (vcell (numV n) a b) := by
  obtain ⟨bl, lc, h1, h2, h3, h4⟩ := h
  have hel := esOf_len l n
  have hqq := first_en (M := M) (n := n) h1 (by omega) h3 (fun h h' => h4 0 h h') (fun h => by rw [esOf_get])
  obtain ⟨o, cap, b2, o2, cap2, a, b, rest, e1, e2, e3, e4, e5, e6, e7, e8⟩ := hqq
  refine ⟨b2, o2, cap2, a, b, rest, ?_, e4, e5, e7⟩
  have := h3.sl
  have t2 : SlK w 7 r (esOf l n).length (strv (l[0]'h0) :: .int .i64 5 :: .bool false :: .int .i64 0 :: strv [] :: .slice (some ⟨b2, o2, none⟩) 1 cap2 :: rest) := by
    rw [e8, esOf_get] at this
    exact this
  rw [hel] at t2
  exact t2
theorem nodeOwn_ret (w : World) (r : Value) (l : List (List UInt8)) (hl : StrsAt w l r) (n : Int) (hn : (Lit.int .i64 n).wf = true) : Ret Try.prog 4 [r, .int .i64 n].toArray w fun v w' => v = .bool true ∧ Below w.heap.size w w' := by
  obtain ⟨hs, hlen⟩ := hl
  have hnr : -9223372036854775808 ≤ n ∧ n ≤ 9223372036854775807 := int_range hn
  have hmx : maxLen = 9223372036854775807 := rfl
  by_cases hlong : 8 < l.length
  · refine Ret.of (n := 146) (rs := #[.tmp 4]) Try.func4 rfl rfl rfl (by simp) ?_
    refine WC.seqR rfl ?_
    refine WL.y rfl (Y.assign) ?_
    refine WL.nil ?_
    refine WC.seq ?_
    refine WC.seqR rfl ?_
    refine WL.y rfl (Y.move) ?_
    refine WL.y rfl (Y.lenSl Try.underlying35 (hs) _) ?_
    refine WL.y rfl (Y.dT (Y.gtr rfl rfl) (by omega)) ?_
    refine WL.y rfl (Y.move) ?_
    refine WL.off rfl ?_
    refine WL.off rfl ?_
    refine WL.off rfl ?_
    refine WL.y rfl (Y.pickT rfl) ?_
    refine WL.nil ?_
    refine WC.condT (rfl) ?_
    refine WC.seqR rfl ?_
    refine WL.call rfl (C.func go11) (known_ret _) ?_
    rintro _ w22 ⟨rfl, hb22⟩
    refine WL.y rfl (Y.assign) ?_
    refine WL.nil ?_
    refine WC.ret (thenQ.ret (endQ.one (.inr rfl) ?_))
    exact ⟨rfl, hb22⟩
  · by_cases hzero : l.length = 0
    · refine Ret.of (n := 146) (rs := #[.tmp 4]) Try.func4 rfl rfl rfl (by simp) ?_
      refine WC.seqR rfl ?_
      refine WL.y rfl (Y.assign) ?_
      refine WL.nil ?_
      refine WC.seq ?_
      refine WC.seqR rfl ?_
      refine WL.y rfl (Y.move) ?_
      refine WL.y rfl (Y.lenSl Try.underlying35 (hs) _) ?_
      refine WL.y rfl (Y.dF (Y.gtr rfl rfl) (by omega)) ?_
      refine WL.y rfl (Y.move) ?_
      refine WL.y rfl (Y.move) ?_
      refine WL.y rfl (Y.lenSl Try.underlying35 (hs) _) ?_
      refine WL.y rfl (Y.dT (Y.eqi rfl rfl) (by omega)) ?_
      refine WL.y rfl (Y.pickF rfl) ?_
      refine WL.nil ?_
      refine WC.condT (rfl) ?_
      refine WC.seqR rfl ?_
      refine WL.call rfl (C.func go11) (known_ret _) ?_
      rintro _ w22 ⟨rfl, hb22⟩
      refine WL.y rfl (Y.assign) ?_
      refine WL.nil ?_
      refine WC.ret (thenQ.ret (endQ.one (.inr rfl) ?_))
      exact ⟨rfl, hb22⟩
    · have hpos := sl_pos hs (by omega) (by omega)
      have hel := esOf_len l n
      refine Ret.of (n := 146) (rs := #[.tmp 4]) Try.func4 rfl rfl rfl (by simp) ?_
      refine WC.seqR rfl ?_
      refine WL.y rfl (Y.assign) ?_
      refine WL.nil ?_
      refine WC.seq ?_
      refine WC.seqR rfl ?_
      refine WL.y rfl (Y.move) ?_
      refine WL.y rfl (Y.lenSl Try.underlying35 (hs) _) ?_
      refine WL.y rfl (Y.dF (Y.gtr rfl rfl) (by omega)) ?_
      refine WL.y rfl (Y.move) ?_
      refine WL.y rfl (Y.move) ?_
      refine WL.y rfl (Y.lenSl Try.underlying35 (hs) _) ?_
      refine WL.y rfl (Y.dF (Y.eqi rfl rfl) (by omega)) ?_
      refine WL.y rfl (Y.pickF rfl) ?_
      refine WL.nil ?_
      refine WC.condF (rfl) ?_
      refine WC.skip (thenQ.normal ?_)
      refine WC.seqR rfl ?_
      refine WL.y rfl (Y.assign) ?_
      refine WL.nil ?_
      refine WC.seq ?_
      refine WC.seqR rfl ?_
      refine WL.y rfl (Y.assign) ?_
      refine WL.nil ?_
      refine WC.block ?_
      refine WC.loop (fun j => l.length - j) (fun j f ds w' => j ≤ l.length ∧ ds = [] ∧ Below w.heap.size w w' ∧ ∃ v5 bl lc J, EB w' w.heap.size (esOf l n) j v5 bl lc ∧ f = Go.Cx.ov J [(0, r), (1, .int .i64 n), (5, v5), (6, .int .i64 (j : Int))]) 0 ?_ ?_
      · exact ⟨Nat.zero_le _, rfl, Below.refl _ _, _, 0, [], _, EB.zero hpos, ov_mk ⟨rfl, rfl, rfl, rfl, trivial⟩⟩
      · rintro j _ _ wL ⟨hj, rfl, kL, v5, bl, lc, J, hE, rfl⟩
        refine WC.seq ?_
        refine WC.seqR rfl ?_
        refine WL.y rfl (Y.move) ?_
        refine WL.y rfl (Y.move) ?_
        refine WL.y rfl (Y.lenSl Try.underlying35 (hs) _) ?_
        refine WL.y rfl (Y.lss rfl rfl) ?_
        refine WL.nil ?_
        refine WC.condD rfl (fun h0 => ?_) (fun h0 => ?_)
        · have hjl : j < l.length := by omega
          have hjo : j < (esOf l n).length := by omega
          have hge := esOf_get (l := l) (n := n) hjo
          have lbl := hE.2.1
          refine WC.skip (thenQ.normal ?_)
          refine WC.seq ?_
          refine WC.block ?_
          refine WC.region rfl ?_
          refine WL.y rfl (Y.move) ?_
          refine WL.y rfl (Y.move) ?_
          refine WL.y rfl (Y.move) ?_
          refine WL.yex rfl (Y.idx Try.underlying35 ti9 (by decide) (hs.bel kL) rfl (by omega) (by omega)) ?_
          rintro _ ⟨b32, o32, rfl, hc32⟩
          refine WL.y rfl (Y.load1 Try.underlying9 rfl rfl (elem1 (str_at hjl) hc32)) ?_
          refine WL.y rfl (Y.move) ?_
          refine WL.y rfl (Y.build (cells := (numC n).toArray) (by kernel_rfl) _) ?_
          refine WL.eex rfl (E.buildSliceX (len := 1) (cs := numC n) Try.underlying37 ti40 (by omega) (by omega) (by kernel_rfl) rfl) ?_
          rintro _ w36 ⟨rfl, ho36, hb36, -⟩
          refine WL.y rfl (Y.build (cells := (lsC (.slice (some ⟨wL.heap.size, 0, none⟩) 1 1)).toArray) (by kernel_rfl) _) ?_
          refine WL.y rfl (Y.build (cells := (strv l[j] :: lsC (.slice (some ⟨wL.heap.size, 0, none⟩) 1 1)).toArray) (by kernel_rfl) _) ?_
          refine WL.eex rfl (E.build1A (c := strv l[j] :: lsC (.slice (some ⟨wL.heap.size, 0, none⟩) 1 1)) Try.underlying22 ti42 rfl (by decide) (by decide) rfl) ?_
          rintro _ w39 ⟨rfl, ho39, hb39, -⟩
          have bb : Below wL.heap.size wL w39 := Below.step hb36 hb39
          have hE' := hE.bel bb
          have hones : ∀ u ∈ strv l[j] :: lsC (.slice (some ⟨wL.heap.size, 0, none⟩) 1 1), One u = true := one_strv (one_vcell (v := lsV n) rfl rfl)
          refine WL.eex rfl (E.appendN Try.underlying22 ti42 rfl (by decide) hE'.2.2.2.1 (ownsRow_sl ho39) hones (by omega) (by omega)) ?_
          rintro v40 w40 ⟨⟨bl', ho40, hbl'⟩, hg40⟩
          refine WL.y rfl (Y.assign) ?_
          refine WL.nil (inBlockQ.normal (thenQ.normal ?_))
          refine WC.region rfl ?_
          refine WL.y rfl (Y.move) ?_
          refine WL.y rfl (Y.add64 rfl rfl (by omega)) ?_
          refine WL.y rfl (Y.assign) ?_
          refine WL.nil (thenQ.normal ?_)
          have s36 := hb36.size
          have s39 := hb39.size
          have s40 := hg40.size
          have sL := kL.size
          have hap := hE'.apart
          have hqq := OwnK.of_own ho36
          obtain ⟨b36, hB36, hO36⟩ := hqq
          have k40 : Below w.heap.size w w40 := (Below.step kL bb).trans (below_of_grown hg40 (by omega) (fun b e => by have := hap b e; omega))
          have hvw : VW w39 (fun b => w.heap.size ≤ b ∧ b ≠ bl) (lsV n) (lsC (.slice (some ⟨wL.heap.size, 0, none⟩) 1 1)) := lsW hnr.1 hnr.2 ⟨by omega, by omega⟩ (hO36.bel hb39)
          refine ⟨j + 1, by omega, by omega, rfl, k40, _, bl', lc ++ [⟨lsC (.slice (some ⟨wL.heap.size, 0, none⟩) 1 1), rfl⟩], _, hE'.append (by omega) hjo (by rw [hge]; exact hvw) (by rw [hge]; exact ho40) hbl' hg40, ov_mk ⟨rfl, rfl, rfl, rfl, trivial⟩⟩
        · have hje : j = l.length := by omega
          subst hje
          have hE' : EB wL w.heap.size (esOf l n) (esOf l n).length v5 bl lc := by rw [hel]; exact hE
          have hqq := hE'
          obtain ⟨x1, x2, x3, x4, x5⟩ := hqq
          rw [List.take_of_length_le (Nat.le_refl _)] at x4
          have hEW : EAt wL (esOf l n) v5 := ⟨lc, x1, x4.sl, fun j h h' => (x5 j h h').at⟩
          have hqq := x4.form (by omega)
          obtain ⟨o5, cap5, e5, _, _, _⟩ := hqq
          subst e5
          have hsh : ShAt wL (.mk (esOf l n) []) [.slice (some ⟨bl, o5, none⟩) (esOf l n).length cap5, .slice none 0 0] := ShAt.mk (s := .mk (esOf l n) []) (lc := []) hEW (by show (esOf l n).length ≤ _; omega) rfl (fun j h => absurd h (by show ¬ j < 0; omega)) (OwnK.nil (w := wL) (bl := 0) (t := 0) (k := 2)).sl (by show 0 ≤ _; omega)
          have hmay := ok_may (s := .mk (esOf l n) [])
          have hff : (flatS (.mk (esOf l n) [])).length ≤ 1000000 := by rw [flatS_leaf]; omega
          have hnn : nodesS (.mk (esOf l n) []) ≤ 1000000 := by rw [nodesS_eq]; simp [Sh.kids, nodesL]
          refine WC.exit (thenQ.exit (thenQ.exit (inBlockQ.hit (thenQ.normal ?_))))
          refine WC.seq ?_
          have h0' : 0 < l.length := by omega
          have h0e : 0 < (esOf l n).length := by omega
          have hqq := first_en (M := fun b => w.heap.size ≤ b ∧ b ≠ bl) (n := n) x1 h0e x4 (fun h h' => x5 0 h h') (fun h => by rw [esOf_get])
          obtain ⟨ox, capx, b2, o2, cap2, va, vb, rest, e1, e2, e3, e4, e5x, e6, e7, e8⟩ := hqq
          have x4s := x4.sl
          rw [e8, esOf_get h0e] at x4s
          have hblB : w.heap.size ≤ bl := x3.elim (fun h => by cases h) id
          have sL := kL.size
          by_cases hok : OkS (.mk (esOf l n) [])
          · refine WC.seqR rfl ?_
            refine WL.y rfl (Y.move) ?_
            refine WL.y rfl (Y.build (cells := #[.slice (some ⟨bl, o5, none⟩) (esOf l n).length cap5, .slice none 0 0]) (by kernel_rfl) _) ?_
            refine WL.call rfl (C.func go10) (rmayT (rmay_ret _) (hmay.1 hok) _ _ _ hsh (Below.refl _ _) hff hnn) ?_
            rintro _ w43 ⟨rfl, hb43⟩
            refine WL.y rfl (Y.not rfl) ?_
            refine WL.nil ?_
            refine WC.condF (rfl) ?_
            refine WC.skip (thenQ.normal ?_)
            refine WC.seqR rfl ?_
            refine WL.y rfl (Y.move) ?_
            refine WL.call rfl (C.func go16) (leafT (hEW.bel hb43) (by omega) hok) ?_
            rintro _ w48 ⟨⟨nb, rfl, n48⟩, hb48⟩
            have k48 : Below wL.heap.size wL w48 := Below.step hb43 hb48
            refine WL.y rfl (Y.move) ?_
            refine WL.y rfl (Y.extract rfl rfl) ?_
            refine WL.y rfl (Y.extract rfl rfl) ?_
            refine WL.y rfl (Y.assign) ?_
            refine WL.y rfl (Y.assign) ?_
            refine WL.nil ?_
            refine WC.seq ?_
            refine WC.seqR rfl ?_
            refine WL.y rfl (Y.move) ?_
            refine WL.y rfl (Y.dF (Y.nei rfl rfl) (fun h => h rfl)) ?_
            refine WL.y rfl (Y.move) ?_
            refine WL.y rfl (Y.move) ?_
            refine WL.y rfl (Y.bF (Y.eqpn Try.underlying29 rfl rfl) (rfl)) ?_
            refine WL.y rfl (Y.pickF rfl) ?_
            refine WL.nil ?_
            refine WC.condF (rfl) ?_
            refine WC.skip (thenQ.normal ?_)
            refine WC.seqR rfl ?_
            refine WL.y rfl (Y.move) ?_
            refine WL.yex rfl (Y.idx Try.underlying22 ti42 (by decide) (x4s.bel k48) rfl (by omega) (by omega)) ?_
            rintro _ ⟨b58, o58, rfl, hc58⟩
            refine WL.y rfl (Y.fieldAddr fi42f1 ti40 (by decide) rfl (rfl) _) ?_
            refine WL.y rfl (Y.fieldAddr fi40f4 ti37 (by decide) rfl (rfl) _) ?_
            refine WL.y rfl (Y.load1 Try.underlying37 rfl rfl (hc58 5 _ rfl)) ?_
            refine WL.y rfl (Y.move) ?_
            refine WL.y rfl (Y.add rfl rfl) ?_
            refine WL.y rfl (Y.idxV Try.underlying37 ti40 rfl rfl (by omega) (by omega) _) ?_
            refine WL.y rfl (Y.fieldAddr fi40f2 ti2 (by decide) rfl (rfl) _) ?_
            refine WL.eex rfl (E.storeK1 (u := .int .i64 (IntKind.i64.wrap (n + 1))) (i := 2) ti2 rfl rfl rfl (e7.bel k48) (by omega) rfl) ?_
            rintro _ w13 ⟨-, hg13⟩
            refine WL.nil ?_
            refine WC.seqR rfl ?_
            refine WL.y rfl (Y.move) ?_
            refine WL.y rfl (Y.idxV Try.underlying22 ti42 rfl rfl (by omega) (by omega) _) ?_
            refine WL.y rfl (Y.fieldAddr fi42f0 ti9 (by decide) rfl (rfl) _) ?_
            refine WL.eex rfl (E.storeK1 (u := strv [111, 116, 104, 101, 114]) (i := 0) ti9 rfl rfl rfl ((x4.bel k48).kept (Kept.of_grown (M := fun x => x = b2) hg13 rfl) (fun e => e6 e.symm)) (by omega) rfl) ?_
            rintro _ w14 ⟨-, hg14⟩
            refine WL.nil ?_
            have s43 := hb43.size
            have s48 := hb48.size
            have s13 := hg13.size
            have s14 := hg14.size
            have n13 := NdR.kept (Kept.of_grown (M := fun x => x = b2) hg13 rfl) (fun b h e => by omega) n48
            have n14x := NdR.kept (Kept.of_grown (M := fun x => x = bl) hg14 rfl) (fun b h e => by omega) n13
            have n14 := n14x.mono (M' := fun b => b < w14.heap.size) (fun b hb _ => hb)
            have k14 : Below w.heap.size w w14 := Below.stepG (Below.stepG (Below.step kL k48) hg13 e4.1) hg14 hblB
            refine WC.seqR rfl ?_
            refine WL.y rfl (Y.move) ?_
            refine WL.call rfl (C.func go17) (nentries_ret n14) ?_
            rintro v70 w70 ⟨h70, hb70⟩
            refine WL.y rfl (Y.assign) ?_
            refine WL.nil ?_
            refine WC.seqR rfl ?_
            refine WL.y rfl (Y.move) ?_
            refine WL.call rfl (C.func go18) (nentry_in (n14.bel hb70) 0 h0e) ?_
            rintro _ w73 ⟨c73, rfl, h73, hb73⟩
            have hqq := ls_inv (n := n) (Eq.mp (congrArg (fun v => VW w73 (fun b => w70.heap.size ≤ b) v c73) (congrArg Prod.snd (esOf_get h0e))) h73)
            obtain ⟨lv, ov, va3, vb3, b3, o3, cap3, rfl, rfl, hM3, l3, hO3⟩ := hqq
            refine WL.y rfl (Y.move) ?_
            refine WL.y rfl (Y.extract rfl rfl) ?_
            refine WL.y rfl (Y.extract rfl rfl) ?_
            refine WL.eex rfl (E.allocX ti42) ?_
            rintro _ w10 ⟨rfl, hB10, hb10⟩
            refine WL.eex rfl (E.storeAllK (us := strv (Sh.mk (esOf l n) []).es[0].1 :: vcell (lsV n) (.slice (some ⟨b3, o3, none⟩) 1 cap3) ov) ti42 rfl rfl rfl (one_strv (by have := h73.one; exact this)) hB10 rfl) ?_
            rintro _ w16 ⟨hB10', hg16⟩
            have s70 := hb70.size
            have s73 := hb73.size
            have s10 := hb10.size
            have s16 := hg16.size
            have n16 := ((((n14.bel hb70).bel hb73).bel hb10)).kept (Kept.of_grown (M := fun x => x = w73.heap.size) hg16 rfl) (fun b h e => by omega)
            refine WL.y rfl (Y.assign) ?_
            refine WL.nil ?_
            refine WC.seqR rfl ?_
            refine WL.y rfl (Y.move) ?_
            refine WL.call rfl (C.func go19) (nshape_ret _ _ _ _ n16) ?_
            rintro _ w77 ⟨c77, rfl, h77, hb77⟩
            have hqq := h77.two
            obtain ⟨z0, z1, rfl⟩ := hqq
            refine WL.eex rfl (E.allocX ti25) ?_
            rintro _ w12 ⟨rfl, hB12, hb12⟩
            refine WL.eex rfl (E.storeAllK (us := [z0, z1]) ti25 rfl rfl rfl h77.one hB12 rfl) ?_
            rintro _ w17 ⟨hB12', hg17⟩
            have s77 := hb77.size
            have s12 := hb12.size
            have s17 := hg17.size
            have hqq := EW.first h70 h0'
            obtain ⟨y2, yo, yc, ya, yb, yr, hY, hMy, hly, hOy⟩ := hqq
            have hqq := EW.first (shw_ent h77) h0'
            obtain ⟨q2, qo, qc, qa, qb, qr, hQ, hMq, hlq, hOq⟩ := hqq
            have kB : Below w70.heap.size w70 w16 := Below.stepG (Below.step hb73 hb10) hg16 (by omega)
            have kC : Below w77.heap.size w77 w17 := Below.stepG hb12 hg17 (Nat.le_refl _)
            have kD : Below w70.heap.size w70 w17 := Below.step (Below.step kB hb77) kC
            have hs17 := hs.bel (Below.step (Below.step k14 hb70) kD)
            refine WL.nil ?_
            refine WC.seq ?_
            refine WC.seqR rfl ?_
            refine WL.y rfl (Y.move) ?_
            refine WL.y rfl (Y.lenSl Try.underlying22 (hY) _) ?_
            refine WL.y rfl (Y.move) ?_
            refine WL.y rfl (Y.lenSl Try.underlying35 (hs) _) ?_
            refine WL.y rfl (Y.dF (Y.nei rfl rfl) (by omega)) ?_
            refine WL.y rfl (Y.move) ?_
            refine WL.y rfl (Y.move) ?_
            refine WL.y rfl (Y.bF (Y.not rfl) (rfl)) ?_
            refine WL.y rfl (Y.pickF rfl) ?_
            refine WL.y rfl (Y.move) ?_
            refine WL.y rfl (Y.fieldAddr fi25f0 ti22 (by decide) rfl (rfl) _) ?_
            refine WL.y rfl (Y.load1 Try.underlying22 rfl rfl (hB12'.cell 0)) ?_
            refine WL.y rfl (Y.lenSl Try.underlying22 (hQ) _) ?_
            refine WL.y rfl (Y.move) ?_
            refine WL.y rfl (Y.lenSl Try.underlying35 (hs) _) ?_
            refine WL.y rfl (Y.dF (Y.nei rfl rfl) (by omega)) ?_
            refine WL.y rfl (Y.pickF rfl) ?_
            refine WL.nil ?_
            refine WC.condF (rfl) ?_
            refine WC.skip (thenQ.normal ?_)
            refine WC.seqR rfl ?_
            refine WL.y rfl (Y.move) ?_
            refine WL.yex rfl (Y.idx Try.underlying22 ti42 (by decide) (hY.bel kD) rfl (by omega) (by omega)) ?_
            rintro _ ⟨b96, o96, rfl, hc96⟩
            refine WL.y rfl (Y.fieldAddr fi42f1 ti40 (by decide) rfl (rfl) _) ?_
            refine WL.y rfl (Y.fieldAddr fi40f4 ti37 (by decide) rfl (rfl) _) ?_
            refine WL.y rfl (Y.load1 Try.underlying37 rfl rfl (hc96 5 _ rfl)) ?_
            refine WL.y rfl (Y.move) ?_
            refine WL.y rfl (Y.add rfl rfl) ?_
            refine WL.y rfl (Y.idxV Try.underlying37 ti40 rfl rfl (by omega) (by omega) _) ?_
            refine WL.y rfl (Y.fieldAddr fi40f2 ti2 (by decide) rfl (rfl) _) ?_
            refine WL.eex rfl (E.storeK1 (u := .int .i64 (IntKind.i64.wrap (n + 2))) (i := 2) ti2 rfl rfl rfl (hOy.bel kD) (by omega) rfl) ?_
            rintro _ w20 ⟨-, hg20⟩
            have s20 := hg20.size
            have hB10a := ((((show Blk w16 w73.heap.size _ _ from hB10').bel hb77).bel kC).grown hg20 (by omega))
            refine WL.nil ?_
            refine WC.seqR rfl ?_
            refine WL.y rfl (Y.fieldAddr fi42f1 ti40 (by decide) rfl (rfl) _) ?_
            refine WL.y rfl (Y.fieldAddr fi40f4 ti37 (by decide) rfl (rfl) _) ?_
            refine WL.y rfl (Y.load1 Try.underlying37 rfl rfl (hB10a.cell 5)) ?_
            refine WL.y rfl (Y.move) ?_
            refine WL.y rfl (Y.add rfl rfl) ?_
            refine WL.y rfl (Y.idxV Try.underlying37 ti40 rfl rfl (by omega) (by omega) _) ?_
            refine WL.y rfl (Y.fieldAddr fi40f2 ti2 (by decide) rfl (rfl) _) ?_
            refine WL.eex rfl (E.storeK1 (u := .int .i64 (IntKind.i64.wrap (n + 3))) (i := 2) ti2 rfl rfl rfl (((((hO3.bel hb10).kept (Kept.of_grown (M := fun x => x = w73.heap.size) hg16 rfl) (by omega)).bel hb77).bel kC).kept (Kept.of_grown (M := fun x => x = y2) hg20 rfl) (by omega)) (by omega) rfl) ?_
            rintro _ w21 ⟨-, hg21⟩
            have s21 := hg21.size
            have hB12a := ((show Blk w17 w77.heap.size _ _ from hB12').grown hg20 (by omega)).grown hg21 (by omega)
            have kE : Kept (fun x => x = y2 ∨ x = b3) w17 w21 := (Kept.of_grown (M := fun x => x = y2 ∨ x = b3) hg20 (.inl rfl)).trans (Kept.of_grown hg21 (.inr rfl))
            have hE21 := EW.kept kE (M := fun b => w16.heap.size ≤ b) (fun b h e => by omega) ((shw_ent h77).bel kC)
            have hqq := EW.first hE21 h0'
            obtain ⟨q3, qo3, qc3, qa3, qb3, qr3, hQx, hMq3, hlq3, hOq3⟩ := hqq
            refine WL.nil ?_
            refine WC.seqR rfl ?_
            refine WL.y rfl (Y.fieldAddr fi25f0 ti22 (by decide) rfl (rfl) _) ?_
            refine WL.y rfl (Y.load1 Try.underlying22 rfl rfl (hB12a.cell 0)) ?_
            refine WL.yex rfl (Y.idx Try.underlying22 ti42 (by decide) (hQx) rfl (by omega) (by omega)) ?_
            rintro _ ⟨b113, o113, rfl, hc113⟩
            refine WL.y rfl (Y.fieldAddr fi42f1 ti40 (by decide) rfl (rfl) _) ?_
            refine WL.y rfl (Y.fieldAddr fi40f4 ti37 (by decide) rfl (rfl) _) ?_
            refine WL.y rfl (Y.load1 Try.underlying37 rfl rfl (hc113 5 _ rfl)) ?_
            refine WL.y rfl (Y.move) ?_
            refine WL.y rfl (Y.add rfl rfl) ?_
            refine WL.y rfl (Y.idxV Try.underlying37 ti40 rfl rfl (by omega) (by omega) _) ?_
            refine WL.y rfl (Y.fieldAddr fi40f2 ti2 (by decide) rfl (rfl) _) ?_
            refine WL.eex rfl (E.storeK1 (u := .int .i64 (IntKind.i64.wrap (n + 4))) (i := 2) ti2 rfl rfl rfl hOq3 (by omega) rfl) ?_
            rintro _ w22 ⟨-, hg22⟩
            have s22 := hg22.size
            have kF : Kept (fun x => x = y2 ∨ x = b3 ∨ x = q3) w17 w22 := (kE.mono (fun b h _ => h.elim .inl (fun h => .inr (.inl h)))).trans (Kept.of_grown hg22 (.inr (.inr rfl)))
            have n22 := NdR.kept kF (fun b h e => by omega) ((n16.bel hb77).bel kC)
            refine WL.nil ?_
            refine WC.seqR rfl ?_
            refine WL.y rfl (Y.move) ?_
            refine WL.call rfl (C.func go17) (nentries_ret n22) ?_
            rintro v122 w122 ⟨h122, hb122⟩
            refine WL.y rfl (Y.assign) ?_
            refine WL.nil ?_
            have hqq := EW.first h122 h0'
            obtain ⟨t2, to, tc, ta, tb, tr, hT, hMt, hlt, hOt⟩ := hqq
            have s122 := hb122.size
            have hMy' : w14.heap.size ≤ y2 := hMy
            have hM3' : w70.heap.size ≤ b3 := hM3
            have hMq' : w16.heap.size ≤ q3 := hMq3
            have kG : Below w.heap.size w w122 := Below.step ((Below.step (Below.step k14 hb70) kD).trans (kF.below (B := w.heap.size) (fun b h => by rcases h with rfl | rfl | rfl <;> omega) (by have := k14.size; omega))) hb122
            have hs122 := hs.bel kG
            refine WC.seq ?_
            refine WC.regionB (fun i => Nat.beq i 21) [(0, .any), (1, .any), (2, .any), (3, .held), (4, .any), (5, .any), (6, .held), (7, .any), (8, .any), (9, .any), (10, .any), (11, .any), (12, .any), (13, .held), (14, .any), (15, .any), (16, .held), (17, .any), (18, .any), (19, .any), (20, .any), (21, .seq), (22, .any), (23, .any)] mixed (by kernel_rfl) (fun w24x hS24 hheap => ?_)
            refine RL.any rfl rfl (fun _ => Y.move) ?_
            refine RL.yex rfl rfl (Y.idx Try.underlying22 ti42 (by decide) (hT) rfl (by omega) (by omega)) ?_
            rintro _ ⟨b124, o124, rfl, hc124⟩
            refine RL.any rfl rfl (fun _ => Y.fieldAddr fi42f0 ti9 (by decide) rfl (rfl) _) ?_
            refine RL.held rfl rfl hS24 (fun _ hb9 => Y.load1 Try.underlying9 rfl rfl (cell_bel (hc124 0 _ rfl) hb9)) ?_
            refine RL.any rfl rfl (fun _ => Y.move) ?_
            refine RL.yex rfl rfl (Y.idx Try.underlying35 ti9 (by decide) (hs122) rfl (by omega) (by omega)) ?_
            rintro _ ⟨b128, o128, rfl, hc128⟩
            refine RL.held rfl rfl hS24 (fun _ hb9 => Y.load1 Try.underlying9 rfl rfl (cell_bel (elem1 (str_at h0') hc128) hb9)) ?_
            refine RL.any rfl rfl (fun _ => Y.bT (Y.eqS rfl rfl) (decide_eq_true rfl)) ?_
            refine RL.any rfl rfl (fun _ => Y.move) ?_
            refine RL.any rfl rfl (fun _ => Y.move) ?_
            refine RL.yex rfl rfl (Y.idx Try.underlying22 ti42 (by decide) (hT) rfl (by omega) (by omega)) ?_
            rintro _ ⟨b133, o133, rfl, hc133⟩
            refine RL.any rfl rfl (fun _ => Y.fieldAddr fi42f1 ti40 (by decide) rfl (rfl) _) ?_
            refine RL.any rfl rfl (fun _ => Y.fieldAddr fi40f4 ti37 (by decide) rfl (rfl) _) ?_
            refine RL.held rfl rfl hS24 (fun _ hb9 => Y.load1 Try.underlying37 rfl rfl (cell_bel (hc133 5 _ rfl) hb9)) ?_
            refine RL.any rfl rfl (fun _ => Y.idxV Try.underlying37 ti40 rfl rfl (by omega) (by omega) _) ?_
            refine RL.any rfl rfl (fun _ => Y.fieldAddr fi40f2 ti2 (by decide) rfl (rfl) _) ?_
            refine RL.held rfl rfl hS24 (fun _ hb9 => Y.load1 Try.underlying2 rfl rfl (cell_bel (hOt.cells 2 _ rfl) hb9)) ?_
            refine RL.any rfl rfl (fun _ => Y.move) ?_
            refine RL.any rfl rfl (fun _ => Y.dT (Y.eqi rfl rfl) (rfl)) ?_
            refine RL.any rfl rfl (fun _ => Y.pickT rfl) ?_
            refine RL.any rfl rfl (fun _ => Y.move) ?_
            refine RL.call rfl rfl (C.func go11) (known_ret _) ?_
            rintro _ w144 ⟨rfl, hb144⟩
            refine ⟨.inl rfl, ?_⟩
            refine RL.any rfl rfl (fun _ => Y.pickT rfl) ?_
            refine RL.any rfl rfl (fun _ => Y.assign) ?_
            refine RL.nil (thenQ.normal ?_)
            refine WC.ret (endQ.one (.inr rfl) ?_)
            exact ⟨rfl, Below.step (Below.step kG hS24) hb144⟩
          · skip
            skip
            refine WC.seqR rfl ?_
            refine WL.y rfl (Y.move) ?_
            refine WL.y rfl (Y.build (cells := #[.slice (some ⟨bl, o5, none⟩) (esOf l n).length cap5, .slice none 0 0]) (by kernel_rfl) _) ?_
            refine WL.call rfl (C.func go10) (rmayF (rmay_ret _) (fun h => hok (hmay.2 h)) _ _ _ hsh (Below.refl _ _) hff hnn) ?_
            rintro _ w43 ⟨rfl, hb43⟩
            refine WL.y rfl (Y.not rfl) ?_
            refine WL.nil ?_
            refine WC.condT (rfl) ?_
            refine WC.seqR rfl ?_
            refine WL.call rfl (C.func go11) (known_ret _) ?_
            rintro _ w45 ⟨rfl, hb45⟩
            refine WL.y rfl (Y.assign) ?_
            refine WL.nil ?_
            refine WC.ret (thenQ.ret (endQ.one (.inr rfl) ?_))
            exact ⟨rfl, Below.step (Below.step kL hb43) hb45⟩
end Go.Proofs.Ytpefeefmdlfafaa
