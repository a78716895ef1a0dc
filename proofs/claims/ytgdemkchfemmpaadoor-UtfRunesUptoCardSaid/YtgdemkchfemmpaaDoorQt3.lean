/-
  utf: the runes of a text, as the iterator tells them.
-/
import Derived.Test.YtgdemkchfemmpaaDoorBd0
import Derived.Test.YtgdemkchfemmpaaDoorUtf1
import Derived.Test.YtgdemkchfemmpaaDoorBase16
import Derived.Lib.MapLaws
namespace Go.Proofs.YtgdemkchfemmpaaDoor
open Go Go.RowKit Go.Cx
set_option linter.unusedVariables false
set_option maxHeartbeats 4000000
/-- unicode/utf8's tables hold what they are laid to hold -/
def Tabs (w : World) : Prop := Go.Lib.Utf8Tabs (Tryd.laysValid_ren.g 3) (Tryd.laysValid_ren.g 4) w
theorem Tabs.bel {w w' : World} (h : Tabs w) (hb : Below w.heap.size w w') : Tabs w' := Utf8Tabs_below h hb
def okR (r : Nat) : Prop := r ≤ 1114111 ∧ (r < 55296 ∨ 57344 ≤ r)
theorem atL_shape (l : List UInt8) (h : (atL l).2 ≠ 0) : okR (atL l).1 ∧ (atL l).2 ≤ 4 ∧ Lib.encodeRune ((atL l).1 : Int) = l.take (atL l).2 ∧ Lib.runeLen ((atL l).1 : Int) = ((atL l).2 : Int) ∧ atL l = Lib.decodeL l := by
  by_cases hb : l = [] ∨ ((Lib.decodeL l).1 = 65533 ∧ (Lib.decodeL l).2 = 1)
  · exfalso; apply h; unfold atL; rw [if_pos hb]
  · have e : atL l = Lib.decodeL l := by unfold atL; exact if_neg hb
    have hne : l ≠ [] := fun e => hb (.inl e)
    have hv : ¬ ((Lib.decodeL l).1 = 65533 ∧ (Lib.decodeL l).2 = 1) := fun e => hb (.inr e)
    have h1 := Lib.encode_decode l hne hv
    have h2 : okR (Lib.decodeL l).1 ∧ (Lib.decodeL l).2 ≤ 4 ∧ ((Lib.decodeL l).1 = 65533 → (Lib.decodeL l).2 = 3) := by
      rw [Lib.decodeL_N] at hv ⊢
      have k0 := (l.getD 0 0).toNat_lt
      have k1 := (l.getD 1 0).toNat_lt
      have k2 := (l.getD 2 0).toNat_lt
      have k3 := (l.getD 3 0).toNat_lt
      unfold okR
      rcases Lib.decodeN_shape l.length (l.getD 0 0).toNat (l.getD 1 0).toNat (l.getD 2 0).toNat (l.getD 3 0).toNat with ⟨c, e⟩ | ⟨c1, c2, c3, cv, e⟩ | ⟨c1, c2, c3, c4, cv, cs, e⟩ | ⟨c1, c2, c3, c4, c5, cv, cw, e⟩ | e
      all_goals rw [e] at hv ⊢
      all_goals dsimp only at hv ⊢
      all_goals omega
    refine ⟨by rw [e]; exact h2.1, by rw [e]; exact h2.2.1, by rw [e]; exact h1, ?_, e⟩
    rw [e]
    by_cases h3 : (Lib.decodeL l).1 = 65533
    · rw [h2.2.2 h3, h3]; decide
    · exact Lib.runeLen_decode l h3
theorem atL_le4 (l : List UInt8) : (atL l).2 ≤ 4 := by
  by_cases h : (atL l).2 = 0
  · omega
  · exact (atL_shape l h).2.1
theorem dec_bad (l : List UInt8) (h0 : l ≠ []) (h : (atL l).2 = 0) : Lib.decodeL l = (65533, 1) := by
  by_cases hb : l = [] ∨ ((Lib.decodeL l).1 = 65533 ∧ (Lib.decodeL l).2 = 1)
  · rcases hb with hb | hb
    · exact absurd hb h0
    · exact Prod.ext hb.1 hb.2
  · have e : atL l = Lib.decodeL l := by unfold atL; exact if_neg hb
    have := Lib.decodeL_width l
    rw [e] at h
    omega
/-- the runes of a text from an offset on, up to the first byte at which none begins, and their places -/
def rns (l : List UInt8) (i : Nat) : List (Nat × Nat) :=
  if h : (atL l).2 = 0 then [] else (i, (atL l).1) :: rns (l.drop (atL l).2) (i + (atL l).2)
termination_by l.length
decreasing_by (have := atL_le l; rw [List.length_drop]; omega)
theorem rns_stop {l : List UInt8} (i : Nat) (h : (atL l).2 = 0) : rns l i = [] := by rw [rns, dif_pos h]
theorem rns_go {l : List UInt8} (i : Nat) (h : (atL l).2 ≠ 0) : rns l i = (i, (atL l).1) :: rns (l.drop (atL l).2) (i + (atL l).2) := by rw [rns, dif_neg h]
theorem rns_ok (l : List UInt8) : ∀ i, ∀ p ∈ rns l i, i ≤ p.1 ∧ p.1 < i + l.length ∧ okR p.2 := by
  induction hn : l.length using Nat.strongRecOn generalizing l with
  | _ n ih =>
    intro i p hp
    by_cases h : (atL l).2 = 0
    · rw [rns_stop i h] at hp; cases hp
    · have hle := atL_le l
      rw [rns_go i h] at hp
      rcases List.mem_cons.1 hp with rfl | hp
      · exact ⟨Nat.le_refl _, by show i < i + n; omega, (atL_shape l h).1⟩
      · have := ih (l.drop (atL l).2).length (by rw [List.length_drop]; omega) _ rfl _ p hp
        rw [List.length_drop] at this
        exact ⟨by omega, by omega, this.2.2⟩
theorem rns_len (l : List UInt8) : ∀ i, (rns l i).length ≤ l.length := by
  induction hn : l.length using Nat.strongRecOn generalizing l with
  | _ n ih =>
    intro i
    by_cases h : (atL l).2 = 0
    · rw [rns_stop i h]; exact Nat.zero_le _
    · have hle := atL_le l
      rw [rns_go i h]
      have := ih (l.drop (atL l).2).length (by rw [List.length_drop]; omega) _ rfl (i + (atL l).2)
      rw [List.length_drop] at this
      rw [List.length_cons]
      omega
/-- a rune, kept to what runes are -/
def cR (r : Nat) : Nat := if r ≤ 1114111 ∧ (r < 55296 ∨ 57344 ≤ r) then r else 0
theorem cR_ok (r : Nat) : okR (cR r) := by unfold cR okR; split <;> omega
theorem cR_id {r : Nat} (h : okR r) : cR r = r := if_pos h
def cA (a : Nat) : Nat := min a 2305843009213693952
def encR (p : Nat × Nat) : List Value := [.int .i64 (cA p.1 : Int), .int .i32 (cR p.2 : Int)]
theorem runesI_ret (w : World) (s : List UInt8) : Ret Tryd.prog 19 [strv s].toArray w fun v w' => v = .func (.func 35) #[] #[.pointer (some ⟨w.heap.size, 0, none⟩)] ∧ Blk w' w.heap.size 9 [strv s] ∧ Below w.heap.size w w' := by
  refine Ret.of (n := 4) (rs := #[.tmp 2]) Tryd.func19 rfl rfl rfl (by simp) ?_
  refine WC.seqR rfl ?_
  refine WL.eex rfl (E.boxX) ?_
  rintro _ w1 ⟨rfl, hB1, hb1⟩
  refine WL.y rfl (Y.assign) ?_
  refine WL.nil ?_
  refine WC.seqR rfl ?_
  refine WL.y rfl (Y.makeFunc) ?_
  refine WL.y rfl (Y.assign) ?_
  refine WL.nil ?_
  refine WC.ret (endQ.one (.inr rfl) ?_)
  exact ⟨rfl, hB1, hb1⟩
/-- what must be kept while the runes are gone through -/
def KpR (w0 : World) (bx : Nat) (s : List UInt8) (W W' : World) : Prop := Below w0.heap.size W W' ∧ (Blk W bx 9 [strv s] → Blk W' bx 9 [strv s])
theorem KpR.trans {w0 A B C : World} {bx : Nat} {s : List UInt8} (h : KpR w0 bx s A B) (k : KpR w0 bx s B C) : KpR w0 bx s A C := ⟨h.1.trans k.1, fun x => k.2 (h.2 x)⟩
theorem dec_ret (w : World) (s : List UInt8) (hT : Tabs w) (h0 : s ≠ []) : Ret Tryd.prog 36 [strv s].toArray w fun v w' => v = .tuple #[.int .i32 ((Lib.decodeL s).1 : Int), .int .i64 ((Lib.decodeL s).2 : Int)] ∧ Below w.heap.size w w' := by
  have e : Lib.decodeGo ⟨s.toArray⟩ = Lib.decodeL s := by
    unfold Lib.decodeGo Lib.decodeL
    have : 0 < s.length := List.length_pos_iff.2 h0
    rw [if_neg (by rw [ba_size]; omega)]
  refine Calls.mono (Any.utf8_DecodeRuneInString Tryd.laysDec ⟨s.toArray⟩ w hT) ?_
  rintro x w' ⟨rfl, hb⟩
  rw [e]
  exact ⟨_, rfl, rfl, hb⟩
theorem dec_good (w : World) (s : List UInt8) (hT : Tabs w) (h0 : s ≠ []) (h : (atL s).2 ≠ 0) : Ret Tryd.prog 36 [strv s].toArray w fun v w' => v = .tuple #[.int .i32 ((atL s).1 : Int), .int .i64 ((atL s).2 : Int)] ∧ Below w.heap.size w w' := by
  rw [(atL_shape s h).2.2.2.2]
  exact dec_ret w s hT h0
theorem dec_badR (w : World) (s : List UInt8) (hT : Tabs w) (h0 : s ≠ []) (h : (atL s).2 = 0) : Ret Tryd.prog 36 [strv s].toArray w fun v w' => v = .tuple #[.int .i32 65533, .int .i64 1] ∧ Below w.heap.size w w' := by
  have := dec_ret w s hT h0
  rw [dec_bad s h0 h] at this
  exact this
theorem runes_seq (bx : Nat) (s : List UInt8) (w0 w : World) (hT : Tabs w0) (hb0 : Below w0.heap.size w0 w) (hB : Blk w bx 9 [strv s]) (hs : s.length ≤ 1152921504606846976) :
    SeqN Tryd.prog 35 [.pointer (some ⟨bx, 0, none⟩)] encR (KpR w0 bx s) (fun xs => xs = rns s 0) (fun pre => ∃ r, rns s 0 = pre ++ r) (rns s 0).length w := by
  intro ll J Jx W hb' hJ hJx hy h0
  have hBW : Blk W bx 9 [strv s] := hB.bel hb'
  have hbW : Below w0.heap.size w0 W := Below.step hb0 hb'
  refine Ret.of (n := 31) (rs := #[]) Tryd.func35 rfl rfl rfl (by simp) ?_
  refine WC.seqR rfl ?_
  refine WL.y rfl (Y.assign) ?_
  refine WL.nil ?_
  refine WC.block ?_
  refine WC.loop (fun i => s.length - i) (fun i f ds w' => i ≤ s.length ∧ ds = [] ∧ Below w0.heap.size w0 w' ∧ Blk w' bx 9 [strv s] ∧ W.heap.size ≤ w'.heap.size ∧ (∃ pre, rns s 0 = pre ++ rns (s.drop i) i ∧ J pre w') ∧ ∃ J, f = ov J [(0, .func (.yield ll) #[] #[]), (1, .pointer (some ⟨bx, 0, none⟩)), (3, .int .i64 (i : Int))]) 0 ?_ ?_
  · exact ⟨by omega, rfl, hbW, hBW, Nat.le_refl _, ⟨[], rfl, h0⟩, _, ov_mk ⟨rfl, rfl, rfl, trivial⟩⟩
  · rintro i _ _ w1 ⟨hi, rfl, hb1, hB1, hsz, ⟨pre, hpre, hj⟩, J', rfl⟩
    refine WC.seq ?_
    refine WC.seqR rfl ?_
    refine WL.y rfl (Y.move) ?_
    refine WL.y rfl (Y.load1 Tryd.underlying9 rfl rfl (hB1.one)) ?_
    refine WL.y rfl (Y.lenS Tryd.underlying9 rfl _) ?_
    refine WL.y rfl (Y.lss rfl rfl) ?_
    refine WL.nil ?_
    refine WC.condD rfl (fun hc => ?_) (fun hc => ?_)
    · have hil : i < s.length := by omega
      have hne : s.drop i ≠ [] := by
        intro e
        have := List.drop_eq_nil_iff.mp e
        omega
      have hdl : (s.drop i).length = s.length - i := List.length_drop
      have hle := atL_le (s.drop i)
      by_cases hz : (atL (s.drop i)).2 = 0
      · rw [rns_stop i hz, List.append_nil] at hpre
        refine WC.skip (thenQ.normal ?_)
        refine WC.block ?_
        refine WC.seqR rfl ?_
        refine WL.y rfl (Y.load1 Tryd.underlying9 rfl rfl (hB1.one)) ?_
        refine WL.y rfl (Y.move) ?_
        refine WL.y rfl (Y.sliceFromN _ Tryd.underlying9 rfl rfl rfl (by omega) _) ?_
        refine WL.call rfl (C.func go36) (dec_badR _ (s.drop i) (hT.bel hb1) hne hz) ?_
        rintro _ w2 ⟨rfl, hb2⟩
        refine WL.y rfl (Y.move) ?_
        refine WL.y rfl (Y.extract rfl rfl) ?_
        refine WL.y rfl (Y.extract rfl rfl) ?_
        refine WL.y rfl (Y.assign) ?_
        refine WL.y rfl (Y.assign) ?_
        refine WL.nil ?_
        refine WC.seq ?_
        refine WC.seqR rfl ?_
        refine WL.y rfl (Y.move) ?_
        refine WL.y rfl (Y.dT (Y.eqi rfl rfl) (by omega)) ?_
        refine WL.y rfl (Y.move) ?_
        refine WL.y rfl (Y.move) ?_
        refine WL.y rfl (Y.dT (Y.eqi rfl rfl) (by omega)) ?_
        refine WL.y rfl (Y.pickT rfl) ?_
        refine WL.nil ?_
        refine WC.condT (rfl) ?_
        refine WC.ret (thenQ.ret (inBlockQ.ret (thenQ.ret (inBlockQ.ret (endQ.zero (.inr rfl) ?_)))))
        exact .inl ⟨pre, hpre.symm, hJ _ _ _ hj (grownBy_of_below hb2)⟩
      · have hsh := atL_shape _ hz
        have hg := rns_go i hz
        rw [hg] at hpre
        have hpre2 : rns s 0 = (pre ++ [(i, (atL (s.drop i)).1)]) ++ rns ((s.drop i).drop (atL (s.drop i)).2) (i + (atL (s.drop i)).2) := by rw [hpre, List.append_assoc]; rfl
        have hpre3 := hpre2
        rw [List.drop_drop] at hpre3
        have hr1 := hsh.1.1
        have hw4 := hsh.2.1
        have h21 : (atL (s.drop i)).1 = 65533 → (atL (s.drop i)).2 ≠ 1 := by
          intro e e2
          have := hsh.2.2.2.1
          rw [e, e2] at this
          exact absurd this (by decide)
        have hyy : ∀ W1, J pre W1 → Yields1 Fence.wide Tryd.prog ll [.int .i64 (i : Int), .int .i32 ((atL (s.drop i)).1 : Int)] W1 fun b W' => (b = true ∧ J (pre ++ [(i, (atL (s.drop i)).1)]) W' ∧ KpR w0 bx s W1 W') ∨ (b = false ∧ Jx (pre ++ [(i, (atL (s.drop i)).1)]) W') := by
          intro W1 hj1
          have := hy pre (i, (atL (s.drop i)).1) W1 hj1 (by rw [hpre]; simp)
          have e : encR (i, (atL (s.drop i)).1) = [.int .i64 (i : Int), .int .i32 ((atL (s.drop i)).1 : Int)] := by
            unfold encR
            rw [cR_id hsh.1]
            unfold cA
            rw [Nat.min_eq_left (by show i ≤ _; omega)]
          rwa [e] at this
        by_cases hq : (atL (s.drop i)).1 = 65533
        · have hq2 := h21 hq
          refine WC.skip (thenQ.normal ?_)
          refine WC.block ?_
          refine WC.seqR rfl ?_
          refine WL.y rfl (Y.load1 Tryd.underlying9 rfl rfl (hB1.one)) ?_
          refine WL.y rfl (Y.move) ?_
          refine WL.y rfl (Y.sliceFromN _ Tryd.underlying9 rfl rfl rfl (by omega) _) ?_
          refine WL.call rfl (C.func go36) (dec_good _ (s.drop i) (hT.bel hb1) hne hz) ?_
          rintro _ w2 ⟨rfl, hb2⟩
          refine WL.y rfl (Y.move) ?_
          refine WL.y rfl (Y.extract rfl rfl) ?_
          refine WL.y rfl (Y.extract rfl rfl) ?_
          refine WL.y rfl (Y.assign) ?_
          refine WL.y rfl (Y.assign) ?_
          refine WL.nil ?_
          refine WC.seq ?_
          refine WC.seqR rfl ?_
          refine WL.y rfl (Y.move) ?_
          refine WL.y rfl (Y.dT (Y.eqi rfl rfl) (by omega)) ?_
          refine WL.y rfl (Y.move) ?_
          refine WL.y rfl (Y.move) ?_
          refine WL.y rfl (Y.dF (Y.eqi rfl rfl) (by omega)) ?_
          refine WL.y rfl (Y.pickT rfl) ?_
          refine WL.nil ?_
          refine WC.condF (rfl) ?_
          refine WC.skip (thenQ.normal ?_)
          refine WC.seq ?_
          refine WC.seqR rfl ?_
          refine WL.y rfl (Y.move) ?_
          refine WL.y rfl (Y.move) ?_
          refine WL.y rfl (Y.move) ?_
          refine WL.yield rfl rfl (hyy w2 (hJ _ _ _ hj (grownBy_of_below hb2))) ?_
          rintro b w3 hR
          refine WL.y rfl (Y.not rfl) ?_
          refine WL.nil ?_
          refine WC.cond rfl (fun hbb => ?_) (fun hbb => ?_)
          · refine WC.ret (thenQ.ret (inBlockQ.ret (thenQ.ret (inBlockQ.ret (endQ.zero (.inr rfl) ?_)))))
            rcases hR with ⟨rfl, _⟩ | ⟨rfl, hjx⟩
            · cases hbb
            · exact .inr ⟨_, ⟨_, hpre2⟩, hjx⟩
          · refine WC.skip (thenQ.normal ?_)
            refine WC.region rfl ?_
            refine WL.y rfl (Y.move) ?_
            refine WL.y rfl (Y.move) ?_
            refine WL.y rfl (Y.add64 rfl rfl (by omega)) ?_
            refine WL.y rfl (Y.assign) ?_
            refine WL.nil (inBlockQ.normal (thenQ.normal ?_))
            rcases hR with ⟨rfl, hj2, hk⟩ | ⟨rfl, _⟩
            · have hB2 := hB1.bel hb2
              have h2 := hb2.size
              have h3 := hk.1.size
              have hb3 : Below w0.heap.size w0 w3 := (Below.step hb1 hb2).trans hk.1
              refine ⟨i + (atL (s.drop i)).2, by omega, by omega, rfl, hb3, hk.2 hB2, by omega, ⟨_, hpre3, hj2⟩, _, ov_mk ⟨rfl, rfl, rfl, trivial⟩⟩
            · cases hbb
        · skip
          skip
          refine WC.skip (thenQ.normal ?_)
          refine WC.block ?_
          refine WC.seqR rfl ?_
          refine WL.y rfl (Y.load1 Tryd.underlying9 rfl rfl (hB1.one)) ?_
          refine WL.y rfl (Y.move) ?_
          refine WL.y rfl (Y.sliceFromN _ Tryd.underlying9 rfl rfl rfl (by omega) _) ?_
          refine WL.call rfl (C.func go36) (dec_good _ (s.drop i) (hT.bel hb1) hne hz) ?_
          rintro _ w2 ⟨rfl, hb2⟩
          refine WL.y rfl (Y.move) ?_
          refine WL.y rfl (Y.extract rfl rfl) ?_
          refine WL.y rfl (Y.extract rfl rfl) ?_
          refine WL.y rfl (Y.assign) ?_
          refine WL.y rfl (Y.assign) ?_
          refine WL.nil ?_
          refine WC.seq ?_
          refine WC.seqR rfl ?_
          refine WL.y rfl (Y.move) ?_
          refine WL.y rfl (Y.dF (Y.eqi rfl rfl) (by omega)) ?_
          refine WL.y rfl (Y.move) ?_
          refine WL.off rfl ?_
          refine WL.off rfl ?_
          refine WL.y rfl (Y.pickF rfl) ?_
          refine WL.nil ?_
          refine WC.condF (rfl) ?_
          refine WC.skip (thenQ.normal ?_)
          refine WC.seq ?_
          refine WC.seqR rfl ?_
          refine WL.y rfl (Y.move) ?_
          refine WL.y rfl (Y.move) ?_
          refine WL.y rfl (Y.move) ?_
          refine WL.yield rfl rfl (hyy w2 (hJ _ _ _ hj (grownBy_of_below hb2))) ?_
          rintro b w3 hR
          refine WL.y rfl (Y.not rfl) ?_
          refine WL.nil ?_
          refine WC.cond rfl (fun hbb => ?_) (fun hbb => ?_)
          · refine WC.ret (thenQ.ret (inBlockQ.ret (thenQ.ret (inBlockQ.ret (endQ.zero (.inr rfl) ?_)))))
            rcases hR with ⟨rfl, _⟩ | ⟨rfl, hjx⟩
            · cases hbb
            · exact .inr ⟨_, ⟨_, hpre2⟩, hjx⟩
          · refine WC.skip (thenQ.normal ?_)
            refine WC.region rfl ?_
            refine WL.y rfl (Y.move) ?_
            refine WL.y rfl (Y.move) ?_
            refine WL.y rfl (Y.add64 rfl rfl (by omega)) ?_
            refine WL.y rfl (Y.assign) ?_
            refine WL.nil (inBlockQ.normal (thenQ.normal ?_))
            rcases hR with ⟨rfl, hj2, hk⟩ | ⟨rfl, _⟩
            · have hB2 := hB1.bel hb2
              have h2 := hb2.size
              have h3 := hk.1.size
              have hb3 : Below w0.heap.size w0 w3 := (Below.step hb1 hb2).trans hk.1
              refine ⟨i + (atL (s.drop i)).2, by omega, by omega, rfl, hb3, hk.2 hB2, by omega, ⟨_, hpre3, hj2⟩, _, ov_mk ⟨rfl, rfl, rfl, trivial⟩⟩
            · cases hbb
    · have e : s.drop i = [] := List.drop_eq_nil_of_le (by omega)
      have hz : (atL (s.drop i)).2 = 0 := by rw [e]; rfl
      rw [rns_stop i hz, List.append_nil] at hpre
      refine WC.exit (thenQ.exit (thenQ.exit (inBlockQ.hit (endQ.zero (.inl rfl) ?_))))
      exact .inl ⟨pre, hpre.symm, hj⟩
end Go.Proofs.YtgdemkchfemmpaaDoor
