/-
  law: known rows, and what quotes are read as.
-/
import Derived.Test.YtgdemkchfemmpaaDoorQt9
import Derived.Test.YtgdemkchfemmpaaDoorOpen0
namespace Go.Proofs.YtgdemkchfemmpaaDoor
open Go Go.RowKit Go.Cx
set_option linter.unusedVariables false
set_option maxHeartbeats 4000000
theorem rns_step {l : List UInt8} (i : Nat) {r n : Nat} (h : atL l = (r, n)) (hn : n ≠ 0) : rns l i = (i, r) :: rns (l.drop n) (i + n) := by
  have := rns_go (l := l) i (by rw [h]; exact hn)
  rwa [h] at this
theorem known1 : quoteV [97, 9, 1, 34, 195, 169] = .tuple #[strv [34, 97, 92, 116, 92, 117, 48, 48, 48, 49, 92, 34, 195, 169, 34], .int .i64 0] := by
  have hv : Lib.validD [97, 9, 1, 34, 195, 169] = true := by decide
  have hr : rns [97, 9, 1, 34, 195, 169] 0 = [(0, 97), (1, 9), (2, 1), (3, 34), (4, 233)] :=
    (rns_step (r := 97) (n := 1) 0 (by kernel_rfl) (by decide)).trans (congrArg (List.cons _) ((rns_step (l := [9, 1, 34, 195, 169]) (r := 9) (n := 1) 1 (by kernel_rfl) (by decide)).trans (congrArg (List.cons _) ((rns_step (l := [1, 34, 195, 169]) (r := 1) (n := 1) 2 (by kernel_rfl) (by decide)).trans (congrArg (List.cons _) ((rns_step (l := [34, 195, 169]) (r := 34) (n := 1) 3 (by kernel_rfl) (by decide)).trans (congrArg (List.cons _) ((rns_step (l := [195, 169]) (r := 233) (n := 2) 4 (by kernel_rfl) (by decide)).trans (congrArg (List.cons _) (rns_stop (l := []) 6 rfl))))))))))
  unfold quoteV quoteL
  rw [if_pos hv, hr]
  rfl
theorem known2 : unquoteS [34, 92, 117, 100, 56, 51, 100, 92, 117, 100, 101, 48, 48, 34, 120] 0 = ([240, 159, 152, 128], 14, 0) := by
  have h1 : stepU [92, 117, 100, 56, 51, 100, 92, 117, 100, 101, 48, 48, 34, 120] = .go [240, 159, 152, 128] 12 := by kernel_rfl
  have h2 : stepU [34, 120] = .fin := by kernel_rfl
  have hu : unq [92, 117, 100, 56, 51, 100, 92, 117, 100, 101, 48, 48, 34, 120] = ([240, 159, 152, 128], 13, 0) := (unq_go h1).trans (congrArg (preU _ _) (unq_fin h2))
  have e : unquoteS [34, 92, 117, 100, 56, 51, 100, 92, 117, 100, 101, 48, 48, 34, 120] 0 = ((unq [92, 117, 100, 56, 51, 100, 92, 117, 100, 101, 48, 48, 34, 120]).1, 1 + (unq [92, 117, 100, 56, 51, 100, 92, 117, 100, 101, 48, 48, 34, 120]).2.1, (unq [92, 117, 100, 56, 51, 100, 92, 117, 100, 101, 48, 48, 34, 120]).2.2) := rfl
  rw [e, hu]
  rfl
theorem known3 : unquoteS [34, 92, 117, 100, 56, 51, 100, 120, 34] 0 = ([], 1, 3) := by
  have h1 : stepU [92, 117, 100, 56, 51, 100, 120, 34] = .bad 3 := by kernel_rfl
  have hu := unq_bad h1
  have e : unquoteS [34, 92, 117, 100, 56, 51, 100, 120, 34] 0 = ((unq [92, 117, 100, 56, 51, 100, 120, 34]).1, 1 + (unq [92, 117, 100, 56, 51, 100, 120, 34]).2.1, (unq [92, 117, 100, 56, 51, 100, 120, 34]).2.2) := rfl
  rw [e, hu]
  rfl
theorem known4 : unquoteS [34, 97] 0 = ([], 2, 4) := by
  have h1 : stepU [97] = .go [97] 1 := by kernel_rfl
  have h2 : stepU [] = .bad 4 := rfl
  have hu : unq [97] = ([], 1, 4) := (unq_go h1).trans (congrArg (preU _ _) (unq_bad h2))
  have e : unquoteS [34, 97] 0 = ((unq [97]).1, 1 + (unq [97]).2.1, (unq [97]).2.2) := rfl
  rw [e, hu]
  rfl
theorem known5 : unquoteS [97] 0 = ([], 0, 4) := rfl
theorem quote_eq (w : World) (s : List UInt8) (hT : Tabs w) (hs : s.length ≤ 17592186044416) {v0 : Value} (h : quoteV s = v0) : Ret Tryd.prog 12 [strv s].toArray w fun v w' => v = v0 ∧ Below w.heap.size w w' := by
  subst h
  exact quote_ret w s hT hs
theorem unquote_eq (w : World) (s : List UInt8) (a : Int) (ha : -9223372036854775808 ≤ a ∧ a ≤ 9223372036854775807) (hT : Tabs w) (hs : s.length ≤ 140737488351232) {t : List UInt8} {n c : Nat} (h : unquoteS s a = (t, n, c)) : Ret Tryd.prog 14 [strv s, .int .i64 a].toArray w fun v w' => v = .tuple #[strv t, .int .i64 (n : Int), .int .i64 (c : Int)] ∧ Below w.heap.size w w' :=
  (unquote_ret w s a ha hT hs).mono (by rintro v w' ⟨rfl, hb⟩; rw [h]; exact ⟨rfl, hb⟩)
theorem runquote_eq (w : World) (s : List UInt8) (a : Int) (ha : -9223372036854775808 ≤ a ∧ a ≤ 9223372036854775807) (hs : s.length ≤ 140737488351232) {t : List UInt8} {n c : Nat} (h : unquoteS s a = (t, n, c)) : Ret Tryd.prog 15 [strv s, .int .i64 a].toArray w fun v w' => v = .tuple #[strv t, .int .i64 (n : Int), .int .i64 (c : Int)] ∧ Below w.heap.size w w' :=
  (runquote_ret w s a ha hs).mono (by rintro v w' ⟨rfl, hb⟩; rw [h]; exact ⟨rfl, hb⟩)
theorem known_ret (w : World) (hT : Tabs w) : Ret Tryd.prog 11 [].toArray w fun v w' => v = .bool true ∧ Below w.heap.size w w' := by
  refine Ret.of (n := 81) (rs := #[.tmp 0]) Tryd.func11 rfl rfl rfl (by simp) ?_
  refine WC.seqR rfl ?_
  refine WL.y rfl (Y.assign) ?_
  refine WL.nil ?_
  refine WC.seqR rfl ?_
  refine WL.call rfl (C.func go12) (quote_eq _ [97, 9, 1, 34, 195, 169] hT (by decide) known1) ?_
  rintro _ w16 ⟨rfl, hb16⟩
  have k16 := hb16
  refine WL.y rfl (Y.move) ?_
  refine WL.y rfl (Y.extract rfl rfl) ?_
  refine WL.y rfl (Y.extract rfl rfl) ?_
  refine WL.y rfl (Y.assign) ?_
  refine WL.y rfl (Y.assign) ?_
  refine WL.nil ?_
  refine WC.seqR rfl ?_
  refine WL.call rfl (C.func go14) (unquote_eq _ [34, 92, 117, 100, 56, 51, 100, 92, 117, 100, 101, 48, 48, 34, 120] 0 (by decide) (hT.bel k16) (by decide) known2) ?_
  rintro _ w20 ⟨rfl, hb20⟩
  have k20 := Below.step k16 hb20
  refine WL.y rfl (Y.move) ?_
  refine WL.y rfl (Y.extract rfl rfl) ?_
  refine WL.y rfl (Y.extract rfl rfl) ?_
  refine WL.y rfl (Y.extract rfl rfl) ?_
  refine WL.y rfl (Y.assign) ?_
  refine WL.y rfl (Y.assign) ?_
  refine WL.y rfl (Y.assign) ?_
  refine WL.nil ?_
  refine WC.seqR rfl ?_
  refine WL.call rfl (C.func go14) (unquote_eq _ [34, 92, 117, 100, 56, 51, 100, 120, 34] 0 (by decide) (hT.bel k20) (by decide) known3) ?_
  rintro _ w25 ⟨rfl, hb25⟩
  have k25 := Below.step k20 hb25
  refine WL.y rfl (Y.move) ?_
  refine WL.y rfl (Y.extract rfl rfl) ?_
  refine WL.y rfl (Y.extract rfl rfl) ?_
  refine WL.y rfl (Y.extract rfl rfl) ?_
  refine WL.y rfl (Y.assign) ?_
  refine WL.y rfl (Y.assign) ?_
  refine WL.y rfl (Y.assign) ?_
  refine WL.nil ?_
  refine WC.seqR rfl ?_
  refine WL.call rfl (C.func go14) (unquote_eq _ [34, 97] 0 (by decide) (hT.bel k25) (by decide) known4) ?_
  rintro _ w30 ⟨rfl, hb30⟩
  have k30 := Below.step k25 hb30
  refine WL.y rfl (Y.move) ?_
  refine WL.y rfl (Y.extract rfl rfl) ?_
  refine WL.y rfl (Y.extract rfl rfl) ?_
  refine WL.y rfl (Y.extract rfl rfl) ?_
  refine WL.y rfl (Y.assign) ?_
  refine WL.y rfl (Y.assign) ?_
  refine WL.y rfl (Y.assign) ?_
  refine WL.nil ?_
  refine WC.seqR rfl ?_
  refine WL.call rfl (C.func go14) (unquote_eq _ [97] 0 (by decide) (hT.bel k30) (by decide) known5) ?_
  rintro _ w35 ⟨rfl, hb35⟩
  have k35 := Below.step k30 hb35
  refine WL.y rfl (Y.move) ?_
  refine WL.y rfl (Y.extract rfl rfl) ?_
  refine WL.y rfl (Y.extract rfl rfl) ?_
  refine WL.y rfl (Y.extract rfl rfl) ?_
  refine WL.y rfl (Y.assign) ?_
  refine WL.y rfl (Y.assign) ?_
  refine WL.y rfl (Y.assign) ?_
  refine WL.nil ?_
  refine WC.seqR rfl ?_
  refine WL.y rfl (Y.move) ?_
  refine WL.y rfl (Y.bT (Y.eqS (b := [34, 97, 92, 116, 92, 117, 48, 48, 48, 49, 92, 34, 195, 169, 34]) rfl rfl) (rfl)) ?_
  refine WL.y rfl (Y.move) ?_
  refine WL.y rfl (Y.move) ?_
  refine WL.y rfl (Y.dT (Y.eqi rfl rfl) (rfl)) ?_
  refine WL.y rfl (Y.pickT rfl) ?_
  refine WL.y rfl (Y.move) ?_
  refine WL.y rfl (Y.move) ?_
  refine WL.y rfl (Y.bT (Y.eqS (b := [240, 159, 152, 128]) rfl rfl) (rfl)) ?_
  refine WL.y rfl (Y.pickT rfl) ?_
  refine WL.y rfl (Y.move) ?_
  refine WL.y rfl (Y.move) ?_
  refine WL.y rfl (Y.dT (Y.eqi rfl rfl) (rfl)) ?_
  refine WL.y rfl (Y.pickT rfl) ?_
  refine WL.y rfl (Y.move) ?_
  refine WL.y rfl (Y.move) ?_
  refine WL.y rfl (Y.dT (Y.eqi rfl rfl) (rfl)) ?_
  refine WL.y rfl (Y.pickT rfl) ?_
  refine WL.y rfl (Y.move) ?_
  refine WL.y rfl (Y.move) ?_
  refine WL.y rfl (Y.dT (Y.eqi rfl rfl) (rfl)) ?_
  refine WL.y rfl (Y.pickT rfl) ?_
  refine WL.y rfl (Y.move) ?_
  refine WL.y rfl (Y.move) ?_
  refine WL.y rfl (Y.dT (Y.eqi rfl rfl) (rfl)) ?_
  refine WL.y rfl (Y.pickT rfl) ?_
  refine WL.y rfl (Y.move) ?_
  refine WL.y rfl (Y.move) ?_
  refine WL.y rfl (Y.dT (Y.eqi rfl rfl) (rfl)) ?_
  refine WL.y rfl (Y.pickT rfl) ?_
  refine WL.y rfl (Y.move) ?_
  refine WL.y rfl (Y.move) ?_
  refine WL.y rfl (Y.dT (Y.eqi rfl rfl) (rfl)) ?_
  refine WL.y rfl (Y.pickT rfl) ?_
  refine WL.y rfl (Y.move) ?_
  refine WL.y rfl (Y.move) ?_
  refine WL.y rfl (Y.dT (Y.eqi rfl rfl) (rfl)) ?_
  refine WL.y rfl (Y.pickT rfl) ?_
  refine WL.y rfl (Y.move) ?_
  refine WL.y rfl (Y.move) ?_
  refine WL.y rfl (Y.dT (Y.eqi rfl rfl) (rfl)) ?_
  refine WL.y rfl (Y.pickT rfl) ?_
  refine WL.y rfl (Y.assign) ?_
  refine WL.nil ?_
  refine WC.ret (endQ.one (.inr rfl) ?_)
  exact ⟨rfl, k35⟩
theorem rng64 {a : Int} (ha : (Lit.int .i64 a).wf = true) : -9223372036854775808 ≤ a ∧ a ≤ 9223372036854775807 := int_range ha
theorem utfReads_ret (w : World) (s : List UInt8) (hs : s.length ≤ 140737488351232) (a : Int) (ha : (Lit.int .i64 a).wf = true) (hT : Tabs w) :
    Ret Tryd.prog 5 [strv s, .int .i64 a].toArray w fun v w' => v = .bool true ∧ Below w.heap.size w w' := by
  have ha := rng64 ha
  have hee : ∃ t n c, unquoteS s a = (t, n, c) := ⟨_, _, _, rfl⟩
  obtain ⟨t, n, c, he⟩ := hee
  refine Ret.of (n := 41) (rs := #[.tmp 4]) Tryd.func5 rfl rfl rfl (by simp) ?_
  refine WC.seqR rfl ?_
  refine WL.y rfl (Y.assign) ?_
  refine WL.nil ?_
  refine WC.seqR rfl ?_
  refine WL.y rfl (Y.move) ?_
  refine WL.y rfl (Y.move) ?_
  refine WL.call rfl (C.func go14) (unquote_eq _ s a ha hT hs he) ?_
  rintro _ w14 ⟨rfl, hb14⟩
  have k14 := hb14
  refine WL.y rfl (Y.move) ?_
  refine WL.y rfl (Y.extract rfl rfl) ?_
  refine WL.y rfl (Y.extract rfl rfl) ?_
  refine WL.y rfl (Y.extract rfl rfl) ?_
  refine WL.y rfl (Y.assign) ?_
  refine WL.y rfl (Y.assign) ?_
  refine WL.y rfl (Y.assign) ?_
  refine WL.nil ?_
  refine WC.seqR rfl ?_
  refine WL.y rfl (Y.move) ?_
  refine WL.y rfl (Y.move) ?_
  refine WL.call rfl (C.func go15) (runquote_eq _ s a ha hs he) ?_
  rintro _ w21 ⟨rfl, hb21⟩
  have k21 := Below.step k14 hb21
  refine WL.y rfl (Y.move) ?_
  refine WL.y rfl (Y.extract rfl rfl) ?_
  refine WL.y rfl (Y.extract rfl rfl) ?_
  refine WL.y rfl (Y.extract rfl rfl) ?_
  refine WL.y rfl (Y.assign) ?_
  refine WL.y rfl (Y.assign) ?_
  refine WL.y rfl (Y.assign) ?_
  refine WL.nil ?_
  refine WC.seqR rfl ?_
  refine WL.y rfl (Y.move) ?_
  refine WL.y rfl (Y.move) ?_
  refine WL.y rfl (Y.bT (Y.eqS rfl rfl) (decide_eq_true rfl)) ?_
  refine WL.y rfl (Y.move) ?_
  refine WL.y rfl (Y.move) ?_
  refine WL.y rfl (Y.move) ?_
  refine WL.y rfl (Y.dT (Y.eqi rfl rfl) (rfl)) ?_
  refine WL.y rfl (Y.pickT rfl) ?_
  refine WL.y rfl (Y.move) ?_
  refine WL.y rfl (Y.move) ?_
  refine WL.y rfl (Y.move) ?_
  refine WL.y rfl (Y.dT (Y.eqi rfl rfl) (rfl)) ?_
  refine WL.y rfl (Y.pickT rfl) ?_
  refine WL.y rfl (Y.move) ?_
  refine WL.call rfl (C.func go11) (known_ret _ (hT.bel k21)) ?_
  rintro _ w39 ⟨rfl, hb39⟩
  have k39 := Below.step k21 hb39
  refine WL.y rfl (Y.pickT rfl) ?_
  refine WL.y rfl (Y.assign) ?_
  refine WL.nil ?_
  refine WC.ret (endQ.one (.inr rfl) ?_)
  exact ⟨rfl, k39⟩
theorem utfValid_ret (w : World) (s : List UInt8) (hs : s.length ≤ 140737488351232) (hT : Tabs w) :
    Ret Tryd.prog 3 [strv s].toArray w fun v w' => v = .bool true ∧ Below w.heap.size w w' := by
  have hee : ∃ b, Lib.validD s = b := ⟨_, rfl⟩
  obtain ⟨b, he⟩ := hee
  refine Ret.of (n := 11) (rs := #[.tmp 2]) Tryd.func3 rfl rfl rfl (by simp) ?_
  refine WC.seqR rfl ?_
  refine WL.y rfl (Y.assign) ?_
  refine WL.nil ?_
  refine WC.seqR rfl ?_
  refine WL.y rfl (Y.move) ?_
  refine WL.call rfl (C.func go9) (uvalid_ret _ s (by omega) hT) ?_
  rintro _ w4 ⟨rfl, hb4⟩
  have k4 := hb4
  refine WL.y rfl (Y.move) ?_
  refine WL.call rfl (C.func go10) (valid_ret _ s (by omega)) ?_
  rintro _ _ ⟨rfl, rfl⟩
  refine WL.y rfl (Y.bT (Y.eqb Tryd.underlying4 rfl rfl) (beq_self_eq_true _)) ?_
  refine WL.y rfl (Y.move) ?_
  refine WL.call rfl (C.func go11) (known_ret _ (hT.bel k4)) ?_
  rintro _ w9 ⟨rfl, hb9⟩
  have k9 := Below.step k4 hb9
  refine WL.y rfl (Y.pickT rfl) ?_
  refine WL.y rfl (Y.assign) ?_
  refine WL.nil ?_
  refine WC.ret (endQ.one (.inr rfl) ?_)
  exact ⟨rfl, k9⟩
end Go.Proofs.YtgdemkchfemmpaaDoor
