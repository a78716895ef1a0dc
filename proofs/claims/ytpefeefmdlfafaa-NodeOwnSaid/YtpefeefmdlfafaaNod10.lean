/-
  law06: entry, known: walks.
-/
import Derived.Test.YtpefeefmdlfafaaNod9
namespace Go.Proofs.Ytpefeefmdlfafaa
open Go Go.RowKit Go.Cx
set_option linter.unusedVariables false
set_option maxHeartbeats 8000000
set_option maxRecDepth 20000
def numV (i : Int) : V := V.mk 3 false i [] [] [] []
abbrev numC (i : Int) : List Value := [.int .i64 3, .bool false, .int .i64 i, strv [], .slice none 0 0, .slice none 0 0]
theorem numAt {w : World} {i : Int} (h1 : -9223372036854775808 ≤ i) (h2 : i ≤ 9223372036854775807) : VAt w (numV i) (numC i) :=
  VAt.mk (v := numV i) (lc := []) (oc := []) ⟨⟨show (-9223372036854775808 : Int) ≤ 3 by omega, show (3 : Int) ≤ 9223372036854775807 by omega⟩, ⟨h1, h2⟩, by show _ ≤ _; exact Nat.zero_le _, by show _ ≤ _; exact Nat.zero_le _, by show _ ≤ _; exact Nat.zero_le _, rfl, fun x hx => absurd hx (by show ¬ x ∈ []; simp)⟩ rfl (fun j h => absurd h (by show ¬ j < 0; omega)) (OwnK.nil (w := w) (bl := 0) (t := 40) (k := 6)).sl rfl (fun j h => absurd h (by show ¬ j < 0; omega)) (OwnK.nil (w := w) (bl := 0) (t := 71) (k := 7)).sl
theorem entry_ret (w : World) (k : List UInt8) (i : Int) : Ret Try.prog 32 [strv k, .int .i64 i].toArray w fun v w' => v = .agg (strv k :: numC i).toArray ∧ Below w.heap.size w w' := by
  have hones : ∀ u ∈ strv k :: numC i, One u = true := one_strv (one_vcell (v := numV i) rfl rfl)
  refine Ret.of (n := 9) (rs := #[.cell 4 42]) Try.func32 rfl rfl rfl (by simp) ?_
  refine WC.seqR rfl ?_
  refine WL.eex rfl (E.allocX ti42) ?_
  rintro _ w4 ⟨rfl, hB4, hb4⟩
  refine WL.nil ?_
  refine WC.seqR rfl ?_
  refine WL.y rfl (Y.move) ?_
  refine WL.y rfl (Y.move) ?_
  refine WL.y rfl (Y.build (cells := (numC i).toArray) (by kernel_rfl) _) ?_
  refine WL.y rfl (Y.build (cells := (strv k :: numC i).toArray) (by kernel_rfl) _) ?_
  refine WL.eex rfl (E.storeAllK (us := strv k :: numC i) ti42 rfl rfl rfl hones hB4 rfl) ?_
  rintro _ w5 ⟨hB5, hg5⟩
  refine WL.nil ?_
  refine WC.ret ?_
  exact endQ.cellN Try.underlying42 rfl ti42 (.inr rfl) rfl hB5.cells ⟨rfl, Below.stepG hb4 hg5 (Nat.le_refl _)⟩
theorem e_one {w : World} {r : Value} {k : List UInt8} {i : Int} (h : SlK w 7 r 1 (strv k :: numC i)) (h1 : -9223372036854775808 ≤ i) (h2 : i ≤ 9223372036854775807) : EAt w [(k, numV i)] r := by
  refine ⟨[⟨numC i, rfl⟩], rfl, ?_, fun j h h' => ?_⟩
  · exact h
  · have : j = 0 := by simp at h; omega
    subst this
    exact numAt h1 h2
theorem e_two {w : World} {r : Value} {k k' : List UInt8} {i i' : Int} (h : SlK w 7 r 2 (strv k :: numC i ++ strv k' :: numC i')) (h1 : -9223372036854775808 ≤ i) (h2 : i ≤ 9223372036854775807) (h3 : -9223372036854775808 ≤ i') (h4 : i' ≤ 9223372036854775807) : EAt w [(k, numV i), (k', numV i')] r := by
  refine ⟨[⟨numC i, rfl⟩, ⟨numC i', rfl⟩], rfl, ?_, fun j h h' => ?_⟩
  · exact h
  · rcases j with _ | _ | j
    · exact numAt h1 h2
    · exact numAt h3 h4
    · exact absurd h (by simp)
theorem rise_two {a b : En} : rise [a, b] ↔ slt a.1 b.1 = true := by
  constructor
  · intro h; exact h 0 (by simp)
  · intro h i hi
    have : i = 0 := by simp at hi; omega
    subst this; exact h
theorem rise_one {a : En} : rise [a] := fun i hi => absurd hi (by simp)
def kA : Sh := .mk [([97], numV 1), ([98], numV 2)] []
def kB : Sh := .mk [([99], numV 3)] []
theorem kA_ok : OkS kA := okS_leaf.2 ⟨by simp, rise_two.2 rfl⟩
theorem kB_ok : OkS kB := okS_leaf.2 ⟨by simp, rise_one⟩
theorem kA_flat : flatS kA = [([97], numV 1), ([98], numV 2)] := flatS_leaf _
theorem kB_flat : flatS kB = [([99], numV 3)] := flatS_leaf _
theorem kAB_flat : flatL [kA, kB] = [([97], numV 1), ([98], numV 2), ([99], numV 3)] := by rw [flatL, flatL, flatL, kA_flat, kB_flat]; rfl
theorem kAB_nodes : nodesL [kA, kB] = 2 := by simp [nodesL, kA, kB, nodesS]
theorem kAB_io : innerOk [kA, kB] := by
  refine (inner_iff (by simp)).2 ⟨by simp, fun k hk => ?_, fun i hi => ?_⟩
  · simp only [List.mem_cons, List.not_mem_nil, or_false] at hk
    rcases hk with rfl | rfl
    · exact ⟨by rw [kA_flat]; simp, rfl⟩
    · exact ⟨by rw [kB_flat]; simp, by simp [hS, kA, kB]⟩
  · have : i = 0 := by simp at hi; omega
    subst this
    unfold up
    simp only [List.getElem_cons_zero, List.getElem_cons_succ, Nat.zero_add]
    rw [kA_flat, kB_flat]; rfl
theorem kAB_ok : OkS (.mk [] [kA, kB]) := .inner (fun k hk => by
  simp only [List.mem_cons, List.not_mem_nil, or_false] at hk
  rcases hk with rfl | rfl
  · exact kA_ok
  · exact kB_ok) kAB_io
theorem ba_no : ¬ OkS (.mk [([98], numV 1), ([97], numV 2)] []) := fun h => by have := rise_two.1 (okS_leaf.1 h).2; exact absurd this (by decide)
theorem aa_no : ¬ OkS (.mk [([97], numV 1), ([97], numV 2)] []) := fun h => by have := rise_two.1 (okS_leaf.1 h).2; exact absurd this (by decide)
theorem ps_two {w : World} {M : Nat → Prop} {s t : Sh} {b c : Nat} {r : Value} (h1 : NdR w M s b) (h2 : NdR w M t c) (h : SlK w 1 r 2 [ptr b, ptr c]) : PsAt w M [s, t] [b, c] r := ⟨rfl, h, fun j h h' => by
  rcases j with _ | _ | j
  · exact h1
  · exact h2
  · exact absurd h (by simp)⟩
theorem known_ret (w : World) : Ret Try.prog 11 #[] w fun v w' => v = .bool true ∧ Below w.heap.size w w' := by
  refine Ret.of (n := 83) (rs := #[.tmp 0]) Try.func11 rfl rfl rfl (by simp) ?_
  refine WC.seqR rfl ?_
  refine WL.y rfl (Y.assign) ?_
  refine WL.nil ?_
  refine WC.seqR rfl ?_
  refine WL.call rfl (C.func go32) (entry_ret _ [98] 1) ?_
  rintro _ w12 ⟨rfl, hb12⟩
  refine WL.call rfl (C.func go32) (entry_ret _ [97] 2) ?_
  rintro _ w13 ⟨rfl, hb13⟩
  refine WL.eex rfl (E.buildSliceX (len := 2) (cs := strv [98] :: numC 1 ++ strv [97] :: numC 2) Try.underlying22 ti42 (by omega) (by omega) (by kernel_rfl) rfl) ?_
  rintro v14 w14 ⟨-, ho14, hb14, -⟩
  refine WL.call rfl (C.func go16) (leafF (e_two (ownsRow_sl ho14) (by omega) (by omega) (by omega) (by omega)) (by simp) ba_no) ?_
  rintro _ w15 ⟨rfl, hb15⟩
  refine WL.y rfl (Y.move) ?_
  refine WL.y rfl (Y.extract rfl rfl) ?_
  refine WL.y rfl (Y.extract rfl rfl) ?_
  refine WL.y rfl (Y.assign) ?_
  refine WL.y rfl (Y.assign) ?_
  refine WL.nil ?_
  refine WC.seqR rfl ?_
  refine WL.call rfl (C.func go32) (entry_ret _ [97] 1) ?_
  rintro _ w19 ⟨rfl, hb19⟩
  refine WL.call rfl (C.func go32) (entry_ret _ [97] 2) ?_
  rintro _ w20 ⟨rfl, hb20⟩
  refine WL.eex rfl (E.buildSliceX (len := 2) (cs := strv [97] :: numC 1 ++ strv [97] :: numC 2) Try.underlying22 ti42 (by omega) (by omega) (by kernel_rfl) rfl) ?_
  rintro v21 w21 ⟨-, ho21, hb21, -⟩
  refine WL.call rfl (C.func go16) (leafF (e_two (ownsRow_sl ho21) (by omega) (by omega) (by omega) (by omega)) (by simp) aa_no) ?_
  rintro _ w22 ⟨rfl, hb22⟩
  refine WL.y rfl (Y.move) ?_
  refine WL.y rfl (Y.extract rfl rfl) ?_
  refine WL.y rfl (Y.extract rfl rfl) ?_
  refine WL.y rfl (Y.assign) ?_
  refine WL.y rfl (Y.assign) ?_
  refine WL.nil ?_
  refine WC.seqR rfl ?_
  refine WL.call rfl (C.func go32) (entry_ret _ [97] 1) ?_
  rintro _ w26 ⟨rfl, hb26⟩
  refine WL.call rfl (C.func go32) (entry_ret _ [98] 2) ?_
  rintro _ w27 ⟨rfl, hb27⟩
  refine WL.eex rfl (E.buildSliceX (len := 2) (cs := strv [97] :: numC 1 ++ strv [98] :: numC 2) Try.underlying22 ti42 (by omega) (by omega) (by kernel_rfl) rfl) ?_
  rintro v28 w28 ⟨-, ho28, hb28, -⟩
  refine WL.call rfl (C.func go16) (leafT (e_two (ownsRow_sl ho28) (by omega) (by omega) (by omega) (by omega)) (by simp) kA_ok) ?_
  rintro _ w29 ⟨⟨p1, rfl, n29⟩, hb29⟩
  refine WL.y rfl (Y.move) ?_
  refine WL.y rfl (Y.extract rfl rfl) ?_
  refine WL.y rfl (Y.extract rfl rfl) ?_
  refine WL.y rfl (Y.assign) ?_
  refine WL.y rfl (Y.assign) ?_
  refine WL.nil ?_
  refine WC.seqR rfl ?_
  refine WL.call rfl (C.func go32) (entry_ret _ [99] 3) ?_
  rintro _ w33 ⟨rfl, hb33⟩
  refine WL.eex rfl (E.buildSliceX (len := 1) (cs := strv [99] :: numC 3) Try.underlying22 ti42 (by omega) (by omega) (by kernel_rfl) rfl) ?_
  rintro v34 w34 ⟨-, ho34, hb34, -⟩
  refine WL.call rfl (C.func go16) (leafT (e_one (ownsRow_sl ho34) (by omega) (by omega)) (by simp) kB_ok) ?_
  rintro _ w35 ⟨⟨p2, rfl, n35⟩, hb35⟩
  refine WL.y rfl (Y.move) ?_
  refine WL.y rfl (Y.extract rfl rfl) ?_
  refine WL.y rfl (Y.extract rfl rfl) ?_
  refine WL.y rfl (Y.assign) ?_
  refine WL.y rfl (Y.assign) ?_
  refine WL.nil ?_
  refine WC.seqR rfl ?_
  refine WL.y rfl (Y.move) ?_
  refine WL.y rfl (Y.move) ?_
  refine WL.eex rfl (E.buildSliceX (len := 2) (cs := [ptr p1, ptr p2]) Try.underlying49 ti29 (by omega) (by omega) (by kernel_rfl) rfl) ?_
  rintro v41 w41 ⟨-, ho41, hb41, -⟩
  have hP : PsAt w41 (fun _ => True) [kA, kB] [p1, p2] v41 := ps_two (((((n29.bel hb33).bel hb34).bel hb35).bel hb41).mono (fun _ _ _ => trivial)) ((n35.bel hb41).mono (fun _ _ _ => trivial)) (ownsRow_sl ho41)
  refine WL.call rfl (C.func go20) (innerT hP (by rw [kAB_flat]; simp) (by rw [kAB_nodes]; omega) (by simp) kAB_io) ?_
  rintro _ w42 ⟨⟨b, kv', bl', rfl, hb1', hb2', hB', hO'⟩, hb42⟩
  have hN : NdR w42 (fun _ => True) (.mk [] [kA, kB]) b := .mk (bs := [p1, p2]) (bl := bl') hB' trivial EW.nil rfl (.inr trivial) hO' (fun j h h' => (hP.bel hb42).nd j h h') kAB_ok
  refine WL.y rfl (Y.move) ?_
  refine WL.y rfl (Y.extract rfl rfl) ?_
  refine WL.y rfl (Y.extract rfl rfl) ?_
  refine WL.y rfl (Y.assign) ?_
  refine WL.y rfl (Y.assign) ?_
  refine WL.nil ?_
  have z1 : hS (.mk [] [kA, kB]) = 1 := by simp [hS, kA]
  have z2 : (flatS (.mk [] [kA, kB])).length = 3 := by rw [flatS_inner (by simp), kAB_flat]; rfl
  have z3 : firstS (flatS (.mk [] [kA, kB])) = [97] := by rw [flatS_inner (by simp), kAB_flat]; rfl
  have z4 : lastS (flatS (.mk [] [kA, kB])) = [99] := by rw [flatS_inner (by simp), kAB_flat]; rfl
  have q1 := nheight_ret hN
  have q2 := ncount_ret hN
  have q3 := nfirst_ret hN
  have q4 := nlast_ret hN
  rw [z1] at q1
  rw [z2] at q2
  rw [z3] at q3
  rw [z4] at q4
  refine WC.seqR rfl ?_
  refine WL.y rfl (Y.move) ?_
  refine WL.y rfl (Y.dT (Y.eqi rfl rfl) (rfl)) ?_
  refine WL.y rfl (Y.move) ?_
  refine WL.y rfl (Y.move) ?_
  refine WL.y rfl (Y.dT (Y.eqi rfl rfl) (rfl)) ?_
  refine WL.y rfl (Y.pickT rfl) ?_
  refine WL.y rfl (Y.move) ?_
  refine WL.y rfl (Y.move) ?_
  refine WL.y rfl (Y.dT (Y.eqi rfl rfl) (rfl)) ?_
  refine WL.y rfl (Y.pickT rfl) ?_
  refine WL.y rfl (Y.move) ?_
  refine WL.y rfl (Y.move) ?_
  refine WL.y rfl (Y.dT (Y.eqi rfl rfl) (rfl)) ?_
  refine WL.y rfl (Y.pickT rfl) ?_
  refine WL.y rfl (Y.move) ?_
  refine WL.y rfl (Y.move) ?_
  refine WL.y rfl (Y.dT (Y.eqi rfl rfl) (rfl)) ?_
  refine WL.y rfl (Y.pickT rfl) ?_
  refine WL.y rfl (Y.move) ?_
  refine WL.y rfl (Y.move) ?_
  refine WL.call rfl (C.func go13) (q1) ?_
  rintro _ _ ⟨rfl, rfl⟩
  refine WL.y rfl (Y.dT (Y.eqi rfl rfl) (rfl)) ?_
  refine WL.y rfl (Y.pickT rfl) ?_
  refine WL.y rfl (Y.move) ?_
  refine WL.y rfl (Y.move) ?_
  refine WL.call rfl (C.func go15) (q2) ?_
  rintro _ _ ⟨rfl, rfl⟩
  refine WL.y rfl (Y.dT (Y.eqi rfl rfl) (rfl)) ?_
  refine WL.y rfl (Y.pickT rfl) ?_
  refine WL.y rfl (Y.move) ?_
  refine WL.y rfl (Y.move) ?_
  refine WL.call rfl (C.func go25) (q3) ?_
  rintro _ _ ⟨rfl, rfl⟩
  refine WL.y rfl (Y.bT (Y.eqS (b := [97]) rfl rfl) (rfl)) ?_
  refine WL.y rfl (Y.pickT rfl) ?_
  refine WL.y rfl (Y.move) ?_
  refine WL.y rfl (Y.move) ?_
  refine WL.call rfl (C.func go26) (q4) ?_
  rintro _ _ ⟨rfl, rfl⟩
  refine WL.y rfl (Y.bT (Y.eqS (b := [99]) rfl rfl) (rfl)) ?_
  refine WL.y rfl (Y.pickT rfl) ?_
  refine WL.y rfl (Y.assign) ?_
  refine WL.nil ?_
  refine WC.ret (endQ.one (.inr rfl) ?_)
  exact ⟨rfl, Below.step (Below.step (Below.step (Below.step (Below.step (Below.step (Below.step (Below.step (Below.step (Below.step (Below.step (Below.step (Below.step (Below.step (Below.step (Below.step hb12 hb13) hb14) hb15) hb19) hb20) hb21) hb22) hb26) hb27) hb28) hb29) hb33) hb34) hb35) hb41) hb42⟩
end Go.Proofs.Ytpefeefmdlfafaa
