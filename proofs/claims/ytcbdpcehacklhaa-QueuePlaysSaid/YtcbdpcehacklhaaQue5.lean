/-
  law23: known: walk.
-/
import Derived.Test.YtcbdpcehacklhaaQue4
namespace Go.Proofs.Ytcbdpcehacklhaa
open Go Go.RowKit Go.Cx
set_option linter.unusedVariables false
set_option maxHeartbeats 8000000
theorem QW.zero {w : World} {M : Nat → Prop} {q : Nat} (hB : Blk w q 36 [.int .u64 0, .slice none 0 0]) (hM : M q) : QW w M q 0 [] :=
  ⟨_, hB, hM, ⟨0, [], rfl, .inl rfl, OwnK.nil, fun j h => absurd h (by simp [numd])⟩, ⟨by omega, by simp⟩, by simp⟩
theorem sameT_ret (l : List (Int × Mt)) (ra rb : Value) (w : World) (ha : NLAt w l ra) (hb : NLAt w l rb) (hl : l.length ≤ 517417236585) : Ret Try.prog 19 [ra, rb].toArray w fun v w' => v = .bool true ∧ Below w.heap.size w w' :=
  (same_ret l l ra rb w ha hb hl).mono fun v w' ⟨⟨e, h1, h2⟩, h3⟩ => ⟨by rw [h1, h2.2 rfl], h3⟩
/-- add, with room, the rows being somewhere above B -/
theorem qadd_at {w : World} {B : Nat} {q : Nat} {last : Int} {ms : List Mt} (h : QW w (fun b => B ≤ b) q last ms) (hB : B ≤ w.heap.size) (m : Mt) (c : List Value) (hm : MtAt w m c) (hr : last + ms.length + 1 ≤ 4611686018427387903) (hl : ms.length < 100000) : Ret Try.prog 10 [.pointer (some ⟨q, 0, none⟩), .agg c.toArray].toArray w fun v w' => v = .tuple #[.int .u64 (last + ms.length + 1), .int .i64 0] ∧ QW w' (fun b => B ≤ b) q last (ms ++ [m]) ∧ Below B w w' :=
  (qadd_ret h m c hm hr hl).mono fun v w' ⟨h1, h2, h3⟩ => ⟨h1, h2.mono (fun b _ h => by rcases h with h | h <;> omega), h3.below (fun b h => h) hB⟩
theorem nlat2 {w : World} {i j : Int} {m n : Mt} {c d : List Value} {r : Value} (hm : MtAt w m c) (hn : MtAt w n d) (hs : SlK w 20 r 2 ((.int .u64 i :: c) ++ (.int .u64 j :: d))) : NLAt w [(i, m), (j, n)] r :=
  ⟨[⟨c, hm.len⟩, ⟨d, hn.len⟩], rfl, by simpa [nums, nc] using hs, fun k h h' => match k, h, h' with | 0, _, _ => hm | 1, _, _ => hn | k + 2, h, _ => absurd h (by simp)⟩
theorem nlat1 {w : World} {i : Int} {m : Mt} {c : List Value} {r : Value} (hm : MtAt w m c) (hs : SlK w 20 r 1 (.int .u64 i :: c)) : NLAt w [(i, m)] r :=
  ⟨[⟨c, hm.len⟩], rfl, by simpa [nums, nc] using hs, fun k h h' => match k, h, h' with | 0, _, _ => hm | k + 1, h, _ => absurd h (by simp)⟩
abbrev dc (k : List UInt8) : List Value := mtcell (delMt k) nilV nilV (.slice none 0 0)
theorem dc_at {w : World} {k : List UInt8} (hk : k.length ≤ 140737488351232) : MtAt w (delMt k) (dc k) := (delMt_w (M := fun _ => True) hk).at
theorem known_ret (w : World) : Ret Try.prog 16 #[] w fun v w' => v = .bool true ∧ Below w.heap.size w w' := by
  refine Ret.of (n := 73) (rs := #[.tmp 0]) Try.func16 rfl rfl rfl (by simp) ?_
  refine WC.seqR rfl ?_
  refine WL.y rfl (Y.assign) ?_
  refine WL.nil ?_
  refine WC.seqR rfl ?_
  refine WL.y rfl (Y.build (cells := #[.int .u64 0, .slice none 0 0]) (by kernel_rfl) _) ?_
  refine WL.eex rfl (E.boxX) ?_
  rintro _ w9 ⟨rfl, hB9, hb9⟩
  refine WL.y rfl (Y.assign) ?_
  refine WL.nil ?_
  have h9 : QW w9 (fun b => w.heap.size ≤ b) w.heap.size 0 [] := QW.zero hB9 (Nat.le_refl _)
  clear hB9
  have s9 := hb9.size
  refine WC.seqR rfl ?_
  refine WL.y rfl (Y.move) ?_
  refine WL.call rfl (C.func go11) (del_ret _ [97] (by simp)) ?_
  rintro _ w11 ⟨rfl, hb11⟩
  refine WL.call rfl (C.func go10) (qadd_at (h9.bel hb11) (by have := hb11.size; omega) (delMt [97]) _ (dc_at (by simp)) (by simp) (by simp)) ?_
  rintro _ w12 ⟨rfl, h12, hb12⟩
  refine WL.nil ?_
  refine WC.seqR rfl ?_
  refine WL.y rfl (Y.move) ?_
  refine WL.call rfl (C.func go11) (del_ret _ [98] (by simp)) ?_
  rintro _ w14 ⟨rfl, hb14⟩
  refine WL.call rfl (C.func go10) (qadd_at (h12.bel hb14) (by have := hb11.size; have := hb12.size; have := hb14.size; omega) (delMt [98]) _ (dc_at (by simp)) (by simp) (by simp)) ?_
  rintro _ w15 ⟨rfl, h15, hb15⟩
  refine WL.nil ?_
  refine WC.seqR rfl ?_
  refine WL.y rfl (Y.move) ?_
  refine WL.call rfl (C.func go11) (del_ret _ [99] (by simp)) ?_
  rintro _ w17 ⟨rfl, hb17⟩
  refine WL.call rfl (C.func go10) (qadd_at (h15.bel hb17) (by have := hb11.size; have := hb12.size; have := hb14.size; have := hb15.size; have := hb17.size; omega) (delMt [99]) _ (dc_at (by simp)) (by simp) (by simp)) ?_
  rintro _ w18 ⟨rfl, h18, hb18⟩
  refine WL.nil ?_
  have k18 : Below w.heap.size w w18 := ((Below.step ((Below.step ((Below.step hb9 hb11).trans hb12) hb14).trans hb15) hb17).trans hb18)
  have h18' : QW w18 (fun b => w.heap.size ≤ b ∧ b < w18.heap.size) w.heap.size 0 [delMt [97], delMt [98], delMt [99]] := h18.mono (fun b h1 h2 => ⟨h2, h1⟩)
  have s18 := k18.size
  clear h9 h12 h15 h18
  refine WC.seqR rfl ?_
  refine WL.y rfl (Y.move) ?_
  refine WL.call rfl (C.func go17) (qnext_ret h18') ?_
  rintro _ w20 ⟨rfl, hb20⟩
  refine WL.y rfl (Y.assign) ?_
  refine WL.nil ?_
  refine WC.seqR rfl ?_
  refine WL.y rfl (Y.move) ?_
  refine WL.call rfl (C.func go13) (qbatch_ret (h18'.bel hb20) 5 3 (by omega) (by omega)) ?_
  rintro r22 w22 ⟨h22, hb22⟩
  refine WL.y rfl (Y.assign) ?_
  refine WL.nil ?_
  have s20 := hb20.size
  have s22 := hb22.size
  have h22' : NLW w22 (fun b => w20.heap.size ≤ b) [(1, delMt [97]), (2, delMt [98])] r22 := h22
  clear h22
  have hq22 := (h18'.bel hb20).bel hb22
  refine WC.seqR rfl ?_
  refine WL.y rfl (Y.move) ?_
  refine WL.call rfl (C.func go18) (qcut_ret hq22 2 (by omega) (by simp)) ?_
  rintro _ w24 ⟨rfl, h24, k24⟩
  refine WL.y rfl (Y.assign) ?_
  refine WL.nil ?_
  have h24' : QW w24 (fun b => w.heap.size ≤ b ∧ b < w18.heap.size) w.heap.size 2 [delMt [99]] := h24
  have h22a : NLW w24 (fun b => w20.heap.size ≤ b) [(1, delMt [97]), (2, delMt [98])] r22 := NLW.kept k24 (fun b h1 h2 => by omega) h22'
  have s24 := k24.size
  have b24 : Below w.heap.size w w24 := Below.kept (Below.step (Below.step k18 hb20) hb22) k24 (fun b h => h.1) (Nat.le_refl _)
  clear h24 h22' h18' hq22
  refine WC.seqR rfl ?_
  refine WL.y rfl (Y.move) ?_
  refine WL.call rfl (C.func go12) (qall_ret h24') ?_
  rintro r26 w26 ⟨h26, hb26⟩
  refine WL.y rfl (Y.assign) ?_
  refine WL.nil ?_
  refine WC.seqR rfl ?_
  refine WL.y rfl (Y.move) ?_
  refine WL.call rfl (C.func go11) (del_ret _ [100] (by simp)) ?_
  rintro _ w29 ⟨rfl, hb29⟩
  refine WL.call rfl (C.func go10) (qadd_ret ((h24'.bel hb26).bel hb29) (delMt [100]) _ (dc_at (by simp)) (by simp) (by simp)) ?_
  rintro _ w30 ⟨rfl, h30, k30⟩
  refine WL.y rfl (Y.move) ?_
  refine WL.y rfl (Y.extract rfl rfl) ?_
  refine WL.y rfl (Y.extract rfl rfl) ?_
  refine WL.y rfl (Y.assign) ?_
  refine WL.y rfl (Y.assign) ?_
  refine WL.nil ?_
  have s26 := hb26.size
  have s29 := hb29.size
  have s30 := k30.size
  have h26' : NLW w26 (fun b => w24.heap.size ≤ b) [(3, delMt [99])] r26 := h26
  have h22b : NLW w30 (fun b => w20.heap.size ≤ b ∧ b < w24.heap.size) [(1, delMt [97]), (2, delMt [98])] r22 := NLW.kept k30 (fun b h1 h2 => by omega) (((h22a.mono (fun b h1 h2 => ⟨h2, h1⟩)).bel hb26).bel hb29)
  have h26b : NLW w30 (fun b => w24.heap.size ≤ b ∧ b < w26.heap.size) [(3, delMt [99])] r26 := NLW.kept k30 (fun b h1 h2 => by omega) ((h26'.mono (fun b h1 h2 => ⟨h2, h1⟩)).bel hb29)
  have h30' : QW w30 (fun b => (w.heap.size ≤ b ∧ b < w18.heap.size) ∨ w29.heap.size ≤ b) w.heap.size 2 [delMt [99], delMt [100]] := h30
  have b30 : Below w.heap.size w w30 := Below.kept (Below.step (Below.step b24 hb26) hb29) k30 (fun b h => h.1) (Nat.le_refl _)
  clear h26 h26' h22a h24' h30
  refine WC.seqR rfl ?_
  refine WL.y rfl (Y.move) ?_
  refine WL.y rfl (Y.dT (Y.eqi rfl rfl) (rfl)) ?_
  refine WL.y rfl (Y.move) ?_
  refine WL.y rfl (Y.move) ?_
  refine WL.call rfl (C.func go11) (del_ret _ [97] (by simp)) ?_
  rintro _ w37 ⟨rfl, hb37⟩
  refine WL.y rfl (Y.build (cells := (.int .u64 1 :: dc [97]).toArray) (by kernel_rfl) _) ?_
  refine WL.call rfl (C.func go11) (del_ret _ [98] (by simp)) ?_
  rintro _ w39 ⟨rfl, hb39⟩
  refine WL.y rfl (Y.build (cells := (.int .u64 2 :: dc [98]).toArray) (by kernel_rfl) _) ?_
  refine WL.eex rfl (E.buildSliceX (cs := (.int .u64 1 :: dc [97]) ++ (.int .u64 2 :: dc [98])) Try.underlying34 ti43 (by decide) (by decide) (by kernel_rfl) rfl) ?_
  rintro _ w41 ⟨rfl, ho41, hb41, -⟩
  have bb41 := Below.step (Below.step hb37 hb39) hb41
  refine WL.call rfl (C.func go19) (sameT_ret [(1, delMt [97]), (2, delMt [98])] _ _ _ (h22b.bel bb41).at (nlat2 (dc_at (by simp)) (dc_at (by simp)) (ownsRow_sl ho41)) (by simp)) ?_
  rintro _ w42 ⟨rfl, hb42⟩
  refine WL.y rfl (Y.pickT rfl) ?_
  refine WL.y rfl (Y.move) ?_
  refine WL.y rfl (Y.move) ?_
  refine WL.y rfl (Y.dT (Y.eqi rfl rfl) (rfl)) ?_
  refine WL.y rfl (Y.pickT rfl) ?_
  refine WL.y rfl (Y.move) ?_
  refine WL.y rfl (Y.move) ?_
  refine WL.call rfl (C.func go11) (del_ret _ [99] (by simp)) ?_
  rintro _ w50 ⟨rfl, hb50⟩
  refine WL.y rfl (Y.build (cells := (.int .u64 3 :: dc [99]).toArray) (by kernel_rfl) _) ?_
  refine WL.eex rfl (E.build1A (c := .int .u64 3 :: dc [99]) Try.underlying34 ti43 rfl (by decide) (by decide) rfl) ?_
  rintro _ w52 ⟨rfl, ho52, hb52, -⟩
  have bb52 := Below.step (Below.step (Below.step bb41 hb42) hb50) hb52
  refine WL.call rfl (C.func go19) (sameT_ret [(3, delMt [99])] _ _ _ (h26b.bel bb52).at (nlat1 (dc_at (by simp)) (ownsRow_sl ho52)) (by simp)) ?_
  rintro _ w53 ⟨rfl, hb53⟩
  have bb53 := Below.step bb52 hb53
  refine WL.y rfl (Y.pickT rfl) ?_
  refine WL.y rfl (Y.move) ?_
  refine WL.y rfl (Y.move) ?_
  refine WL.y rfl (Y.dT (Y.eqi rfl rfl) (rfl)) ?_
  refine WL.y rfl (Y.pickT rfl) ?_
  refine WL.y rfl (Y.move) ?_
  refine WL.y rfl (Y.move) ?_
  refine WL.y rfl (Y.dT (Y.eqi rfl rfl) (rfl)) ?_
  refine WL.y rfl (Y.pickT rfl) ?_
  refine WL.y rfl (Y.move) ?_
  refine WL.y rfl (Y.move) ?_
  refine WL.call rfl (C.func go18) (qcut_old (h30'.bel bb53) 1 (by omega)) ?_
  rintro _ w65 ⟨rfl, hb65⟩
  have bb65 := Below.step bb53 hb65
  refine WL.y rfl (Y.dT (Y.eqi rfl rfl) (rfl)) ?_
  refine WL.y rfl (Y.pickT rfl) ?_
  refine WL.y rfl (Y.move) ?_
  refine WL.y rfl (Y.move) ?_
  refine WL.call rfl (C.func go18) (qcut_range (h30'.bel bb65) 5 (by simp)) ?_
  rintro _ w70 ⟨rfl, hb70⟩
  refine WL.y rfl (Y.dT (Y.eqi rfl rfl) (rfl)) ?_
  refine WL.y rfl (Y.pickT rfl) ?_
  refine WL.y rfl (Y.assign) ?_
  refine WL.nil ?_
  refine WC.ret (endQ.one (.inr rfl) ?_)
  exact ⟨rfl, Below.step b30 (Below.step bb65 hb70)⟩
end Go.Proofs.Ytcbdpcehacklhaa
