/-
  queue: Add, Cut, Of: walks.
-/
import Derived.Test.YtcbdpcehacklhaaQue2
namespace Go.Proofs.Ytcbdpcehacklhaa
open Go Go.RowKit Go.Cx
set_option linter.unusedVariables false
set_option maxHeartbeats 8000000
theorem MtW.appendM {w w' : World} {M : Nat → Prop} {bl bl' : Nat} {v : Mt} {c : List Value} {r : Value} (he : MtW w (fun b => M b ∧ b ≠ bl) v c) (hbl : (bl' = bl ∧ r ≠ .slice none 0 0) ∨ w.heap.size ≤ bl') (hk : Kept (fun b => b = bl) w w') : MtW w' (fun b => M b ∧ b ≠ bl') v c := by
  have h1 : MtW w (fun b => M b ∧ b ≠ bl ∧ b ≠ bl') v c := he.mono (fun b hb h => ⟨h.1, h.2, by rcases hbl with ⟨rfl, _⟩ | e; exact h.2; omega⟩)
  have h2 : MtW w' (fun b => M b ∧ b ≠ bl ∧ b ≠ bl') v c := MtW.kept hk (fun b h => h.2.1) h1
  exact h2.mono (fun b _ h => ⟨h.1, h.2.2⟩)
theorem own_apart {w : World} {P : Nat → Prop} {bl k n : Nat} {t : TypeId} {r : Value} {xs : List Value} (h : OwnK w bl t k r n xs) (hr : r = .slice none 0 0 ∨ P bl) (b : Nat) (hb : r.ownBlock = some b) : P b := by
  rcases hr with e | e
  · rw [e] at hb; cases hb
  · rcases h.own with e2 | e2 <;> rw [e2] at hb <;> cases hb
    exact e
/-- a list whose row is there, or none -/
theorem NLW.norm {w : World} {M : Nat → Prop} {l : List (Int × Mt)} {r : Value} (h : NLW w M l r) (h0 : 0 < w.heap.size) : ∃ (bl : Nat) (lc : List MC), bl < w.heap.size ∧ lc.length = l.length ∧ (r = .slice none 0 0 ∨ M bl) ∧ OwnK w bl 43 20 r l.length ((nums l lc).flatMap nc) ∧ ∀ j (h : j < l.length) (h' : j < lc.length), MtW w (fun b => M b ∧ b ≠ bl) l[j].2 lc[j].c := by
  obtain ⟨bl, lc, a1, a2, a3, a4⟩ := h
  rcases a3.2 with ⟨e, e2⟩ | ⟨o, cap, cur, hv, hb, _⟩
  · refine ⟨0, lc, h0, a1, .inl e, ?_, fun j h h' => absurd h (by omega)⟩
    rw [e] at a3 ⊢
    exact own_nilAny a3
  · exact ⟨bl, lc, (Array.getElem?_eq_some_iff.1 hb).1, a1, a2, a3, a4⟩
theorem NLW.push {w w' : World} {M : Nat → Prop} {l : List (Int × Mt)} {x : Int × Mt} {r r' : Value} {bl bl' S : Nat} {lc : List MC} {c : MC} (h1 : lc.length = l.length) (h2 : r = .slice none 0 0 ∨ M bl) (h3 : OwnK w bl 43 20 r l.length ((nums l lc).flatMap nc)) (h4 : ∀ j (h : j < l.length) (h' : j < lc.length), MtW w (fun b => M b ∧ b ≠ bl) l[j].2 lc[j].c)
    (hx : MtW w (fun b => S ≤ b ∧ b ≠ bl) x.2 c.c) (ho : OwnK w' bl' 43 20 r' (l.length + 1) ((nums l lc).flatMap nc ++ nc (x.1, c))) (hbl : (bl' = bl ∧ r ≠ .slice none 0 0) ∨ w.heap.size ≤ bl') (hS : S ≤ w.heap.size) (hg : w.grownBy w' r.ownBlock) : NLW w' (fun b => M b ∨ S ≤ b) (l ++ [x]) r' := by
  have hk := own_row h3 hg
  refine ⟨bl', lc ++ [c], by simp [h1], ?_, ?_, fun j hj hj' => ?_⟩
  · right
    rcases hbl with ⟨rfl, e⟩ | e
    · exact .inl (h2.resolve_left e)
    · exact .inr (by omega)
  · rw [List.length_append]
    have : (nums (l ++ [x]) (lc ++ [c])).flatMap nc = (nums l lc).flatMap nc ++ nc (x.1, c) := by
      unfold nums
      rw [List.map_append, List.zip_append (by rw [List.length_map]; omega), List.flatMap_append]
      simp
    rw [this]; exact ho
  · by_cases e : j < l.length
    · have e' : j < lc.length := by omega
      rw [List.getElem_append_left e, List.getElem_append_left e']
      exact (MtW.appendM (h4 j e e') hbl hk).mono (fun b _ h => ⟨.inl h.1, h.2⟩)
    · have e2 : j = l.length := by simp only [List.length_append, List.length_cons, List.length_nil] at hj; omega
      subst e2
      rw [List.getElem_append_right (Nat.le_refl _), List.getElem_append_right (by omega)]
      simp only [h1, Nat.sub_self, List.getElem_cons_zero]
      exact (MtW.appendM hx hbl hk).mono (fun b _ h => ⟨.inr h.1, h.2⟩)
theorem qadd_ret {w : World} {M : Nat → Prop} {q : Nat} {last : Int} {ms : List Mt} (h : QW w M q last ms) (m : Mt) (c : List Value) (hm : MtAt w m c) (hr : last + ms.length + 1 ≤ 4611686018427387903) (hl : ms.length < 100000) : Ret Try.prog 10 [.pointer (some ⟨q, 0, none⟩), .agg c.toArray].toArray w fun v w' => v = .tuple #[.int .u64 (last + ms.length + 1), .int .i64 0] ∧ QW w' (fun b => M b ∨ w.heap.size ≤ b) q last (ms ++ [m]) ∧ Kept M w w' := by
  have hq := h
  obtain ⟨r, hB, hM, hN, hrg⟩ := h
  have hnl := numd_len last ms
  have hcl := hm.len
  have hql := hB.lt
  have hmx : maxLen = 9223372036854775807 := rfl
  refine Ret.of (n := 27) (rs := #[.tmp 4, .tmp 5]) Try.func10 rfl rfl rfl (by simp) ?_
  refine WC.seqR rfl ?_
  refine WL.eex rfl (E.boxX) ?_
  rintro _ w3 ⟨rfl, hB3, hb3⟩
  refine WL.y rfl (Y.assign) ?_
  refine WL.y rfl (Y.assign) ?_
  refine WL.nil ?_
  refine WC.seq ?_
  refine WC.seqR rfl ?_
  refine WL.y rfl (Y.move) ?_
  refine WL.y rfl (Y.eqpn Try.underlying32 rfl rfl) ?_
  refine WL.nil ?_
  refine WC.condF (rfl) ?_
  refine WC.skip (thenQ.normal ?_)
  have hx3 : Blk w3 w.heap.size 30 c := hB3
  clear hB3
  refine WC.seqR rfl ?_
  refine WL.y rfl (Y.move) ?_
  refine WL.call rfl (C.func go17) (qnext_ret (hq.bel hb3)) ?_
  rintro _ w10 ⟨rfl, hb10⟩
  refine WL.y rfl (Y.assign) ?_
  refine WL.nil ?_
  refine WC.seq ?_
  refine WC.seqR rfl ?_
  refine WL.y rfl (Y.move) ?_
  refine WL.y rfl (Y.gtr rfl rfl) ?_
  refine WL.nil ?_
  refine WC.condD rfl (fun c0 => ?_) (fun c0 => ?_)
  · exfalso; omega
  · refine WC.skip (thenQ.normal ?_)
    refine WC.seq ?_
    have k10 := Below.step hb3 hb10
    have s3 := hb3.size
    have s10 := hb10.size
    have hm10 := hm.bel k10
    have hB10 := hB.bel k10
    have hx10 := hx3.bel hb10
    have hqq := (hN.bel k10).norm (by omega)
    obtain ⟨bl, lc, n0, n1, n2, n3, n4⟩ := hqq
    have hqq := nineteen hcl
    obtain ⟨a0, a1, a2, a3, a4, a5, a6, a7, a8, a9, b0, b1, b2, b3, b4, b5, b6, b7, b8, rfl⟩ := hqq
    refine WC.regionB (fun i => Nat.beq i 10 || Nat.beq i 13) [(0, .any), (1, .any), (2, .any), (3, .any), (4, .held), (5, .any), (6, .held), (7, .any), (8, .seq), (9, .seq), (10, .seq), (11, .any), (12, .any), (13, .seq)] mixed (by kernel_rfl) (fun w6 hS6 hheap => ?_)
    refine RL.any rfl rfl (fun _ => Y.move) ?_
    refine RL.any rfl rfl (fun _ => Y.move) ?_
    refine RL.any rfl rfl (fun _ => Y.nilCheck rfl) ?_
    refine RL.any rfl rfl (fun _ => Y.fieldAddr fi36f1 ti34 (by decide) rfl (rfl) _) ?_
    refine RL.held rfl rfl hS6 (fun _ hb9 => Y.load1 Try.underlying34 rfl rfl (cell_bel (hB10.cell 1) hb9)) ?_
    refine RL.any rfl rfl (fun _ => Y.move) ?_
    refine RL.held rfl rfl hS6 (fun _ hb9 => Y.loadK Try.underlying30 rfl ti30 (hcl) rfl (Cells.bel hx10.cells hb9)) ?_
    refine RL.any rfl rfl (fun _ => Y.build (cells := (.int .u64 (last + ms.length + 1) :: [a0, a1, a2, a3, a4, a5, a6, a7, a8, a9, b0, b1, b2, b3, b4, b5, b6, b7, b8]).toArray) (by kernel_rfl) _) ?_
    refine RL.call rfl rfl (C.func go28) (twin_ret (last + ms.length + 1) m _ _ (hm10.bel hS6)) ?_
    rintro _ w21 ⟨c21, rfl, h21, hb21⟩
    refine ⟨.inr (fun h => Below.step h hb21), ?_⟩
    have l21 : (Value.int .u64 (last + ms.length + 1) :: c21).length = 20 := by rw [List.length_cons, h21.len]
    refine RL.eex rfl rfl (E.build1A (c := .int .u64 (last + ms.length + 1) :: c21) Try.underlying34 ti43 l21 (by decide) (by decide) rfl) ?_ ?_
    · exact fun _ _ h9 => .inr (fun h => Below.step h h9.2.2.1)
    rintro _ w22 ⟨rfl, ho22, hb22, -⟩ 
    have bb : Below w10.heap.size w10 w22 := Below.step (Below.step hS6 hb21) hb22
    have n3' := n3.bel bb
    refine RL.eex rfl rfl (E.appendN Try.underlying34 ti43 rfl (by decide) n3' (ownsRow_sl ho22) (one_u64 h21.one) (by rw [hnl]; omega) (by rw [hnl]; omega)) ?_ ?_
    · exact fun _ _ _ => .inl rfl
    rintro v23 w23 ⟨⟨bl', ho23, hbl'⟩, hg23⟩
    have hBq : Blk w23 q 36 [.int .u64 last, r] := (hB10.bel bb).grownR hg23 (fun b e => (own_apart (P := fun b => M b ∧ b ≠ q) n3' n2 b e).2)
    refine RL.any rfl rfl (fun _ => Y.nilCheck rfl) ?_
    refine RL.any rfl rfl (fun _ => Y.fieldAddr fi36f1 ti34 (by decide) rfl (rfl) _) ?_
    refine RL.eex rfl rfl (E.storeX (u := v23) ti34 rfl rfl ho23.sl.one hBq (by simp)) ?_ ?_
    · exact fun _ _ _ => .inl rfl
    rintro _ w24 ⟨hB24, hg24, -⟩
    refine RL.nil (thenQ.normal ?_)
    refine WC.seqR rfl ?_
    refine WL.y rfl (Y.move) ?_
    refine WL.y rfl (Y.assign) ?_
    refine WL.y rfl (Y.assign) ?_
    refine WL.nil ?_
    refine WC.ret (endQ.two (.inr rfl) ?_)
    have s6 := hS6.size
    have s21 := hb21.size
    have s22 := hb22.size
    have s23 := hg23.size
    have hN23 : NLW w23 (fun b => (M b ∧ b ≠ q) ∨ w10.heap.size ≤ b) (numd last ms ++ [(last + ms.length + 1, m)]) v23 := NLW.push (c := ⟨c21, h21.len⟩) n1 n2 n3' (fun j h h' => (n4 j h h').bel bb) ((h21.bel hb22).mono (fun b _ h => ⟨by omega, by omega⟩)) ho23 hbl' (by omega) hg23
    have hnm : numd last (ms ++ [m]) = numd last ms ++ [(last + ms.length + 1, m)] := by rw [numd_app]; rfl
    have kM : Kept (fun b => b = q) w23 w24 := Kept.of_grown hg24 rfl
    have hq23 : q < w10.heap.size := hB10.lt
    have hN24 : NLW w24 (fun b => (M b ∨ w.heap.size ≤ b) ∧ b ≠ q) (numd last (ms ++ [m])) v23 := by
      rw [hnm]
      refine (NLW.kept (M := fun b => ((M b ∧ b ≠ q) ∨ w10.heap.size ≤ b)) kM (fun b h1 h2 => ?_) hN23).mono (fun b _ h => ?_)
      · subst h2
        rcases h1 with h1 | h1
        · exact h1.2 rfl
        · omega
      · rcases h with h | h
        · exact ⟨.inl h.1, h.2⟩
        · exact ⟨.inr (by omega), by omega⟩
    have kA : Kept M w23 w24 := Kept.of_grown hg24 hM
    have kB : Kept M w22 w23 := Kept.of_grownR hg23 (fun b e => (own_apart (P := fun b => M b ∧ b ≠ q) n3' n2 b e).1)
    have kC : Kept M w w24 := ((Kept.of_bel (Below.step k10 bb)).trans kB).trans kA
    exact ⟨rfl, ⟨v23, hB24, .inl hM, hN24, ⟨⟨hrg.1.1, by rw [List.length_append]; show last + ((ms.length + 1 : Nat) : Int) ≤ _; omega⟩, by rw [List.length_append]; show ms.length + 1 ≤ _; omega⟩⟩, kC⟩
theorem qadd_full {w : World} {M : Nat → Prop} {q : Nat} {last : Int} {ms : List Mt} (h : QW w M q last ms) (c : List Value) (hr : 4611686018427387903 < last + ms.length + 1) : Ret Try.prog 10 [.pointer (some ⟨q, 0, none⟩), .agg c.toArray].toArray w fun v w' => v = .tuple #[.int .u64 0, .int .i64 7] ∧ Below w.heap.size w w' := by
  have hrg := h.rg
  refine Ret.of (n := 27) (rs := #[.tmp 4, .tmp 5]) Try.func10 rfl rfl rfl (by simp) ?_
  refine WC.seqR rfl ?_
  refine WL.eex rfl (E.boxX) ?_
  rintro _ w3 ⟨rfl, hB3, hb3⟩
  refine WL.y rfl (Y.assign) ?_
  refine WL.y rfl (Y.assign) ?_
  refine WL.nil ?_
  refine WC.seq ?_
  refine WC.seqR rfl ?_
  refine WL.y rfl (Y.move) ?_
  refine WL.y rfl (Y.eqpn Try.underlying32 rfl rfl) ?_
  refine WL.nil ?_
  refine WC.condF (rfl) ?_
  refine WC.skip (thenQ.normal ?_)
  refine WC.seqR rfl ?_
  refine WL.y rfl (Y.move) ?_
  refine WL.call rfl (C.func go17) (qnext_ret (h.bel hb3)) ?_
  rintro _ w10 ⟨rfl, hb10⟩
  refine WL.y rfl (Y.assign) ?_
  refine WL.nil ?_
  refine WC.seq ?_
  refine WC.seqR rfl ?_
  refine WL.y rfl (Y.move) ?_
  refine WL.y rfl (Y.gtr rfl rfl) ?_
  refine WL.nil ?_
  refine WC.condD rfl (fun c0 => ?_) (fun c0 => ?_)
  · refine WC.seqR rfl ?_
    refine WL.y rfl (Y.assign) ?_
    refine WL.y rfl (Y.assign) ?_
    refine WL.nil ?_
    refine WC.ret (thenQ.ret (endQ.two (.inr rfl) ?_))
    exact ⟨rfl, Below.step hb3 hb10⟩
  · exfalso; omega
theorem qadd_nil (w : World) (c : List Value) : Ret Try.prog 10 [.pointer none, .agg c.toArray].toArray w fun v w' => v = .tuple #[.int .u64 0, .int .i64 1] ∧ Below w.heap.size w w' := by
  refine Ret.of (n := 27) (rs := #[.tmp 4, .tmp 5]) Try.func10 rfl rfl rfl (by simp) ?_
  refine WC.seqR rfl ?_
  refine WL.eex rfl (E.boxX) ?_
  rintro _ w3 ⟨rfl, hB3, hb3⟩
  refine WL.y rfl (Y.assign) ?_
  refine WL.y rfl (Y.assign) ?_
  refine WL.nil ?_
  refine WC.seq ?_
  refine WC.seqR rfl ?_
  refine WL.y rfl (Y.move) ?_
  refine WL.y rfl (Y.eqpn Try.underlying32 rfl rfl) ?_
  refine WL.nil ?_
  refine WC.condT (rfl) ?_
  refine WC.seqR rfl ?_
  refine WL.y rfl (Y.assign) ?_
  refine WL.y rfl (Y.assign) ?_
  refine WL.nil ?_
  refine WC.ret (thenQ.ret (endQ.two (.inr rfl) ?_))
  exact ⟨rfl, hb3⟩
/-- what a cut answers -/
def cutE (last : Int) (n : Nat) (to : Int) : Int := if to < last then 15 else if last + n + 1 ≤ to then 17 else 0
theorem num_zero : ∀ u ∈ (Value.agg #[.int .u64 0, .int .i64 0, .string ⟨#[]⟩, .string ⟨#[]⟩, .int .i64 0, .bool false, .int .i64 0, .bool false, .int .i64 0, .string ⟨#[]⟩, .slice none 0 0, .slice none 0 0, .bool false, .int .i64 0, .bool false, .int .i64 0, .string ⟨#[]⟩, .slice none 0 0, .slice none 0 0, .slice none 0 0]).cells.toList, One u = true := by
  intro u hu
  have hu : u ∈ [Value.int .u64 0, .int .i64 0, .string ⟨#[]⟩, .string ⟨#[]⟩, .int .i64 0, .bool false, .int .i64 0, .bool false, .int .i64 0, .string ⟨#[]⟩, .slice none 0 0, .slice none 0 0, .bool false, .int .i64 0, .bool false, .int .i64 0, .string ⟨#[]⟩, .slice none 0 0, .slice none 0 0, .slice none 0 0] := hu
  simp only [List.mem_cons, List.mem_nil_iff, or_false] at hu
  rcases hu with rfl | rfl | rfl | rfl | rfl | rfl | rfl | rfl | rfl | rfl | rfl | rfl | rfl | rfl | rfl | rfl | rfl | rfl | rfl | rfl <;> rfl
theorem qcut_ret {w : World} {M : Nat → Prop} {q : Nat} {last : Int} {ms : List Mt} (h : QW w M q last ms) (to : Int) (h1 : last ≤ to) (h2 : to ≤ last + ms.length) : Ret Try.prog 18 [.pointer (some ⟨q, 0, none⟩), .int .u64 to].toArray w fun v w' => v = .int .i64 0 ∧ QW w' M q to (ms.drop (to - last).toNat) ∧ Kept M w w' := by
  have hq := h
  obtain ⟨r, hB, hM, hN, hrg⟩ := h
  have hnl := numd_len last ms
  have hql := hB.lt
  obtain ⟨D, rfl⟩ : ∃ D : Nat, to = last + D := ⟨(to - last).toNat, by omega⟩
  have eD : (last + (D : Int) - last).toNat = D := by omega
  rw [eD]
  obtain ⟨bl, lc, n1, n2, n3, n4⟩ := hN
  obtain ⟨x, cap, rfl, hcap, hx⟩ : ∃ x cap, r = .slice x (numd last ms).length cap ∧ (numd last ms).length ≤ cap ∧ (0 < cap → ∃ o, x = some ⟨bl, o, none⟩) := by
    rcases n3.2 with ⟨e, e2⟩ | ⟨o, cap, cur, e, _, e2, _⟩
    · rw [e2]; exact ⟨_, _, e, Nat.le_refl _, fun h => absurd h (by omega)⟩
    · exact ⟨_, _, e, e2, fun _ => ⟨o, rfl⟩⟩
  have hD : D ≤ (numd last ms).length := by omega
  refine Ret.of (n := 44) (rs := #[.tmp 4]) Try.func18 rfl rfl rfl (by simp) ?_
  refine WC.seqR rfl ?_
  refine WL.y rfl (Y.assign) ?_
  refine WL.nil ?_
  refine WC.seq ?_
  refine WC.seqR rfl ?_
  refine WL.y rfl (Y.move) ?_
  refine WL.y rfl (Y.eqpn Try.underlying32 rfl rfl) ?_
  refine WL.nil ?_
  refine WC.condF (rfl) ?_
  refine WC.skip (thenQ.normal ?_)
  refine WC.seq ?_
  refine WC.seqR rfl ?_
  refine WL.y rfl (Y.move) ?_
  refine WL.y rfl (Y.move) ?_
  refine WL.y rfl (Y.nilCheck rfl) ?_
  refine WL.y rfl (Y.fieldAddr fi36f0 ti33 (by decide) rfl (rfl) _) ?_
  refine WL.y rfl (Y.load1 Try.underlying33 rfl rfl (hB.cell 0)) ?_
  refine WL.y rfl (Y.lss rfl rfl) ?_
  refine WL.nil ?_
  refine WC.condD rfl (fun c0 => ?_) (fun c0 => ?_)
  · exfalso; omega
  · refine WC.skip (thenQ.normal ?_)
    refine WC.seq ?_
    refine WC.seqR rfl ?_
    refine WL.y rfl (Y.move) ?_
    refine WL.y rfl (Y.move) ?_
    refine WL.call rfl (C.func go17) (qnext_ret hq) ?_
    rintro _ w16 ⟨rfl, hb16⟩
    refine WL.y rfl (Y.geq rfl rfl) ?_
    refine WL.nil ?_
    refine WC.condD rfl (fun c1 => ?_) (fun c1 => ?_)
    · exfalso; omega
    · have hB16 := hB.bel hb16
      have n16 := n3.bel hb16
      refine WC.skip (thenQ.normal ?_)
      refine WC.seqR rfl ?_
      refine WL.y rfl (Y.move) ?_
      refine WL.y rfl (Y.move) ?_
      refine WL.y rfl (Y.nilCheck rfl) ?_
      refine WL.y rfl (Y.fieldAddr fi36f0 ti33 (by decide) rfl (rfl) _) ?_
      refine WL.y rfl (Y.load1 Try.underlying33 rfl rfl (hB16.cell 0)) ?_
      refine WL.y rfl (Y.subU64 rfl rfl (by omega)) ?_
      refine WL.y rfl (Y.conviR Try.underlying33 Try.underlying3 rfl (by simp only [IntKind.min, IntKind.max, IntKind.signed, IntKind.bits]; omega)) ?_
      refine WL.y rfl (Y.assign) ?_
      refine WL.nil ?_
      refine WC.seqR rfl ?_
      refine WL.y rfl (Y.move) ?_
      refine WL.y rfl (Y.nilCheck rfl) ?_
      refine WL.y rfl (Y.fieldAddr fi36f1 ti34 (by decide) rfl (rfl) _) ?_
      refine WL.y rfl (Y.load1 Try.underlying34 rfl rfl (hB16.cell 1)) ?_
      refine WL.y rfl (Y.move) ?_
      refine WL.y rfl (Y.sliceVal (a := x) (n := (numd last ms).length) (cap := cap) (lo := 0) (hi := D) (k1 := .i64) (ol := none) (oh := some (.tmp 29)) Try.underlying34 ti43 rfl hcap rfl ⟨_, rfl, by omega⟩ (Nat.zero_le _) hD _) ?_
      refine WL.eex rfl (E.clearK (m := D) Try.underlying34 ti43 rfl num_zero (by decide) n16 rfl (fun h => by obtain ⟨o, rfl⟩ := hx (by omega); rw [if_neg (by omega)]; simp [add_addr]) hD) ?_
      rintro _ w17 ⟨⟨zs, hz, ho17⟩, hg17⟩
      have hB17 : Blk w17 q 36 [.int .u64 last, .slice x (numd last ms).length cap] := hB16.grownR hg17 (fun b e => (own_apart (P := fun b => M b ∧ b ≠ q) n16 n2 b e).2)
      refine WL.nil ?_
      refine WC.seqR rfl ?_
      refine WL.y rfl (Y.move) ?_
      refine WL.y rfl (Y.move) ?_
      refine WL.y rfl (Y.nilCheck rfl) ?_
      refine WL.y rfl (Y.fieldAddr fi36f1 ti34 (by decide) rfl (rfl) _) ?_
      refine WL.y rfl (Y.load1 Try.underlying34 rfl rfl (hB17.cell 1)) ?_
      refine WL.y rfl (Y.move) ?_
      refine WL.y rfl (Y.sliceVal (a := x) (n := (numd last ms).length) (cap := cap) (lo := D) (hi := (numd last ms).length) (k2 := .i64) (ol := some (.tmp 36)) (oh := none) Try.underlying34 ti43 rfl hcap ⟨_, rfl, by omega⟩ rfl hD (Nat.le_refl _) _) ?_
      refine WL.y rfl (Y.nilCheck rfl) ?_
      refine WL.y rfl (Y.fieldAddr fi36f1 ti34 (by decide) rfl (rfl) _) ?_
      refine WL.eex rfl (E.storeX (u := .slice (if cap = D then x else x.map (·.add (D * 20))) ((numd last ms).length - D) (cap - D)) ti34 rfl rfl rfl hB17 (by simp)) ?_
      rintro _ w18 ⟨hB18, hg18, -⟩
      refine WL.nil ?_
      refine WC.seqR rfl ?_
      refine WL.y rfl (Y.move) ?_
      refine WL.y rfl (Y.move) ?_
      refine WL.y rfl (Y.nilCheck rfl) ?_
      refine WL.y rfl (Y.fieldAddr fi36f0 ti33 (by decide) rfl (rfl) _) ?_
      refine WL.eex rfl (E.storeX (u := .int .u64 (last + D)) ti33 rfl rfl rfl hB18 (by simp)) ?_
      rintro _ w19 ⟨hB19, hg19, -⟩
      refine WL.nil ?_
      refine WC.seqR rfl ?_
      refine WL.y rfl (Y.assign) ?_
      refine WL.nil ?_
      refine WC.ret (endQ.one (.inr rfl) ?_)
      have hcut := ho17.cut D (numd last ms).length hD (Nat.le_refl _)
      have exs : (((zs ++ ((nums (numd last ms) lc).flatMap nc).drop (D * 20)).drop (D * 20)).take (((numd last ms).length - D) * 20)) = (nums (numd (last + D) (ms.drop D)) (lc.drop D)).flatMap nc := by
        rw [← hz, List.drop_left, hz, flat_drop nc_len, nums_dropK, numd_drop last ms D (by omega)]
        rw [List.take_of_length_le]
        rw [flat_len nc_len, nums_len (by rw [numd_len, List.length_drop, List.length_drop]; omega), numd_len, List.length_drop]
        omega
      rw [exs] at hcut
      have hl2 : (numd (last + D) (ms.drop D)).length = (numd last ms).length - D := by rw [numd_len, List.length_drop, hnl]
      have kA : Kept M w16 w17 := Kept.of_grownR hg17 (fun b e => (own_apart (P := fun b => M b ∧ b ≠ q) n16 n2 b e).1)
      have kQ : Kept (fun b => b = q) w17 w19 := (Kept.of_grown (M := fun b => b = q) hg18 rfl).trans (Kept.of_grown (M := fun b => b = q) hg19 rfl)
      have kR : Kept (fun b => b = bl) w16 w17 := own_row n16 hg17
      have hN19 : NLW w19 (fun b => M b ∧ b ≠ q) (numd (last + D) (ms.drop D)) (.slice (if cap = D then x else x.map (·.add (D * 20))) ((numd last ms).length - D) (cap - D)) := by
        rcases n2 with e | hMb
        · simp only [Value.slice.injEq] at e
          obtain ⟨hx0, hl0, hc0⟩ := e
          have hD0 : D = 0 := by omega
          subst hD0
          have hm0 : ms.drop 0 = [] := List.eq_nil_of_length_eq_zero (by rw [List.length_drop]; omega)
          rw [hm0, hx0, hc0, hl0]
          exact ⟨0, [], rfl, .inl rfl, OwnK.nil, fun j h => absurd h (by simp [numd])⟩
        · replace hMb : M bl ∧ bl ≠ q := hMb
          refine ⟨bl, lc.drop D, by rw [List.length_drop, hl2]; omega, .inr hMb, ?_, fun j h h' => ?_⟩
          · rw [hl2]
            exact hcut.kept kQ hMb.2
          · have e2 : (numd (last + D) (ms.drop D))[j].2 = (numd last ms)[D + j].2 := by
              have : (numd (last + D) (ms.drop D)) = (numd last ms).drop D := (numd_drop last ms D (by omega)).symm
              simp only [this, List.getElem_drop]
            rw [e2, List.getElem_drop]
            exact MtW.kept kQ (fun b h1 h2 => h1.1.2 h2) (MtW.kept kR (fun b h1 h2 => h1.2 h2) ((n4 (D + j) (by omega) (by omega)).bel hb16))
      have kC : Kept M w w19 := ((Kept.of_bel hb16).trans kA).trans (kQ.mono (fun b h _ => by subst h; exact hM))
      exact ⟨rfl, ⟨_, hB19, hM, hN19, ⟨⟨by omega, by rw [List.length_drop]; omega⟩, by rw [List.length_drop]; omega⟩⟩, kC⟩
end Go.Proofs.Ytcbdpcehacklhaa
