/-
  ref20: walks.
-/
import Derived.Test.YtlhhognabmnlmaaTab8
namespace Go.Proofs.Ytlhhognabmnlmaa
open Go Go.RowKit Go.Cx
set_option linter.unusedVariables false
set_option maxHeartbeats 8000000
def nt3 (n : Nt) : List Value := [.int .u64 n.c, .int .u64 n.v, .int .u64 n.i]
theorem nt3_len (n : Nt) : (nt3 n).length = 3 := rfl
theorem elem_nt {w : World} {b o j : Nat} {l : List Nt} (h : j < l.length) (hc : Cells w b o (((l.flatMap nt3).drop ((j : Int).toNat * 3)).take 3)) : Cells w b o [.int .u64 l[j].c, .int .u64 l[j].v, .int .u64 l[j].i] := by
  rw [Int.toNat_natCast, flat_at nt3_len _ j h] at hc
  exact hc
theorem cells_3 {w : World} {b o : Nat} {u v x : Value} {us : List Value} (h : Cells w b o (u :: v :: x :: us)) : w.cell? ⟨b, o + 2, none⟩ = some x := h 2 x rfl
theorem nt3_ones (l : List Nt) : ∀ u ∈ l.flatMap nt3, One u = true := by
  intro u hu
  have hqq := List.mem_flatMap.1 hu
  obtain ⟨p, _, hp⟩ := hqq
  simp only [nt3, List.mem_cons, List.mem_nil_iff, or_false] at hp
  rcases hp with rfl | rfl | rfl <;> rfl
theorem nt3_ones1 (p : Nt) : ∀ u ∈ nt3 p, One u = true := by
  have := nt3_ones [p]
  simpa using this
theorem lastW_take {q : Nt → Bool} {L : List Nt} {j : Nat} (h : j < L.length) : lastW q (L.take (j + 1)) = if q L[j] = true then L[j].i else lastW q (L.take j) := by
  rw [List.take_succ_eq_append_getElem h, lastW_append]
/-- the document's table: none of its blocks in N -/
def RefW (w : World) (N : Nat → Prop) (bw : Nat) (L : List Nt) (fl : Int) : Prop := ¬ N bw ∧ ∃ rv, Blk w bw 47 [rv, .int .u64 fl] ∧ SlA w (fun x => N x ∨ x = bw) 3 rv L.length (L.flatMap nt3)
theorem RefW.kept {w w' : World} {N : Nat → Prop} {bw : Nat} {L : List Nt} {fl : Int} (h : RefW w N bw L fl) (hk : Kept N w w') : RefW w' N bw L fl := by
  obtain ⟨h1, rv, h2, h3⟩ := h
  exact ⟨h1, rv, h2.kept hk h1, h3.kept hk (fun _ h _ => .inl h)⟩
theorem RefW.bel {w w' : World} {N : Nat → Prop} {bw : Nat} {L : List Nt} {fl : Int} (h : RefW w N bw L fl) (hb : Below w.heap.size w w') : RefW w' N bw L fl := h.kept (Kept.of_bel hb)
theorem sla_mono {w : World} {N N' : Nat → Prop} {k n : Nat} {v : Value} {xs : List Value} (h : SlA w N k v n xs) (hN : ∀ b, b < w.heap.size → N' b → N b) : SlA w N' k v n xs := by
  obtain ⟨h1, h2, a, cap, hv, h3, h4, h5⟩ := h
  refine ⟨h1, h2, a, cap, hv, h3, h4, fun i u hu => ?_⟩
  have hqq := h5 i u hu
  obtain ⟨b, o, e, hb, hc⟩ := hqq
  exact ⟨b, o, e, fun h => hb (hN b (World.block_lt_of_cell? _ _ hc) h), hc⟩
theorem RefW.mono {w : World} {N N' : Nat → Prop} {bw : Nat} {L : List Nt} {fl : Int} (h : RefW w N bw L fl) (hN : ∀ b, b < w.heap.size → N' b → N b) : RefW w N' bw L fl := by
  obtain ⟨h1, rv, h2, h3⟩ := h
  exact ⟨fun h => h1 (hN bw h2.lt h), rv, h2, sla_mono h3 (fun b hb h => h.imp (hN b hb) id)⟩
/-- up to where it is forgotten, stored -/
theorem RefW.floor {w w' : World} {N : Nat → Prop} {bw : Nat} {L : List Nt} {fl fl' : Int} {rv : Value} (h : RefW w N bw L fl) (hrv : w.cell? ⟨bw, 0, none⟩ = some rv) (hB : Blk w' bw 47 [rv, .int .u64 fl']) (hg : w.grownBy w' (some bw)) : RefW w' N bw L fl' := by
  obtain ⟨h1, rv', h2, h3⟩ := h
  have e : rv = rv' := by
    have := h2.cell 0
    rw [hrv] at this
    exact Option.some.inj this
  subst e
  exact ⟨h1, _, hB, h3.kept (Kept.of_grown (M := fun x => x = bw) hg rfl) (fun _ h _ => .inr h)⟩
theorem rmay_ret (w : World) (n : Int) (h : 0 ≤ n) : Ret Try.prog 33 [.int .u64 n].toArray w fun v w' => v = .bool (decide (0 < n ∧ n ≤ MX)) ∧ w = w' := by
  refine Ret.of (n := 9) (rs := #[.tmp 2]) Try.func33 rfl rfl rfl (by simp) ?_
  refine WC.seqR rfl ?_
  refine WL.y rfl (Y.assign) ?_
  refine WL.nil ?_
  by_cases c0 : 0 < n
  · refine WC.seqR rfl ?_
    refine WL.y rfl (Y.move) ?_
    refine WL.y rfl (Y.dT (Y.gtr rfl rfl) (by omega)) ?_
    refine WL.y rfl (Y.move) ?_
    refine WL.y rfl (Y.move) ?_
    refine WL.y rfl (Y.leq rfl rfl) ?_
    refine WL.y rfl (Y.pickT rfl) ?_
    refine WL.y rfl (Y.assign) ?_
    refine WL.nil ?_
    refine WC.ret (endQ.one (.inr rfl) ?_)
    refine ⟨(show Value.bool (decide (n ≤ 4611686018427387903)) = _ from ?_), rfl⟩
    simp [c0, MX]
  · skip
    skip
    refine WC.seqR rfl ?_
    refine WL.y rfl (Y.move) ?_
    refine WL.y rfl (Y.dF (Y.gtr rfl rfl) (by omega)) ?_
    refine WL.y rfl (Y.move) ?_
    refine WL.off rfl ?_
    refine WL.off rfl ?_
    refine WL.y rfl (Y.pickF rfl) ?_
    refine WL.y rfl (Y.assign) ?_
    refine WL.nil ?_
    refine WC.ret (endQ.one (.inr rfl) ?_)
    refine ⟨(show Value.bool false = _ from ?_), rfl⟩
    simp [c0]
theorem rmayT (w : World) (n : Int) (h : 0 < n ∧ n ≤ MX) : Ret Try.prog 33 [.int .u64 n].toArray w fun v w' => v = .bool true ∧ w = w' := (rmay_ret w n (by omega)).mono fun v w' ⟨a, b⟩ => ⟨by rw [a, decide_eq_true h], b⟩
theorem rmayF (w : World) (n : Int) (h0 : 0 ≤ n) (h : ¬ (0 < n ∧ n ≤ MX)) : Ret Try.prog 33 [.int .u64 n].toArray w fun v w' => v = .bool false ∧ w = w' := (rmay_ret w n h0).mono fun v w' ⟨a, b⟩ => ⟨by rw [a, decide_eq_false h], b⟩
theorem rlast_ret {w : World} {N : Nat → Prop} {bw : Nat} {L : List Nt} {fl : Int} (c : Int) (h : RefW w N bw L fl) (hL : L.length ≤ 50000) : Ret Try.prog 35 [.pointer (some ⟨bw, 0, none⟩), .int .u64 c].toArray w fun v w' => v = .int .u64 (lastL c L) ∧ w = w' := by
  obtain ⟨hN, rv, hB, hA⟩ := h
  have hs := hA.sl
  refine Ret.of (n := 35) (rs := #[.tmp 4]) Try.func35 rfl rfl rfl (by simp) ?_
  refine WC.seqR rfl ?_
  refine WL.y rfl (Y.assign) ?_
  refine WL.nil ?_
  refine WC.seqR rfl ?_
  refine WL.y rfl (Y.assign) ?_
  refine WL.nil ?_
  refine WC.seq ?_
  refine WC.seqR rfl ?_
  refine WL.y rfl (Y.assign) ?_
  refine WL.nil ?_
  refine WC.block ?_
  refine WC.loop (fun j => L.length - j) (fun j f ds w' => j ≤ L.length ∧ ds = [] ∧ w = w' ∧ ∃ J, f = Go.Cx.ov J [(0, .pointer (some ⟨bw, 0, none⟩)), (1, .int .u64 c), (5, .int .u64 (lastL c (L.take j))), (6, .int .i64 (j : Int))]) 0 ?_ ?_
  · exact ⟨Nat.zero_le _, rfl, rfl, _, ov_mk ⟨rfl, rfl, rfl, rfl, trivial⟩⟩
  · rintro j _ _ _ ⟨hj, rfl, rfl, J, rfl⟩
    refine WC.seq ?_
    refine WC.seqR rfl ?_
    refine WL.y rfl (Y.move) ?_
    refine WL.y rfl (Y.move) ?_
    refine WL.y rfl (Y.nilCheck rfl) ?_
    refine WL.y rfl (Y.fieldAddr fi47f0 ti45 (by decide) rfl (rfl) _) ?_
    refine WL.y rfl (Y.load1 Try.underlying45 rfl rfl (hB.cell 0)) ?_
    refine WL.y rfl (Y.lenSl Try.underlying45 (hs) _) ?_
    refine WL.y rfl (Y.lss rfl rfl) ?_
    refine WL.nil ?_
    refine WC.condD rfl (fun h0 => ?_) (fun h0 => ?_)
    · have hjl : j < L.length := by omega
      refine WC.skip (thenQ.normal ?_)
      refine WC.seq ?_
      refine WC.block ?_
      refine WC.seqR rfl ?_
      refine WL.y rfl (Y.move) ?_
      refine WL.y rfl (Y.nilCheck rfl) ?_
      refine WL.y rfl (Y.fieldAddr fi47f0 ti45 (by decide) rfl (rfl) _) ?_
      refine WL.y rfl (Y.load1 Try.underlying45 rfl rfl (hB.cell 0)) ?_
      refine WL.y rfl (Y.move) ?_
      refine WL.yex rfl (Y.idx Try.underlying45 ti43 (by decide) (hs) rfl (by omega) (by omega)) ?_
      rintro _ ⟨b21, o21, rfl, hc21⟩
      refine WL.y rfl (Y.fieldAddr fi43f0 ti22 (by decide) rfl (rfl) _) ?_
      refine WL.y rfl (Y.load1 Try.underlying22 rfl rfl (cells_hd (elem_nt hjl hc21))) ?_
      refine WL.y rfl (Y.move) ?_
      refine WL.y rfl (Y.eqi rfl rfl) ?_
      refine WL.nil ?_
      refine WC.condD rfl (fun h1 => ?_) (fun h1 => ?_)
      · refine WC.region rfl ?_
        refine WL.y rfl (Y.move) ?_
        refine WL.y rfl (Y.nilCheck rfl) ?_
        refine WL.y rfl (Y.fieldAddr fi47f0 ti45 (by decide) rfl (rfl) _) ?_
        refine WL.y rfl (Y.load1 Try.underlying45 rfl rfl (hB.cell 0)) ?_
        refine WL.y rfl (Y.move) ?_
        refine WL.yex rfl (Y.idx Try.underlying45 ti43 (by decide) (hs) rfl (by omega) (by omega)) ?_
        rintro _ ⟨b31, o31, rfl, hc31⟩
        refine WL.y rfl (Y.fieldAddr fi43f2 ti22 (by decide) rfl (rfl) _) ?_
        refine WL.y rfl (Y.load1 Try.underlying22 rfl rfl (cells_3 (elem_nt hjl hc31))) ?_
        refine WL.y rfl (Y.assign) ?_
        refine WL.nil (inBlockQ.normal (thenQ.normal ?_))
        refine WC.region rfl ?_
        refine WL.y rfl (Y.move) ?_
        refine WL.y rfl (Y.add64 rfl rfl (by omega)) ?_
        refine WL.y rfl (Y.assign) ?_
        refine WL.nil (thenQ.normal ?_)
        refine ⟨j + 1, by omega, by omega, rfl, rfl, _, ov_mk ⟨rfl, rfl, (show Value.int .u64 L[j].i = Value.int .u64 (lastL c (L.take (j + 1))) from by rw [lastL, lastW_take hjl, if_pos (by simpa using h1)]), rfl, trivial⟩⟩
      · refine WC.skip (inBlockQ.normal (thenQ.normal ?_))
        refine WC.region rfl ?_
        refine WL.y rfl (Y.move) ?_
        refine WL.y rfl (Y.add64 rfl rfl (by omega)) ?_
        refine WL.y rfl (Y.assign) ?_
        refine WL.nil (thenQ.normal ?_)
        refine ⟨j + 1, by omega, by omega, rfl, rfl, _, ov_mk ⟨rfl, rfl, (show Value.int .u64 (lastL c (L.take j)) = Value.int .u64 (lastL c (L.take (j + 1))) from by unfold lastL; rw [lastW_take hjl, if_neg (by simpa using h1)]), rfl, trivial⟩⟩
    · have hje : j = L.length := by omega
      subst hje
      rw [List.take_length]
      refine WC.exit (thenQ.exit (thenQ.exit (inBlockQ.hit (thenQ.normal ?_))))
      refine WC.seqR rfl ?_
      refine WL.y rfl (Y.move) ?_
      refine WL.y rfl (Y.assign) ?_
      refine WL.nil ?_
      refine WC.ret (endQ.one (.inr rfl) ?_)
      exact ⟨rfl, rfl⟩
theorem rnewest_ret {w : World} {N : Nat → Prop} {bw : Nat} {L : List Nt} {fl : Int} (h : RefW w N bw L fl) : Ret Try.prog 34 [.pointer (some ⟨bw, 0, none⟩)].toArray w fun v w' => v = .int .u64 (newestL L) ∧ Below w.heap.size w w' := by
  obtain ⟨hN, rv, hB, hA⟩ := h
  have hs := hA.sl
  have hmx : maxLen = 9223372036854775807 := rfl
  have hln := hs.2.1
  refine Ret.of (n := 22) (rs := #[.tmp 2]) Try.func34 rfl rfl rfl (by simp) ?_
  refine WC.seqR rfl ?_
  refine WL.y rfl (Y.assign) ?_
  refine WL.nil ?_
  refine WC.seq ?_
  refine WC.seqR rfl ?_
  refine WL.y rfl (Y.move) ?_
  refine WL.y rfl (Y.nilCheck rfl) ?_
  refine WL.y rfl (Y.fieldAddr fi47f0 ti45 (by decide) rfl (rfl) _) ?_
  refine WL.y rfl (Y.load1 Try.underlying45 rfl rfl (hB.cell 0)) ?_
  refine WL.y rfl (Y.lenSl Try.underlying45 (hs) _) ?_
  refine WL.y rfl (Y.eqi rfl rfl) ?_
  refine WL.nil ?_
  refine WC.condD rfl (fun h0 => ?_) (fun h0 => ?_)
  · have e : L = [] := List.eq_nil_of_length_eq_zero (by omega)
    rw [e]
    refine WC.seqR rfl ?_
    refine WL.y rfl (Y.assign) ?_
    refine WL.nil ?_
    refine WC.ret (thenQ.ret (endQ.one (.inr rfl) ?_))
    exact ⟨rfl, Below.refl _ _⟩
  · have hl : L.length - 1 < L.length := by omega
    have e1 : ((L.length : Int) - 1) = ((L.length - 1 : Nat) : Int) := by omega
    have e2 : newestL L = L[L.length - 1].v := by
      unfold newestL
      rw [List.getLast?_eq_getElem?, List.getElem?_eq_getElem hl]
      rfl
    rw [e2]
    refine WC.skip (thenQ.normal ?_)
    refine WC.seq ?_
    refine WC.regionB (fun _ => false) [(0, .any), (1, .any), (2, .any), (3, .held), (4, .any), (5, .any), (6, .any), (7, .held), (8, .any), (9, .any), (10, .any), (11, .any), (12, .held), (13, .any)] mixed (by kernel_rfl) (fun w3x hS3 hheap => ?_)
    refine RL.any rfl rfl (fun _ => Y.move) ?_
    refine RL.any rfl rfl (fun _ => Y.nilCheck rfl) ?_
    refine RL.any rfl rfl (fun _ => Y.fieldAddr fi47f0 ti45 (by decide) rfl (rfl) _) ?_
    refine RL.held rfl rfl hS3 (fun _ hb9 => Y.load1 Try.underlying45 rfl rfl (cell_bel (hB.cell 0) hb9)) ?_
    refine RL.any rfl rfl (fun _ => Y.move) ?_
    refine RL.any rfl rfl (fun _ => Y.nilCheck rfl) ?_
    refine RL.any rfl rfl (fun _ => Y.fieldAddr fi47f0 ti45 (by decide) rfl (rfl) _) ?_
    refine RL.held rfl rfl hS3 (fun _ hb9 => Y.load1 Try.underlying45 rfl rfl (cell_bel (hB.cell 0) hb9)) ?_
    refine RL.any rfl rfl (fun _ => Y.lenSl Try.underlying45 (hs) _) ?_
    refine RL.any rfl rfl (fun _ => Y.sub64 rfl rfl (by omega)) ?_
    refine RL.yex rfl rfl (Y.idx Try.underlying45 ti43 (by decide) (hs) rfl (by omega) (by omega)) ?_
    rintro _ ⟨b19, o19, rfl, hc19⟩
    refine RL.any rfl rfl (fun _ => Y.fieldAddr fi43f1 ti22 (by decide) rfl (rfl) _) ?_
    refine RL.held rfl rfl hS3 (fun _ hb9 => Y.load1 Try.underlying22 rfl rfl (cell_bel (cells_2 (elem_nt hl (by rw [e1] at hc19; exact hc19))) hb9)) ?_
    refine RL.any rfl rfl (fun _ => Y.assign) ?_
    refine RL.nil (thenQ.normal ?_)
    refine WC.ret (endQ.one (.inr rfl) ?_)
    exact ⟨rfl, hS3⟩
theorem rat_ret {w : World} {N : Nat → Prop} {bw : Nat} {L : List Nt} {fl : Int} (c v : Int) (h : RefW w N bw L fl) (hL : L.length ≤ 50000) : Ret Try.prog 36 [.pointer (some ⟨bw, 0, none⟩), .int .u64 c, .int .u64 v].toArray w fun r w' => r = .tuple #[.int .u64 (if fl ≤ v then atL c v L else 0), .bool (decide (fl ≤ v))] ∧ w = w' := by
  obtain ⟨hN, rv, hB, hA⟩ := h
  have hs := hA.sl
  refine Ret.of (n := 56) (rs := #[.tmp 6, .tmp 7]) Try.func36 rfl rfl rfl (by simp) ?_
  refine WC.seqR rfl ?_
  refine WL.y rfl (Y.assign) ?_
  refine WL.y rfl (Y.assign) ?_
  refine WL.nil ?_
  refine WC.seq ?_
  refine WC.seqR rfl ?_
  refine WL.y rfl (Y.move) ?_
  refine WL.y rfl (Y.move) ?_
  refine WL.y rfl (Y.nilCheck rfl) ?_
  refine WL.y rfl (Y.fieldAddr fi47f1 ti22 (by decide) rfl (rfl) _) ?_
  refine WL.y rfl (Y.load1 Try.underlying22 rfl rfl (hB.cell 1)) ?_
  refine WL.y rfl (Y.lss rfl rfl) ?_
  refine WL.nil ?_
  refine WC.condD rfl (fun h0 => ?_) (fun h0 => ?_)
  · have e1 : ¬ fl ≤ v := by omega
    rw [if_neg e1, decide_eq_false e1]
    refine WC.seqR rfl ?_
    refine WL.y rfl (Y.assign) ?_
    refine WL.y rfl (Y.assign) ?_
    refine WL.nil ?_
    refine WC.ret (thenQ.ret (endQ.two (.inr rfl) ?_))
    exact ⟨rfl, rfl⟩
  · have e1 : fl ≤ v := by omega
    rw [if_pos e1, decide_eq_true e1]
    refine WC.skip (thenQ.normal ?_)
    refine WC.seqR rfl ?_
    refine WL.y rfl (Y.assign) ?_
    refine WL.nil ?_
    refine WC.seq ?_
    refine WC.seqR rfl ?_
    refine WL.y rfl (Y.assign) ?_
    refine WL.nil ?_
    refine WC.block ?_
    refine WC.loop (fun j => L.length - j) (fun j f ds w' => j ≤ L.length ∧ ds = [] ∧ w = w' ∧ ∃ J, f = Go.Cx.ov J [(0, .pointer (some ⟨bw, 0, none⟩)), (1, .int .u64 c), (2, .int .u64 v), (8, .int .u64 (atL c v (L.take j))), (9, .int .i64 (j : Int))]) 0 ?_ ?_
    · exact ⟨Nat.zero_le _, rfl, rfl, _, ov_mk ⟨rfl, rfl, rfl, rfl, rfl, trivial⟩⟩
    · rintro j _ _ _ ⟨hj, rfl, rfl, J, rfl⟩
      refine WC.seq ?_
      refine WC.seqR rfl ?_
      refine WL.y rfl (Y.move) ?_
      refine WL.y rfl (Y.move) ?_
      refine WL.y rfl (Y.nilCheck rfl) ?_
      refine WL.y rfl (Y.fieldAddr fi47f0 ti45 (by decide) rfl (rfl) _) ?_
      refine WL.y rfl (Y.load1 Try.underlying45 rfl rfl (hB.cell 0)) ?_
      refine WL.y rfl (Y.lenSl Try.underlying45 (hs) _) ?_
      refine WL.y rfl (Y.lss rfl rfl) ?_
      refine WL.nil ?_
      refine WC.condD rfl (fun h1 => ?_) (fun h1 => ?_)
      · have hjl : j < L.length := by omega
        refine WC.skip (thenQ.normal ?_)
        refine WC.seq ?_
        refine WC.block ?_
        by_cases c1 : L[j].c = c
        · by_cases c2 : L[j].v ≤ v
          · refine WC.seqR rfl ?_
            refine WL.y rfl (Y.move) ?_
            refine WL.y rfl (Y.nilCheck rfl) ?_
            refine WL.y rfl (Y.fieldAddr fi47f0 ti45 (by decide) rfl (rfl) _) ?_
            refine WL.y rfl (Y.load1 Try.underlying45 rfl rfl (hB.cell 0)) ?_
            refine WL.y rfl (Y.move) ?_
            refine WL.yex rfl (Y.idx Try.underlying45 ti43 (by decide) (hs) rfl (by omega) (by omega)) ?_
            rintro _ ⟨b30, o30, rfl, hc30⟩
            refine WL.y rfl (Y.fieldAddr fi43f0 ti22 (by decide) rfl (rfl) _) ?_
            refine WL.y rfl (Y.load1 Try.underlying22 rfl rfl (cells_hd (elem_nt hjl hc30))) ?_
            refine WL.y rfl (Y.move) ?_
            refine WL.y rfl (Y.dT (Y.eqi rfl rfl) (by omega)) ?_
            refine WL.y rfl (Y.move) ?_
            refine WL.y rfl (Y.move) ?_
            refine WL.y rfl (Y.nilCheck rfl) ?_
            refine WL.y rfl (Y.fieldAddr fi47f0 ti45 (by decide) rfl (rfl) _) ?_
            refine WL.y rfl (Y.load1 Try.underlying45 rfl rfl (hB.cell 0)) ?_
            refine WL.y rfl (Y.move) ?_
            refine WL.yex rfl (Y.idx Try.underlying45 ti43 (by decide) (hs) rfl (by omega) (by omega)) ?_
            rintro _ ⟨b41, o41, rfl, hc41⟩
            refine WL.y rfl (Y.fieldAddr fi43f1 ti22 (by decide) rfl (rfl) _) ?_
            refine WL.y rfl (Y.load1 Try.underlying22 rfl rfl (cells_2 (elem_nt hjl hc41))) ?_
            refine WL.y rfl (Y.move) ?_
            refine WL.y rfl (Y.dT (Y.leq rfl rfl) (by omega)) ?_
            refine WL.y rfl (Y.pickT rfl) ?_
            refine WL.nil ?_
            refine WC.condT (rfl) ?_
            refine WC.region rfl ?_
            refine WL.y rfl (Y.move) ?_
            refine WL.y rfl (Y.nilCheck rfl) ?_
            refine WL.y rfl (Y.fieldAddr fi47f0 ti45 (by decide) rfl (rfl) _) ?_
            refine WL.y rfl (Y.load1 Try.underlying45 rfl rfl (hB.cell 0)) ?_
            refine WL.y rfl (Y.move) ?_
            refine WL.yex rfl (Y.idx Try.underlying45 ti43 (by decide) (hs) rfl (by omega) (by omega)) ?_
            rintro _ ⟨b52, o52, rfl, hc52⟩
            refine WL.y rfl (Y.fieldAddr fi43f2 ti22 (by decide) rfl (rfl) _) ?_
            refine WL.y rfl (Y.load1 Try.underlying22 rfl rfl (cells_3 (elem_nt hjl hc52))) ?_
            refine WL.y rfl (Y.assign) ?_
            refine WL.nil (inBlockQ.normal (thenQ.normal ?_))
            refine WC.region rfl ?_
            refine WL.y rfl (Y.move) ?_
            refine WL.y rfl (Y.add64 rfl rfl (by omega)) ?_
            refine WL.y rfl (Y.assign) ?_
            refine WL.nil (thenQ.normal ?_)
            refine ⟨j + 1, by omega, by omega, rfl, rfl, _, ov_mk ⟨rfl, rfl, rfl, (show Value.int .u64 L[j].i = Value.int .u64 (atL c v (L.take (j + 1))) from by rw [atL, lastW_take hjl, if_pos (by simp [c1, c2])]), rfl, trivial⟩⟩
          · refine WC.seqR rfl ?_
            refine WL.y rfl (Y.move) ?_
            refine WL.y rfl (Y.nilCheck rfl) ?_
            refine WL.y rfl (Y.fieldAddr fi47f0 ti45 (by decide) rfl (rfl) _) ?_
            refine WL.y rfl (Y.load1 Try.underlying45 rfl rfl (hB.cell 0)) ?_
            refine WL.y rfl (Y.move) ?_
            refine WL.yex rfl (Y.idx Try.underlying45 ti43 (by decide) (hs) rfl (by omega) (by omega)) ?_
            rintro _ ⟨b30, o30, rfl, hc30⟩
            refine WL.y rfl (Y.fieldAddr fi43f0 ti22 (by decide) rfl (rfl) _) ?_
            refine WL.y rfl (Y.load1 Try.underlying22 rfl rfl (cells_hd (elem_nt hjl hc30))) ?_
            refine WL.y rfl (Y.move) ?_
            refine WL.y rfl (Y.dT (Y.eqi rfl rfl) (by omega)) ?_
            refine WL.y rfl (Y.move) ?_
            refine WL.y rfl (Y.move) ?_
            refine WL.y rfl (Y.nilCheck rfl) ?_
            refine WL.y rfl (Y.fieldAddr fi47f0 ti45 (by decide) rfl (rfl) _) ?_
            refine WL.y rfl (Y.load1 Try.underlying45 rfl rfl (hB.cell 0)) ?_
            refine WL.y rfl (Y.move) ?_
            refine WL.yex rfl (Y.idx Try.underlying45 ti43 (by decide) (hs) rfl (by omega) (by omega)) ?_
            rintro _ ⟨b41, o41, rfl, hc41⟩
            refine WL.y rfl (Y.fieldAddr fi43f1 ti22 (by decide) rfl (rfl) _) ?_
            refine WL.y rfl (Y.load1 Try.underlying22 rfl rfl (cells_2 (elem_nt hjl hc41))) ?_
            refine WL.y rfl (Y.move) ?_
            refine WL.y rfl (Y.dF (Y.leq rfl rfl) (by omega)) ?_
            refine WL.y rfl (Y.pickT rfl) ?_
            refine WL.nil ?_
            refine WC.condF (rfl) ?_
            refine WC.skip (inBlockQ.normal (thenQ.normal ?_))
            refine WC.region rfl ?_
            refine WL.y rfl (Y.move) ?_
            refine WL.y rfl (Y.add64 rfl rfl (by omega)) ?_
            refine WL.y rfl (Y.assign) ?_
            refine WL.nil (thenQ.normal ?_)
            refine ⟨j + 1, by omega, by omega, rfl, rfl, _, ov_mk ⟨rfl, rfl, rfl, (show Value.int .u64 (atL c v (L.take j)) = Value.int .u64 (atL c v (L.take (j + 1))) from by unfold atL; rw [lastW_take hjl, if_neg (by simp [c2])]), rfl, trivial⟩⟩
        · skip
          skip
          refine WC.seqR rfl ?_
          refine WL.y rfl (Y.move) ?_
          refine WL.y rfl (Y.nilCheck rfl) ?_
          refine WL.y rfl (Y.fieldAddr fi47f0 ti45 (by decide) rfl (rfl) _) ?_
          refine WL.y rfl (Y.load1 Try.underlying45 rfl rfl (hB.cell 0)) ?_
          refine WL.y rfl (Y.move) ?_
          refine WL.yex rfl (Y.idx Try.underlying45 ti43 (by decide) (hs) rfl (by omega) (by omega)) ?_
          rintro _ ⟨b30, o30, rfl, hc30⟩
          refine WL.y rfl (Y.fieldAddr fi43f0 ti22 (by decide) rfl (rfl) _) ?_
          refine WL.y rfl (Y.load1 Try.underlying22 rfl rfl (cells_hd (elem_nt hjl hc30))) ?_
          refine WL.y rfl (Y.move) ?_
          refine WL.y rfl (Y.dF (Y.eqi rfl rfl) (by omega)) ?_
          refine WL.y rfl (Y.move) ?_
          refine WL.off rfl ?_
          refine WL.off rfl ?_
          refine WL.off rfl ?_
          refine WL.off rfl ?_
          refine WL.off rfl ?_
          refine WL.off rfl ?_
          refine WL.off rfl ?_
          refine WL.off rfl ?_
          refine WL.off rfl ?_
          refine WL.off rfl ?_
          refine WL.y rfl (Y.pickF rfl) ?_
          refine WL.nil ?_
          refine WC.condF (rfl) ?_
          refine WC.skip (inBlockQ.normal (thenQ.normal ?_))
          refine WC.region rfl ?_
          refine WL.y rfl (Y.move) ?_
          refine WL.y rfl (Y.add64 rfl rfl (by omega)) ?_
          refine WL.y rfl (Y.assign) ?_
          refine WL.nil (thenQ.normal ?_)
          refine ⟨j + 1, by omega, by omega, rfl, rfl, _, ov_mk ⟨rfl, rfl, rfl, (show Value.int .u64 (atL c v (L.take j)) = Value.int .u64 (atL c v (L.take (j + 1))) from by unfold atL; rw [lastW_take hjl, if_neg (by simp [c1])]), rfl, trivial⟩⟩
      · have hje : j = L.length := by omega
        subst hje
        rw [List.take_length]
        refine WC.exit (thenQ.exit (thenQ.exit (inBlockQ.hit (thenQ.normal ?_))))
        refine WC.seqR rfl ?_
        refine WL.y rfl (Y.move) ?_
        refine WL.y rfl (Y.assign) ?_
        refine WL.y rfl (Y.assign) ?_
        refine WL.nil ?_
        refine WC.ret (endQ.two (.inr rfl) ?_)
        exact ⟨rfl, rfl⟩
end Go.Proofs.Ytlhhognabmnlmaa
