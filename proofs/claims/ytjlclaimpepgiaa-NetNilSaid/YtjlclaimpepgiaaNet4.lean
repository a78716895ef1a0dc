/-
  net: Count, All, Copy.
-/
import Derived.Test.YtjlclaimpepgiaaNet3
import Derived.Test.YtjlclaimpepgiaaBase10
namespace Go.Proofs.Ytjlclaimpepgiaa
open Go Go.RowKit Go.Cx
set_option linter.unusedVariables false
open Crc
/-- how many letters go to one -/
def cntS (x : Int) (ls : List LS) : Nat := ls.countP (fun l => decide (l.to = x))
theorem cntS_take (x : Int) (ps : List (LS × Value)) (k : Nat) (h : k < ps.length) : cntS x ((ps.take (k + 1)).map Prod.fst) = cntS x ((ps.take k).map Prod.fst) + if (ps.getD k zeroL).1.to = x then 1 else 0 := by
  rw [List.take_succ_eq_append_getElem h, List.map_append]
  unfold cntS
  rw [List.countP_append]
  simp only [List.map_cons, List.map_nil, List.countP_cons, List.countP_nil, Nat.zero_add, List.getD_eq_getElem?_getD, List.getElem?_eq_getElem h, Option.getD_some, decide_eq_true_eq]
theorem cntS_le (x : Int) (ls : List LS) : cntS x ls ≤ ls.length := List.countP_le_length
theorem lts_one {w : World} {M : Nat → Prop} {ps : List (LS × Value)} (h : Lts w M ps) (k : Nat) : ∀ u ∈ encL (ps.getD k zeroL), One u = true := by
  refine one_enc ?_
  by_cases hk : k < ps.length
  · simp only [List.getD_eq_getElem?_getD, List.getElem?_eq_getElem hk, Option.getD_some]
    exact (h _ (List.getElem_mem hk)).1.one
  · simp only [List.getD_eq_getElem?_getD, List.getElem?_eq_none (Nat.le_of_not_lt hk), Option.getD_none]
    rfl
theorem count_nil (w : World) (x : Int) : Ret Try.prog 25 [.pointer none, .int .u64 x].toArray w fun v w' => v = .int .i64 0 ∧ w = w' := by
  refine Ret.of (n := 27) (rs := #[.tmp 4]) Try.func25 rfl rfl rfl (by simp) ?_
  refine WC.seqR rfl ?_
  refine WL.y rfl (Y.assign) ?_
  refine WL.nil ?_
  refine WC.seq ?_
  refine WC.seqR rfl ?_
  refine WL.y rfl (Y.move) ?_
  refine WL.y rfl (Y.bT (Y.eqpn Try.underlying25 rfl rfl) (rfl)) ?_
  refine WL.nil ?_
  refine WC.condT (rfl) ?_
  refine WC.seqR rfl ?_
  refine WL.y rfl (Y.assign) ?_
  refine WL.nil ?_
  refine WC.ret (thenQ.ret (endQ.one (.inr rfl) ?_))
  exact ⟨rfl, rfl⟩
theorem count_ret (w : World) (M : Nat → Prop) (bn bl : Nat) (ps : List (LS × Value)) (h : NetAt w M bn bl ps) (x : Int) : Ret Try.prog 25 [.pointer (some ⟨bn, 0, none⟩), .int .u64 x].toArray w fun v w' => v = .int .i64 (cntS x (ps.map Prod.fst) : Int) ∧ Below w.heap.size w w' := by
  obtain ⟨hMs, v, hB, ho, hm1, hm2, hl0⟩ := h
  have hln := ho.sl.len
  refine Ret.of (n := 27) (rs := #[.tmp 4]) Try.func25 rfl rfl rfl (by simp) ?_
  refine WC.seqR rfl ?_
  refine WL.y rfl (Y.assign) ?_
  refine WL.nil ?_
  refine WC.seq ?_
  refine WC.seqR rfl ?_
  refine WL.y rfl (Y.move) ?_
  refine WL.y rfl (Y.bF (Y.eqpn Try.underlying25 rfl rfl) (rfl)) ?_
  refine WL.nil ?_
  refine WC.condF (rfl) ?_
  refine WC.skip (thenQ.normal ?_)
  refine WC.seqR rfl ?_
  refine WL.y rfl (Y.assign) ?_
  refine WL.nil ?_
  refine WC.seq ?_
  refine WC.seqR rfl ?_
  refine WL.y rfl (Y.move) ?_
  refine WL.y rfl (Y.nilCheck rfl) ?_
  refine WL.y rfl (Y.fieldAddr fi28f0 ti26 (by decide) rfl (rfl) _) ?_
  refine WL.y rfl (Y.load1 Try.underlying26 rfl rfl (hB.one)) ?_
  refine WL.y rfl (Y.lenSl Try.underlying26 (ho.sl) _) ?_
  refine WL.y rfl (Y.move) ?_
  refine WL.nil ?_
  refine WC.block ?_
  refine WC.loop (fun k => ps.length - k) (fun k f ds w' => k ≤ ps.length ∧ ds = [] ∧ Below w.heap.size w w' ∧ ∃ J, f = ov J [(0, .pointer (some ⟨bn, 0, none⟩)), (1, .int .u64 x), (5, .int .i64 (cntS x ((ps.take k).map Prod.fst) : Int)), (13, v), (14, .int .i64 (ps.length : Int)), (15, .int .i64 (k : Int))]) 0 ?_ ?_
  · exact ⟨by omega, rfl, Below.refl _ _, _, ov_mk ⟨rfl, rfl, rfl, rfl, rfl, rfl, trivial⟩⟩
  · rintro k _ _ w1 ⟨hk, rfl, hb1, J, rfl⟩
    have hcl := cntS_le x ((ps.take k).map Prod.fst)
    rw [List.length_map, List.length_take] at hcl
    refine WC.seqR rfl ?_
    refine WL.y rfl (Y.lss rfl rfl) ?_
    refine WL.nil ?_
    refine WC.seq ?_
    refine WC.condD rfl (fun hlt => ?_) (fun hlt => ?_)
    · have hkl : k < ps.length := by omega
      have hct := cntS_take x ps k hkl
      refine WC.skip (thenQ.normal ?_)
      refine WC.seq ?_
      refine WC.block ?_
      refine WC.seqR rfl ?_
      refine WL.yex rfl (Y.idxF (enc := encL) zeroL encL_len (by decide) Try.underlying26 ti36 (ho.sl.bel hb1) rfl (by omega) (by omega)) ?_
      rintro _ ⟨b17, o17, rfl, hc17⟩
      refine WL.y rfl (Y.loadN Try.underlying36 rfl ti36 rfl (hc17)) ?_
      refine WL.eex rfl (E.allocX ti36) ?_
      rintro _ w7 ⟨rfl, hB7, hb7⟩
      have k7 := Below.step hb1 hb7
      refine WL.eex rfl (E.storeAll (us := encL (ps.getD k zeroL)) ti36 rfl rfl (lts_one hl0 k) hB7 rfl) ?_
      rintro _ w8 ⟨hB8, hg8⟩
      have k8 : Below w.heap.size w w8 := k7.trans (below_of_grown hg8 k7.size (fun k e => by cases e; exact hb1.size))
      refine WL.nil ?_
      refine WC.seqR rfl ?_
      refine WL.y rfl (Y.fieldAddr fi36f0 ti31 (by decide) rfl (rfl) _) ?_
      refine WL.y rfl (Y.load1 Try.underlying31 rfl rfl ((hB8.cell 0).trans rfl)) ?_
      refine WL.y rfl (Y.move) ?_
      refine WL.y rfl (Y.eqi rfl rfl) ?_
      refine WL.nil ?_
      refine WC.condD rfl (fun hc => ?_) (fun hc => ?_)
      · refine WC.region rfl ?_
        refine WL.y rfl (Y.move) ?_
        refine WL.y rfl (Y.add64 rfl rfl (by omega)) ?_
        refine WL.y rfl (Y.assign) ?_
        refine WL.nil (inBlockQ.normal (thenQ.normal ?_))
        refine WC.region rfl ?_
        refine WL.y rfl (Y.add64 rfl rfl (by omega)) ?_
        refine WL.y rfl (Y.move) ?_
        refine WL.nil (thenQ.normal ?_)
        refine ⟨k + 1, by omega, by omega, rfl, k8, _, ov_mk ⟨rfl, rfl, ?_, rfl, rfl, rfl, trivial⟩⟩
        rw [hct, if_pos hc]; rfl
      · refine WC.skip (inBlockQ.normal (thenQ.normal ?_))
        refine WC.region rfl ?_
        refine WL.y rfl (Y.add64 rfl rfl (by omega)) ?_
        refine WL.y rfl (Y.move) ?_
        refine WL.nil (thenQ.normal ?_)
        refine ⟨k + 1, by omega, by omega, rfl, k8, _, ov_mk ⟨rfl, rfl, ?_, rfl, rfl, rfl, trivial⟩⟩
        rw [hct, if_neg hc]; rfl
    · have hkl : k = ps.length := by omega
      subst hkl
      refine WC.exit (thenQ.exit (thenQ.exit (inBlockQ.hit (thenQ.normal ?_))))
      refine WC.seqR rfl ?_
      refine WL.y rfl (Y.move) ?_
      refine WL.y rfl (Y.assign) ?_
      refine WL.nil ?_
      refine WC.ret (endQ.one (.inr rfl) ?_)
      exact ⟨(show Value.int .i64 (cntS x ((ps.take ps.length).map Prod.fst) : Int) = _ by rw [List.take_length]), hb1⟩
theorem own_new {w w1 w2 : World} {B : Nat} {v : Value} {l : List UInt8} (h : Own w B v l) (hb : Below w.heap.size w w1) (hg : w1.grownBy w2 (some w.heap.size)) : Own w2 B v l :=
  World.ownsRow.kept (ownsRow_bel h hb) hg (.inr fun e => by have := (h.lt _ e).2; omega)
theorem all_nil (w : World) : Ret Try.prog 12 [.pointer none].toArray w fun v w' => v = .slice none 0 0 ∧ w = w' := by
  refine Ret.of (n := 31) (rs := #[.tmp 2]) Try.func12 rfl rfl rfl (by simp) ?_
  refine WC.seqR rfl ?_
  refine WL.y rfl (Y.assign) ?_
  refine WL.nil ?_
  refine WC.seq ?_
  refine WC.seqR rfl ?_
  refine WL.y rfl (Y.move) ?_
  refine WL.y rfl (Y.bT (Y.eqpn Try.underlying25 rfl rfl) (rfl)) ?_
  refine WL.nil ?_
  refine WC.condT (rfl) ?_
  refine WC.seqR rfl ?_
  refine WL.y rfl (Y.assign) ?_
  refine WL.nil ?_
  refine WC.ret (thenQ.ret (endQ.one (.inr rfl) ?_))
  exact ⟨rfl, rfl⟩
theorem all_ret (w : World) (M : Nat → Prop) (bn bl : Nat) (ps : List (LS × Value)) (h : NetAt w M bn bl ps) (hps : ps.length ≤ 1000000) : Ret Try.prog 12 [.pointer (some ⟨bn, 0, none⟩)].toArray w fun v w' => (∃ b qs, w.heap.size ≤ b ∧ OwnK w' b 36 3 v ps.length (flat qs) ∧ qs.map Prod.fst = ps.map Prod.fst ∧ ∀ q ∈ qs, ∃ B, b < B ∧ Own w' B q.2 q.1.bs) ∧ Below w.heap.size w w' := by
  obtain ⟨hMs, v, hB, ho, hm1, hm2, hl0⟩ := h
  have hmx : maxLen = 9223372036854775807 := rfl
  refine Ret.of (n := 31) (rs := #[.tmp 2]) Try.func12 rfl rfl rfl (by simp) ?_
  refine WC.seqR rfl ?_
  refine WL.y rfl (Y.assign) ?_
  refine WL.nil ?_
  refine WC.seq ?_
  refine WC.seqR rfl ?_
  refine WL.y rfl (Y.move) ?_
  refine WL.y rfl (Y.bF (Y.eqpn Try.underlying25 rfl rfl) (rfl)) ?_
  refine WL.nil ?_
  refine WC.condF (rfl) ?_
  refine WC.skip (thenQ.normal ?_)
  refine WC.seqR rfl ?_
  refine WL.y rfl (Y.move) ?_
  refine WL.y rfl (Y.nilCheck rfl) ?_
  refine WL.y rfl (Y.fieldAddr fi28f0 ti26 (by decide) rfl (rfl) _) ?_
  refine WL.y rfl (Y.load1 Try.underlying26 rfl rfl (hB.one)) ?_
  refine WL.y rfl (Y.lenSl Try.underlying26 (ho.sl) _) ?_
  refine WL.eex rfl (E.makeK (enc := encL) (n := ps.length) zeroL encL_len (by decide) rfl Try.underlying26 ti36 rfl rfl rfl (by omega) (by omega)) ?_
  rintro _ w13 ⟨rfl, ho13, hb13⟩
  have k13 := hb13
  refine WL.y rfl (Y.assign) ?_
  refine WL.nil ?_
  refine WC.seq ?_
  refine WC.seqR rfl ?_
  refine WL.y rfl (Y.move) ?_
  refine WL.y rfl (Y.nilCheck rfl) ?_
  refine WL.y rfl (Y.fieldAddr fi28f0 ti26 (by decide) rfl (rfl) _) ?_
  refine WL.y rfl (Y.load1 Try.underlying26 rfl rfl ((hB.bel hb13).one)) ?_
  refine WL.y rfl (Y.lenSl Try.underlying26 ((ho.bel hb13).sl) _) ?_
  refine WL.y rfl (Y.move) ?_
  refine WL.nil ?_
  refine WC.block ?_
  have hlt13' : w.heap.size < w13.heap.size := by
    rcases ho13.2 with ⟨h, _⟩ | ⟨_, _, _, _, hb, _⟩
    · cases h
    · exact (Array.getElem?_eq_some_iff.1 hb).1
  have hfix : ∀ k, k ≤ ps.length → (ps.take k ++ List.replicate (ps.length - k) zeroL).length = ps.length := fun k hk => by simp; omega
  refine WC.loop (fun k => ps.length - k) (fun k f ds w' => k ≤ ps.length ∧ ds = [] ∧ Below w.heap.size w w' ∧ (∃ qs : List (LS × Value), qs.length = k ∧ OwnK w' w.heap.size 36 3 (.slice (some ⟨w.heap.size, 0, none⟩) ps.length ps.length) ps.length (flat (qs ++ List.replicate (ps.length - k) zeroL)) ∧ qs.map Prod.fst = (ps.take k).map Prod.fst ∧ ∀ q ∈ qs, Own w' w13.heap.size q.2 q.1.bs) ∧ w13.heap.size ≤ w'.heap.size ∧ ∃ J, f = ov J [(3, .slice (some ⟨w.heap.size, 0, none⟩) ps.length ps.length), (17, v), (18, .int .i64 (ps.length : Int)), (19, .int .i64 (k : Int))]) 0 ?_ ?_
  · exact ⟨by omega, rfl, hb13, ⟨[], rfl, ho13, by simp, by simp⟩, Nat.le_refl _, _, ov_mk ⟨rfl, rfl, rfl, rfl, trivial⟩⟩
  · rintro k _ _ w1 ⟨hk, rfl, hb1, ⟨qs, hql, hoq, hqm, hqo⟩, hsz, J, rfl⟩
    refine WC.seqR rfl ?_
    refine WL.y rfl (Y.lss rfl rfl) ?_
    refine WL.nil ?_
    refine WC.seq ?_
    refine WC.condD rfl (fun hlt => ?_) (fun hlt => ?_)
    · have hkl : k < ps.length := by omega
      have hlk := hl0 ps[k] (List.getElem_mem hkl)
      have hgd : ps.getD k zeroL = ps[k] := by simp [hkl]
      have hln : (qs ++ List.replicate (ps.length - k) zeroL).length = ps.length := by simp; omega
      have hrep : List.replicate (ps.length - k) zeroL = zeroL :: List.replicate (ps.length - (k + 1)) zeroL := by rw [← List.replicate_succ]; congr 1; omega
      have hset : ∀ p, (qs ++ List.replicate (ps.length - k) zeroL).set k p = (qs ++ [p]) ++ List.replicate (ps.length - (k + 1)) zeroL := by
        intro p
        rw [hrep, ← hql, List.set_append_right _ _ (Nat.le_refl _), Nat.sub_self]
        simp
      refine WC.skip (thenQ.normal ?_)
      refine WC.seq ?_
      refine WC.block ?_
      refine WC.seqR rfl ?_
      refine WL.y rfl (Y.move) ?_
      refine WL.yex rfl (Y.idxF (enc := encL) zeroL encL_len (by decide) Try.underlying26 ti36 (ho.sl.bel hb1) rfl (by omega) (by omega)) ?_
      rintro _ ⟨b22, o22, rfl, hc22⟩
      simp only [Int.toNat_natCast, hgd] at hc22
      refine WL.y rfl (Y.loadN Try.underlying36 rfl ti36 rfl (hc22)) ?_
      refine WL.eex rfl (E.allocX ti36) ?_
      rintro _ w5 ⟨rfl, hB5, hb5⟩
      have k5 := Below.step hb1 hb5
      refine WL.y rfl (Y.assign) ?_
      refine WL.eex rfl (E.storeAll (us := encL ps[k]) ti36 rfl rfl (one_enc hlk.1.one) hB5 rfl) ?_
      rintro _ w6 ⟨hB6, hg6⟩
      have k6 : Below w.heap.size w w6 := k5.trans (below_of_grown hg6 k5.size (fun k e => by cases e; exact hb1.size))
      refine WL.nil ?_
      refine WC.region rfl ?_
      refine WL.y rfl (Y.move) ?_
      refine WL.y rfl (Y.move) ?_
      refine WL.y rfl (Y.loadN Try.underlying36 rfl ti36 rfl (hB6.cells)) ?_
      refine WL.call rfl (C.func go29) (told_ret _ ps[k].1 ps[k].2 (hlk.1.sl.bel k6) hlk.2) ?_
      rintro _ w27 ⟨⟨fv, rfl, ho27⟩, hb27⟩
      have k27 := Below.step k6 hb27
      have hw13 := hb13.size
      have h5s := hb5.size
      have h6s := hg6.size
      have hlt5 : w.heap.size < w1.heap.size := (hoq.form (by omega)).choose_spec.choose_spec.2.2.2
      have hoq27 := (((hoq.bel hb5).kept (Kept.of_grown (M := fun b => b = w1.heap.size) hg6 rfl) (by omega)).bel hb27)
      refine WL.y rfl (Y.idxV Try.underlying26 ti36 rfl rfl (by omega) (by omega) _) ?_
      refine WL.eex rfl (E.storeK (i := k) (us := encL (ps[k].1, fv)) ti36 rfl rfl rfl (one_enc ho27.bs.one) hoq27 (by omega) rfl) ?_
      rintro _ w28 ⟨ho28, hg28⟩
      refine WL.nil (inBlockQ.normal (thenQ.normal ?_))
      refine WC.region rfl ?_
      refine WL.y rfl (Y.add64 rfl rfl (by omega)) ?_
      refine WL.y rfl (Y.move) ?_
      refine WL.nil (thenQ.normal ?_)
      have k28 : Below w.heap.size w w28 := k27.trans (below_of_grown hg28 k27.size (fun k e => by cases e; omega))
      rw [flat_st _ k _ (by omega), hset] at ho28
      have hlt13 : w.heap.size < w13.heap.size := (ho13.form (by omega)).choose_spec.choose_spec.2.2.2
      refine ⟨k + 1, by omega, by omega, rfl, k28, ⟨_, by simp [hql], ho28, ?_, ?_⟩, Nat.le_trans hsz (by have := hb27.size; have := hg28.size; omega), _, ov_mk ⟨rfl, rfl, rfl, rfl, trivial⟩⟩
      · rw [List.map_append, hqm, List.take_succ_eq_append_getElem hkl, List.map_append]; rfl
      · intro q hq
        rcases List.mem_append.1 hq with hq | hq
        · exact own_grown ((own_new (hqo q hq) hb5 hg6).bel hb27) hg28 hlt13
        · obtain rfl : q = (ps[k].1, fv) := by simpa using hq
          exact ownsRow_mono (own_grown ho27 hg28 (by omega)) (by omega)
    · have hkl : k = ps.length := by omega
      subst hkl
      rw [Nat.sub_self, List.replicate_zero, List.append_nil] at hoq
      rw [List.take_length] at hqm
      refine WC.exit (thenQ.exit (thenQ.exit (inBlockQ.hit (thenQ.normal ?_))))
      refine WC.seqR rfl ?_
      refine WL.y rfl (Y.move) ?_
      refine WL.y rfl (Y.assign) ?_
      refine WL.nil ?_
      refine WC.ret (endQ.one (.inr rfl) ?_)
      exact ⟨⟨w.heap.size, qs, Nat.le_refl _, hoq, hqm, fun q hq => ⟨w13.heap.size, hlt13', hqo q hq⟩⟩, hb1⟩
theorem cloneL_ret (w : World) (v : Value) (ps : List (LS × Value)) (hs : SlK w 3 v ps.length (flat ps)) (hone : ∀ u ∈ flat ps, One u = true) (hps : ps.length ≤ 1000000) :
    Ret Try.prog 42 [v].toArray w fun v' w' => (∃ b, w.heap.size ≤ b ∧ OwnK w' b 36 3 v' ps.length (flat ps)) ∧ Below w.heap.size w w' := by
  have hmx : maxLen = 9223372036854775807 := rfl
  have hs' := hs
  obtain ⟨hl, hm, a, cap, rfl, hn, hcm, hc⟩ := hs'
  cases a with
  | none =>
    have h0 : ps = [] := by
      cases ps with
      | nil => rfl
      | cons p ps => obtain ⟨b, o, ha, _⟩ := hc 0 (.int .u64 p.1.to) rfl; cases ha
    subst h0
    refine Ret.of (n := 8) (rs := #[.tmp 2]) Try.func42 rfl rfl rfl (by simp) ?_
    refine WC.seqR rfl ?_
    refine WL.y rfl (Y.assign) ?_
    refine WL.nil ?_
    refine WC.seq ?_
    refine WC.seqR rfl ?_
    refine WL.y rfl (Y.move) ?_
    refine WL.y rfl (Y.eqsn Try.underlying26 rfl rfl) ?_
    refine WL.nil ?_
    refine WC.condT (rfl) ?_
    refine WC.seqR rfl ?_
    refine WL.y rfl (Y.assign) ?_
    refine WL.nil ?_
    refine WC.ret (thenQ.ret (endQ.one (.inr rfl) ?_))
    exact ⟨⟨w.heap.size, Nat.le_refl _, OwnK.nil⟩, Below.refl _ _⟩
  | some a =>
    refine Ret.of (n := 8) (rs := #[.tmp 2]) Try.func42 rfl rfl rfl (by simp) ?_
    refine WC.seqR rfl ?_
    refine WL.y rfl (Y.assign) ?_
    refine WL.nil ?_
    refine WC.seq ?_
    refine WC.seqR rfl ?_
    refine WL.y rfl (Y.move) ?_
    refine WL.y rfl (Y.eqsn Try.underlying26 rfl rfl) ?_
    refine WL.nil ?_
    refine WC.condF (rfl) ?_
    refine WC.skip (thenQ.normal ?_)
    refine WC.seqR rfl ?_
    refine WL.eex rfl (E.build0 Try.underlying26 ti36) ?_
    rintro v5 w5 ⟨ho5, hb5⟩
    refine WL.y rfl (Y.move) ?_
    refine WL.eex rfl (E.append Try.underlying26 ti36 rfl (by decide) ho5 (hs.bel hb5) hone (by omega) (by omega) hb5.size) ?_
    rintro v7 w7 ⟨ho7, hb7, -⟩
    refine WL.y rfl (Y.assign) ?_
    refine WL.nil ?_
    refine WC.ret (endQ.one (.inr rfl) ?_)
    rw [Nat.zero_add, List.nil_append] at ho7
    obtain ⟨b, hb, hO⟩ := OwnK.of_own ho7
    exact ⟨⟨b, hb, hO⟩, hb5.trans hb7⟩
theorem copy_nil (w : World) : Ret Try.prog 26 [.pointer none].toArray w fun v w' => v = .pointer none ∧ w = w' := by
  refine Ret.of (n := 12) (rs := #[.tmp 2]) Try.func26 rfl rfl rfl (by simp) ?_
  refine WC.seqR rfl ?_
  refine WL.y rfl (Y.assign) ?_
  refine WL.nil ?_
  refine WC.seq ?_
  refine WC.seqR rfl ?_
  refine WL.y rfl (Y.move) ?_
  refine WL.y rfl (Y.bT (Y.eqpn Try.underlying25 rfl rfl) (rfl)) ?_
  refine WL.nil ?_
  refine WC.condT (rfl) ?_
  refine WC.seqR rfl ?_
  refine WL.y rfl (Y.assign) ?_
  refine WL.nil ?_
  refine WC.ret (thenQ.ret (endQ.one (.inr rfl) ?_))
  exact ⟨rfl, rfl⟩
theorem copy_ret (w : World) (M : Nat → Prop) (bn bl : Nat) (ps : List (LS × Value)) (h : NetAt w M bn bl ps) (hps : ps.length ≤ 1000000) : Ret Try.prog 26 [.pointer (some ⟨bn, 0, none⟩)].toArray w fun v w' => (∃ b b2, v = .pointer (some ⟨b, 0, none⟩) ∧ w.heap.size ≤ b ∧ w.heap.size ≤ b2 ∧ b < w'.heap.size ∧ b2 < w'.heap.size ∧ NetAt w' (fun k => M k ∨ k = b ∨ k = b2) b b2 ps) ∧ Below w.heap.size w w' := by
  obtain ⟨hMs, v, hB, ho, hm1, hm2, hl0⟩ := h
  refine Ret.of (n := 12) (rs := #[.tmp 2]) Try.func26 rfl rfl rfl (by simp) ?_
  refine WC.seqR rfl ?_
  refine WL.y rfl (Y.assign) ?_
  refine WL.nil ?_
  refine WC.seq ?_
  refine WC.seqR rfl ?_
  refine WL.y rfl (Y.move) ?_
  refine WL.y rfl (Y.bF (Y.eqpn Try.underlying25 rfl rfl) (rfl)) ?_
  refine WL.nil ?_
  refine WC.condF (rfl) ?_
  refine WC.skip (thenQ.normal ?_)
  refine WC.seqR rfl ?_
  refine WL.y rfl (Y.move) ?_
  refine WL.y rfl (Y.nilCheck rfl) ?_
  refine WL.y rfl (Y.fieldAddr fi28f0 ti26 (by decide) rfl (rfl) _) ?_
  refine WL.y rfl (Y.load1 Try.underlying26 rfl rfl (hB.one)) ?_
  refine WL.call rfl (C.func go42) (cloneL_ret _ v ps ho.sl (encL_one hl0) hps) ?_
  rintro v9 w9 ⟨⟨b9, hb9l, ho9⟩, hb9⟩
  have k9 := hb9
  obtain ⟨a9, c9, rfl⟩ : ∃ a c, v9 = .slice a ps.length c := by obtain ⟨_, _, a, c, h, _⟩ := ho9.sl; exact ⟨a, c, h⟩
  refine WL.y rfl (Y.build (cells := #[.slice a9 ps.length c9]) (by kernel_rfl) _) ?_
  refine WL.eex rfl (E.boxX) ?_
  rintro _ w11 ⟨rfl, hB11, hb11⟩
  have k11 := Below.step k9 hb11
  refine WL.y rfl (Y.assign) ?_
  refine WL.nil ?_
  refine WC.ret (endQ.one (.inr rfl) ?_)
  have h9s := hb9.size
  have hlt := hB11.lt
  have hex : ∃ b2, w.heap.size ≤ b2 ∧ b2 < w11.heap.size ∧ OwnK w11 b2 36 3 (.slice a9 ps.length c9) ps.length (flat ps) := by
    by_cases h0 : 0 < ps.length
    · obtain ⟨_, _, _, _, _, h8⟩ := ho9.form h0
      exact ⟨b9, hb9l, by have := hb11.size; omega, ho9.bel hb11⟩
    · rcases ho9.2 with ⟨hv, hn⟩ | ⟨o, cap, cur, hv, hb, _⟩
      · exact ⟨w9.heap.size, h9s, hlt, (ho9.bel hb11).1, .inl ⟨hv, hn⟩⟩
      · exact ⟨b9, hb9l, by have := (Array.getElem?_eq_some_iff.1 hb).1; have := hb11.size; omega, ho9.bel hb11⟩
  obtain ⟨b2, hb2l, hb2h, hO⟩ := hex
  refine ⟨⟨w9.heap.size, b2, rfl, h9s, hb2l, hlt, hb2h, fun k hk => ?_, _, hB11, hO, .inr (.inl rfl), .inr (.inr rfl), ?_⟩, k11⟩
  · rcases hk with hk | rfl | rfl
    · have := hMs k hk; have := hb11.size; omega
    · exact hlt
    · exact hb2h
  · exact (hl0.mono (fun b hb hs => by rcases hb with hb | hb | hb; exact hb; omega; omega)).kept (Kept.of_bel (M := fun _ => False) k11) (fun _ m => m.elim)
end Go.Proofs.Ytjlclaimpepgiaa
