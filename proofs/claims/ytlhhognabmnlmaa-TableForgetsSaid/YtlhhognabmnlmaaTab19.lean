/-
  maps.Keys over a map, slices.AppendSeq, slices.Collect, slices.Sort, slices.Sorted at uint64: walks.
-/
import Derived.Test.YtlhhognabmnlmaaTab17
import Derived.Test.YtlhhognabmnlmaaSrt8
namespace Go.Proofs.Ytlhhognabmnlmaa
open Go Go.RowKit Go.Cx
set_option linter.unusedVariables false
set_option maxHeartbeats 8000000
set_option maxRecDepth 20000
open Go.Sort
/-- what a range over the keys wants of the rounds: maps from before n, and iterators, stay -/
def KeepM (n : Nat) (W W' : World) : Prop := ∀ k o, W.heap[k]? = some o → ((k < n ∧ o.isCells = false) ∨ o.isWalk = true) → W'.heap[k]? = some o
theorem KeepM.trans {n : Nat} {A B C : World} (h : KeepM n A B) (k : KeepM n B C) : KeepM n A C := fun i o hi ho => k i o (h i o hi ho) ho
theorem KeepM.of {n : Nat} {W W' : World} (h : KeepsOthers W W') : KeepM n W W' := fun k o hk ho => h.same k o hk (by
  rcases ho with ho | ho
  · exact ho.2
  · cases o <;> first | rfl | (simp [Obj.isWalk] at ho))
theorem KeepM.put {n : Nat} {w W : World} (hn : n ≤ w.heap.size) (l : Nat) (o o' : Obj) (hl : w.heap.size ≤ l) (h : W.heap[l]? = some o) (h1 : o.isCells = false) (h2 : o.isWalk = false) : KeepM n W (W.putObj l o') := fun k o2 hk ho => by
  by_cases e : k = l
  · subst e
    rw [h] at hk
    cases hk
    rcases ho with ho | ho
    · omega
    · rw [h2] at ho; cases ho
  · exact (World.putObj_heap_other e).trans hk
theorem iter_keepM {n : Nat} {w w' : World} {r mb : Nat} {left : List (Int × Value)} (h : IterAt ku w r (some mb) left) (hk : KeepM n w w') (hm : mb < n) : IterAt ku w' r (some mb) left := by
  rcases h with ⟨h0, _⟩ | ⟨b, es, clock, since, seen, c0, h0, h, h1, h2⟩
  · cases h0
  · cases h0
    exact .inr ⟨mb, es, clock, since, seen, c0, rfl, hk _ _ h (.inr rfl), ⟨hk _ _ h1.blk (.inl ⟨hm, rfl⟩), h1.nd, h1.lt⟩, h2⟩
theorem iter_walk {w : World} {r : Nat} {bo : Option Nat} {left : List (Int × Value)} (h : IterAt ku w r bo left) : ∃ o : Obj, w.heap[r]? = some o ∧ o.isWalk = true := by
  have hqq := iter_obj h
  obtain ⟨a, b, c, d, h⟩ := hqq
  exact ⟨_, h, rfl⟩
theorem keys_seq (b1 mb : Nat) (m : List (Int × Value)) (w : World) (hB : Blk w b1 24 [.map (some mb)]) (hm : MapN ku w mb m) : SeqW Try.prog 42 [.pointer (some ⟨b1, 0, none⟩)] (fun a : Int => [ku a]) (KeepM w.heap.size) (fun xs => xs.Perm (m.map Prod.fst)) (fun _ => True) m.length w := by
  intro ll J Jx W hb hJ hJx hy h0
  have hml := hm.lt
  have sW := hb.size
  refine Ret.of (n := 14) (rs := #[]) Try.func42 rfl rfl rfl (by simp) ?_
  refine WC.seqR rfl ?_
  refine WL.y rfl (Y.load1 Try.underlying24 rfl rfl ((hB.bel hb).cell 0)) ?_
  refine WL.eex rfl (E.rangeN (kv := ku) Try.underlying24 rfl (hm.bel hb)) ?_
  rintro _ w5 ⟨rfl, hit5, hb5⟩
  refine WL.nil ?_
  refine WC.block ?_
  have hj5 : J [] w5 := hJ _ _ _ none h0 (grownBy_of_below hb5) (fun r e => by cases e)
  refine WC.loop (S := List Int × List (Int × Value)) (fun q => q.2.length) (fun q f ds w' => ∃ pre left, q = (pre, left) ∧ (pre ++ left.map Prod.fst).Perm (m.map Prod.fst) ∧ ds = [] ∧ J pre w' ∧ IterAt ku w' W.heap.size (some mb) left ∧ ∃ J, f = Go.Cx.ov J [(0, .func (.yield ll) #[] #[]), (5, .pointer (some ⟨W.heap.size, 0, none⟩))]) ([], m) ?_ ?_
  · exact ⟨[], m, rfl, List.Perm.refl _, rfl, hj5, hit5, _, ov_mk ⟨rfl, rfl, trivial⟩⟩
  · rintro _ _ _ wL ⟨pre, left, rfl, hp, rfl, hj, hit, J', rfl⟩
    by_cases c : left = []
    · subst c
      refine WC.seqR rfl ?_
      refine WL.eex rfl (E.nextEnd rfl hit) ?_
      rintro _ _ ⟨rfl, rfl⟩
      refine WL.y rfl (Y.extract rfl rfl) ?_
      refine WL.nil ?_
      refine WC.seq ?_
      refine WC.condF (rfl) ?_
      refine WC.exit (thenQ.exit (thenQ.exit (inBlockQ.hit (endQ.zero (.inl rfl) ?_))))
      rw [List.map_nil, List.append_nil] at hp
      exact .inl ⟨pre, hp, hj⟩
    · have hlen := hp.length_eq
      rw [List.length_append, List.length_map, List.length_map] at hlen
      have hpos := List.length_pos_iff.2 c
      have hqq := iter_walk hit
      obtain ⟨oi, hoi, hwi⟩ := hqq
      skip
      refine WC.seqR rfl ?_
      refine WL.eex rfl (E.nextOne rfl hit c) ?_
      rintro _ w6 ⟨l1, a, u, l2, rfl, hl, hit6, hie6, hg6⟩
      refine WL.y rfl (Y.extract rfl rfl) ?_
      refine WL.nil ?_
      refine WC.seq ?_
      refine WC.condT (rfl) ?_
      refine WC.skip (thenQ.normal ?_)
      refine WC.block ?_
      refine WC.seqR rfl ?_
      refine WL.y rfl (Y.entryN rfl hie6) ?_
      refine WL.y rfl (Y.extract rfl rfl) ?_
      refine WL.y rfl (Y.assign) ?_
      refine WL.nil ?_
      refine WC.seqR rfl ?_
      refine WL.y rfl (Y.move) ?_
      refine WL.y rfl (Y.move) ?_
      refine WL.yield rfl rfl (hy pre a w6 (hJ _ _ _ _ hj hg6 (fun r e => by cases e; exact ⟨Nat.le_refl _, _, hoi, hwi⟩)) (by omega)) ?_
      rintro b w12 hR
      refine WL.y rfl (Y.not rfl) ?_
      refine WL.nil ?_
      refine WC.cond rfl (fun hbb => ?_) (fun hbb => ?_)
      · refine WC.ret (inBlockQ.ret (thenQ.ret (inBlockQ.ret (endQ.zero (.inr rfl) ?_))))
        rcases hR with ⟨rfl, _⟩ | ⟨rfl, hjx⟩
        · cases hbb
        · exact .inr ⟨_, trivial, hjx⟩
      · refine WC.skip (inBlockQ.normal (thenQ.normal ?_))
        rcases hR with ⟨rfl, hj2, hk⟩ | ⟨rfl, _⟩
        · refine ⟨(pre ++ [a], l1 ++ l2), ?_, pre ++ [a], l1 ++ l2, rfl, ?_, rfl, hj2, iter_keepM hit6 hk hml, _, ov_mk ⟨rfl, rfl, trivial⟩⟩
          · show (l1 ++ l2).length < left.length
            rw [hl]; simp
          · refine List.Perm.trans ?_ hp
            rw [hl, List.append_assoc]
            refine List.Perm.append_left _ ?_
            rw [List.map_append, List.map_append, List.map_cons]
            exact (List.perm_middle (a := a) (l₁ := l1.map Prod.fst) (l₂ := l2.map Prod.fst)).symm
        · cases hbb
theorem Blk.nc {W W' : World} {b : Nat} {t : TypeId} {vs : List Value} {row : Option Nat} (h : Blk W b t vs) (hg : W.grownBy W' row) (hr : ∀ r, row = some r → ∃ o : Obj, W.heap[r]? = some o ∧ o.isCells = false) : Blk W' b t vs :=
  h.grownR hg (fun r e e2 => by
    subst e2
    have hqq := hr _ e
    obtain ⟨o, h1, h2⟩ := hqq
    unfold Blk at h
    rw [h] at h1
    cases h1
    cases h2)
theorem ownK_nc {W W' : World} {bl k n : Nat} {t : TypeId} {v : Value} {xs : List Value} {row : Option Nat} (h : OwnK W bl t k v n xs) (hg : W.grownBy W' row) (hr : ∀ r, row = some r → ∃ o : Obj, W.heap[r]? = some o ∧ o.isCells = false) : OwnK W' bl t k v n xs := by
  refine h.keptR hg ?_
  rcases h.2 with ⟨rfl, _⟩ | ⟨o, cap, cur, rfl, hb, _⟩
  · exact .inl rfl
  · refine .inr (fun e => ?_)
    have hqq := hr bl e.symm
    obtain ⟨o', h1, h2⟩ := hqq
    rw [hb] at h1
    cases h1
    cases h2
/-- what has been appended: in the boxed slice X -/
def ApI (w : World) (X : Nat) (xs : List Int) (W : World) : Prop := ∃ v bl, Blk W X 37 [v] ∧ X < bl ∧ OwnK W bl 22 1 v xs.length (xs.map ku) ∧ Below w.heap.size w W
theorem ApI.own {w : World} {X B : Nat} (hB : w.heap.size ≤ B) : OwnFrom B (ApI w X) := fun xs W W' row ⟨v, bl, h1, h2, h3, h4⟩ hg hr =>
  ⟨v, bl, Blk.nc h1 hg (fun r e => (hr r e).2), h2, ownK_nc h3 hg (fun r e => (hr r e).2), h4.grown hg h4.size (fun k e => Nat.le_trans hB (hr k e).1)⟩
theorem one_ku (x : Int) : ∀ u ∈ [ku x], One u = true := by simp [ku, Go.Cx.One]
theorem own_cells {W : World} {bl n : Nat} {t : TypeId} {v : Value} {xs : List Value} (h : OwnK W bl t 1 v n xs) : One v = true := by
  rcases h.2 with ⟨rfl, _⟩ | ⟨o, cap, cur, rfl, _⟩ <;> rfl
theorem keeps_own {W W' : World} {bl k n : Nat} {t : TypeId} {v : Value} {xs : List Value} (h : OwnK W bl t k v n xs) (hg : W.grownBy W' v.ownBlock) : KeepsOthers W W' :=
  KeepsOthers.of_grownBy hg (fun j o e ho => by
    rcases h.2 with ⟨rfl, _⟩ | ⟨o, cap, cur, rfl, hb, _⟩
    · cases e
    · cases e
      rw [hb] at ho
      cases ho
      rfl)
theorem aseq_ret (b1 mb : Nat) (m : List (Int × Value)) (w : World) (hB : Blk w b1 24 [.map (some mb)]) (hm : MapN ku w mb m) (hlen : m.length ≤ 50000) : Ret Try.prog 43 [.slice none 0 0, .func (.func 42) #[] #[.pointer (some ⟨b1, 0, none⟩)]].toArray w fun v w' => ∃ (xs : List Int) (bl : Nat), xs.Perm (m.map Prod.fst) ∧ w.heap.size ≤ bl ∧ OwnK w' bl 22 1 v xs.length (xs.map ku) ∧ Below w.heap.size w w' := by
  have hmx : maxLen = 9223372036854775807 := rfl
  refine Ret.ofM (n := 13) (rs := #[.tmp 4]) Try.func43 rfl rfl rfl (by simp) ?_
  refine WC.seqR rfl ?_
  refine WL.eex rfl (E.boxX) ?_
  rintro _ w2 ⟨rfl, hB2, hb2⟩
  refine WL.y rfl (Y.assign) ?_
  refine WL.nil ?_
  refine WC.seq ?_
  refine WC.seqR rfl ?_
  refine WL.y rfl (Y.move) ?_
  refine WL.nil ?_
  refine WC.block ?_
  have hX : Blk w2 w.heap.size 37 [.slice none 0 0] := hB2
  have lX := hX.lt
  refine WC.rangeFunc (gf := 42) (lb := [.pointer (some ⟨b1, 0, none⟩)]) (ps := [7]) rfl go42 (keys_seq b1 mb m w2 (hB.bel hb2) (hm.bel hb2)) (fun h k => h.trans k) (fun W l o o' hl h h1 h2 => KeepM.put (Nat.le_refl _) l o o' hl h h1 h2) (Below.refl _ _) (fun _ => rfl) rfl
    (ApI w w.heap.size) (fun _ _ _ => False)
    (ApI.own hb2.size) (fun _ _ _ _ _ h _ _ => h)
    ⟨_, w.heap.size + 1, hX, Nat.lt_succ_self _, OwnK.nil, hb2⟩ (fun x f => upd (upd f 7 (ku x)) 5 (ku x)) ?_ ?_ ?_ ?_
  · intro ll x W
    refine WC.region rfl ?_
    refine WL.y rfl (Y.assign) ?_
    refine WL.nil ?_
    exact ⟨rfl, rfl, rfl, rfl⟩
  · rintro ll pre x W ⟨v, bl, hXW, hbl, ho, hbW⟩ hN
    have e1 : (pre ++ [x]).length = pre.length + 1 := by simp
    have e2 : (pre ++ [x]).map ku = pre.map ku ++ [ku x] := by simp
    refine WC.block ?_
    refine WC.region rfl ?_
    refine WL.y rfl (Y.load1 Try.underlying37 rfl rfl (hXW.one)) ?_
    refine WL.y rfl (Y.move) ?_
    refine WL.eex rfl (E.build1 Try.underlying37 ti22 rfl rfl rfl) ?_
    rintro v10 w10 ⟨hs10, hb10, _⟩
    refine WL.eex rfl (E.appendK (news := [ku x]) Try.underlying37 Try.underlying37 ti22 rfl (by decide) (ho.bel hb10) hs10 (one_ku x) (by omega) (by omega)) ?_
    rintro v11 w11 ⟨⟨bl', ho11, hbl'⟩, hg11⟩
    have hg11' : w10.grownBy w11 v.ownBlock := hg11
    have hX11 : Blk w11 w.heap.size 37 [v] := (hXW.bel hb10).grownR hg11' (fun r e e2 => by subst e2; rcases ho.own with h | h <;> rw [h] at e <;> cases e; omega)
    refine WL.eex rfl (E.storeX (u := v11) ti37 rfl rfl (own_cells ho11) hX11 Nat.one_pos) ?_
    rintro _ wS ⟨hBS, hgS, -⟩
    refine WL.nil (inBlockQ.normal ?_)
    have sW := hb10.size
    have lXW := hXW.lt
    have hblX : w.heap.size < bl' := by rcases hbl' with rfl | h <;> omega
    refine ⟨((keeps_below hb10).trans (keeps_own (ho.bel hb10) hg11')).trans (keeps_grown hX11 hgS), KeepM.of (((keeps_below hb10).trans (keeps_own (ho.bel hb10) hg11')).trans (keeps_grown hX11 hgS)), v11, bl', hBS, hblX, ?_, ?_⟩
    · rw [e1, e2]
      exact ho11.keptR hgS (by rcases ho11.own with h | h <;> rw [h]; exact .inl rfl; exact .inr (fun e => by cases e; omega))
    · have h1 := Below.step hbW hb10
      have h2 : Below w.heap.size w w11 := h1.grown hg11' h1.size (fun k e => by rcases ho.own with h | h <;> rw [h] at e <;> cases e; omega)
      exact h2.grown hgS h2.size (fun k e => by cases e; omega)
  · rintro D xs W hD hS ⟨v, bl, hXW, hbl, ho, hbW⟩ hK
    refine (inBlockQ.normal (thenQ.normal ?_))
    refine WC.seqR rfl ?_
    refine WL.y rfl (Y.load1 Try.underlying37 rfl rfl (hXW.one)) ?_
    refine WL.y rfl (Y.assign) ?_
    refine WL.nil ?_
    refine WC.ret (endQM.mark1 (.inr rfl) hK ?_)
    refine ⟨xs, bl, hS, by omega, ?_, below_putObj hbW (by omega)⟩
    exact ownK_nc ho (W' := W.putObj D (.deferred none)) ⟨rfl, rfl, rfl, by simp [World.putObj], fun k _ hne => World.putObj_heap_other (fun e => hne (by rw [e]))⟩ (fun r e => by cases e; exact ⟨_, hK, rfl⟩)
  · rintro D c pre W _ _ h
    exact h.elim
theorem coll_ret (b1 mb : Nat) (m : List (Int × Value)) (w : World) (hB : Blk w b1 24 [.map (some mb)]) (hm : MapN ku w mb m) (hlen : m.length ≤ 50000) : Ret Try.prog 40 [.func (.func 42) #[] #[.pointer (some ⟨b1, 0, none⟩)]].toArray w fun v w' => ∃ (xs : List Int) (bl : Nat), xs.Perm (m.map Prod.fst) ∧ w.heap.size ≤ bl ∧ OwnK w' bl 22 1 v xs.length (xs.map ku) ∧ Below w.heap.size w w' := by
  refine Ret.of (n := 5) (rs := #[.tmp 2]) Try.func40 rfl rfl rfl (by simp) ?_
  refine WC.seqR rfl ?_
  refine WL.y rfl (Y.assign) ?_
  refine WL.nil ?_
  refine WC.seqR rfl ?_
  refine WL.y rfl (Y.move) ?_
  refine WL.call rfl (C.func go43) (aseq_ret b1 mb m _ hB hm hlen) ?_
  rintro v4 w4 hR4
  refine WL.y rfl (Y.assign) ?_
  refine WL.nil ?_
  refine WC.ret (endQ.one (.inr rfl) ?_)
  exact hR4
theorem sort_ret {w : World} {bl : Nat} {v : Value} (xs : List Int) (h : OwnK w bl 22 1 v xs.length (xs.map ku)) (hlen : xs.length ≤ 50000) : Ret Try.prog 41 [v].toArray w fun _ w' => OwnK w' bl 22 1 v xs.length ((xs.mergeSort (fun x y => decide (x ≤ y))).map ku) ∧ Kept (fun x => x = bl) w w' := by
  by_cases c : xs.length = 0
  · have e : xs = [] := List.eq_nil_of_length_eq_zero c
    subst e
    have hv : v = .slice none 0 0 ∨ ∃ o cap, v = .slice (some ⟨bl, o, none⟩) 0 cap := by
      rcases h.2 with h | ⟨o, cap, cur, hv, _⟩
      · exact .inl h.1
      · exact .inr ⟨o, cap, hv⟩
    have em : ([] : List Int).mergeSort (fun x y => decide (x ≤ y)) = [] := by simp
    rw [em]
    have hs := h.sl
    have h' : OwnK w bl 22 1 v 0 [] := h
    rcases hv with rfl | ⟨o, cap, rfl⟩
    · exact (sort0 w).mono fun _ w' e => by subst e; exact ⟨h, Kept.refl _ _⟩
    · have hSR : SR w bl o 0 cap #[] := ⟨rfl, h'⟩
      refine Ret.of (n := 11) (rs := #[]) Try.func41 rfl rfl rfl (by simp) ?_
      refine WC.seqR rfl ?_
      refine WL.y rfl (Y.move) ?_
      refine WL.y rfl (Y.lenSl Try.underlying37 (hs) _) ?_
      refine WL.y rfl (Y.assign) ?_
      refine WL.nil ?_
      refine WC.region rfl ?_
      refine WL.y rfl (Y.move) ?_
      refine WL.y rfl (Y.move) ?_
      refine WL.y rfl (Y.move) ?_
      refine WL.y rfl (Y.conviR Try.underlying3 Try.underlying80 rfl (by simp only [IntKind.min, IntKind.max, IntKind.signed, IntKind.bits]; omega)) ?_
      refine WL.call rfl (C.func go45) (len_ret _ 0 (by omega)) ?_
      rintro _ _ ⟨rfl, rfl⟩
      refine WL.call rfl (C.func go44) (pdq_ret (by omega) 0 0 0 0 rfl rfl rfl (by omega) hSR (by omega) (by omega) (by omega)) ?_
      rintro _ w10 ⟨h10, k10⟩
      refine WL.nil (endQ.zero (.inl rfl) ?_)
      have hd : (pdq ltI #[] 0 0 0 true true).size = 0 := h10.1
      have hd2 : pdq ltI #[] 0 0 0 true true = #[] := Array.eq_empty_of_size_eq_zero hd
      have h10' := h10.2
      rw [hd2] at h10'
      exact ⟨h10', k10⟩
  · have hqq := h.form (by omega)
    obtain ⟨o, cap, rfl, _, _, _⟩ := hqq
    have hSR : SR w bl o xs.length cap xs.toArray := ⟨by simp, by simpa using h⟩
    have hs := h.sl
    have h16 := bitsLen_16 (x := xs.length) (by omega)
    have hsrt : (pdq ltI xs.toArray 0 xs.length (bitsLen xs.length) true true).toList = xs.mergeSort (fun x y => decide (x ≤ y)) := by
      have := sortInt xs
      unfold Go.Sort.sort at this
      rw [List.size_toArray] at this
      exact this
    refine Ret.of (n := 11) (rs := #[]) Try.func41 rfl rfl rfl (by simp) ?_
    refine WC.seqR rfl ?_
    refine WL.y rfl (Y.move) ?_
    refine WL.y rfl (Y.lenSl Try.underlying37 (hs) _) ?_
    refine WL.y rfl (Y.assign) ?_
    refine WL.nil ?_
    refine WC.region rfl ?_
    refine WL.y rfl (Y.move) ?_
    refine WL.y rfl (Y.move) ?_
    refine WL.y rfl (Y.move) ?_
    refine WL.y rfl (Y.conviR Try.underlying3 Try.underlying80 rfl (by simp only [IntKind.min, IntKind.max, IntKind.signed, IntKind.bits]; omega)) ?_
    refine WL.call rfl (C.func go45) (len_ret _ xs.length (by omega)) ?_
    rintro _ _ ⟨rfl, rfl⟩
    refine WL.call rfl (C.func go44) (pdq_ret (by omega) xs.length 0 xs.length (bitsLen xs.length) rfl rfl rfl (by omega) hSR (by omega) (by omega) (by omega)) ?_
    rintro _ w10 ⟨h10, k10⟩
    refine WL.nil (endQ.zero (.inl rfl) ?_)
    have h10' := h10.2
    rw [hsrt] at h10'
    exact ⟨h10', k10⟩
theorem srt_lt {xs : List Int} (h : xs.Nodup) : (xs.mergeSort (fun x y => decide (x ≤ y))).Pairwise (fun a b => a < b) := by
  have h1 := List.pairwise_mergeSort (le := fun x y : Int => decide (x ≤ y)) (fun a b c h1 h2 => by simp at *; omega) (fun a b => by simp; omega) xs
  have h2 : (xs.mergeSort (fun x y => decide (x ≤ y))).Nodup := (List.mergeSort_perm xs _).nodup_iff.2 h
  refine (List.Pairwise.and h1 h2).imp ?_
  intro a b ⟨h3, h4⟩
  have : a ≤ b := by simpa using h3
  omega
theorem sorted_ret (b1 mb : Nat) (m : List (Int × Value)) (w : World) (hB : Blk w b1 24 [.map (some mb)]) (hm : MapN ku w mb m) (hlen : m.length ≤ 50000) (hnd : (m.map Prod.fst).Nodup) : Ret Try.prog 29 [.func (.func 42) #[] #[.pointer (some ⟨b1, 0, none⟩)]].toArray w fun v w' => ∃ ks : List Int, ks.Pairwise (fun a b => a < b) ∧ (∀ c, c ∈ ks ↔ c ∈ m.map Prod.fst) ∧ SlK w' 1 v ks.length (ks.map ku) ∧ Below w.heap.size w w' := by
  refine Ret.of (n := 9) (rs := #[.tmp 2]) Try.func29 rfl rfl rfl (by simp) ?_
  refine WC.seqR rfl ?_
  refine WL.y rfl (Y.assign) ?_
  refine WL.nil ?_
  refine WC.seqR rfl ?_
  refine WL.y rfl (Y.move) ?_
  refine WL.call rfl (C.func go40) (coll_ret b1 mb m _ hB hm hlen) ?_
  rintro v5 w5 ⟨xs, bl, hp, hbl, ho, hb5⟩
  refine WL.y rfl (Y.assign) ?_
  refine WL.nil ?_
  have hxl := hp.length_eq
  rw [List.length_map] at hxl
  refine WC.seqR rfl ?_
  refine WL.y rfl (Y.move) ?_
  refine WL.call rfl (C.func go41) (sort_ret xs ho (by omega)) ?_
  rintro _ w7 ⟨ho7, k7⟩
  refine WL.nil ?_
  refine WC.seqR rfl ?_
  refine WL.y rfl (Y.move) ?_
  refine WL.y rfl (Y.assign) ?_
  refine WL.nil ?_
  refine WC.ret (endQ.one (.inr rfl) ?_)
  have hml : (xs.mergeSort (fun x y => decide (x ≤ y))).length = xs.length := List.length_mergeSort _
  refine ⟨xs.mergeSort (fun x y => decide (x ≤ y)), srt_lt (hp.nodup_iff.2 hnd), fun c => ?_, ?_, hb5.trans (k7.below (B := w.heap.size) (fun x hx => by omega) hb5.size)⟩
  · rw [(List.mergeSort_perm xs _).mem_iff, hp.mem_iff]
  · rw [hml]
    exact ho7.sl
end Go.Proofs.Ytlhhognabmnlmaa
