/-
  The law NetOrder.
-/
import Derived.Test.YtjlclaimpepgiaaNet15
namespace Go.Proofs.Ytjlclaimpepgiaa
open Go Go.RowKit Go.Cx
set_option linter.unusedVariables false
open Crc
section
variable {H : Type} {enc : TypeId × Value → H} {W : World} {b0 base : Nat} {spare : Nat → Bool} {held : Bool} {v : Value} {d : DataW H} {p : List MemPlace} {r : Reach}
theorem openT22 (hval : Value.okWide Try.prog W r b0 22 v) (h : DataW.Trod enc Try.prog W base spare held 22 v d p) (hsz : Sz Try.prog 22 d) :
    ∃ l : List Int, SlK W 1 v l.length (l.map (Value.int .u64)) := by
  have hqq := Go.WideShapes.okWide_slice Try.underlying22 hval
  obtain ⟨a, len, cap, rfl⟩ := hqq
  obtain ⟨fuel, hf⟩ := h
  obtain ⟨v', l, e, hs, hg, -⟩ := open_slice_of (encE := fun z => [Value.int .u64 z]) (Good := fun _ => True) Try.underlying22 (show Try.prog.cellsOf 31 = 1 by kernel_rfl) (by decide) (fun _ => rfl) (fun n _ cs x hx hz => by
    have hqq := DataW.trod_int Try.underlying31 hx
    obtain ⟨z, rfl, -, -⟩ := hqq
    exact ⟨z, rfl, trivial⟩) hf hsz
  simp only [Value.cells, List.cons.injEq, and_true] at e
  subst e
  refine ⟨l, ?_⟩
  have : l.flatMap (fun z => [Value.int .u64 z]) = l.map (Value.int .u64) := by
    clear hs hg
    induction l with
    | nil => rfl
    | cons c l ih => rw [List.flatMap_cons, ih]; rfl
  rwa [this] at hs
theorem openT23 (hval : Value.okWide Try.prog W r b0 23 v) (h : DataW.Trod enc Try.prog W base spare held 23 v d p) (hsz : Sz Try.prog 23 d) :
    ∃ l : List Int, SlK W 1 v l.length (l.map (Value.int .i64)) := by
  have hqq := Go.WideShapes.okWide_slice Try.underlying23 hval
  obtain ⟨a, len, cap, rfl⟩ := hqq
  obtain ⟨fuel, hf⟩ := h
  obtain ⟨v', l, e, hs, hg, -⟩ := open_slice_of (encE := fun z => [Value.int .i64 z]) (Good := fun _ => True) Try.underlying23 (show Try.prog.cellsOf 3 = 1 by kernel_rfl) (by decide) (fun _ => rfl) (fun n _ cs x hx hz => by
    have hqq := DataW.trod_int Try.underlying3 hx
    obtain ⟨z, rfl, -, -⟩ := hqq
    exact ⟨z, rfl, trivial⟩) hf hsz
  simp only [Value.cells, List.cons.injEq, and_true] at e
  subst e
  refine ⟨l, ?_⟩
  have : l.flatMap (fun z => [Value.int .i64 z]) = l.map (Value.int .i64) := by
    clear hs hg
    induction l with
    | nil => rfl
    | cons c l ih => rw [List.flatMap_cons, ih]; rfl
  rwa [this] at hs
end
/-- a net, and a list of numbers of one's own -/
def OrdAt (w : World) (B bn : Nat) (ls : List LS) (v : Value) (xs : List Int) : Prop :=
  ∃ M bl bq ps, NetAt w M bn bl ps ∧ ps.map Prod.fst = ls ∧ B ≤ bn ∧ B ≤ bl ∧ OwnK w bq 31 1 v xs.length (xs.map (Value.int .u64)) ∧ (v.ownBlock = none ∨ (B ≤ bq ∧ M bq ∧ bq ≠ bn ∧ bq ≠ bl))
section
variable {w w' : World} {B bn : Nat} {ls : List LS} {v v' : Value} {xs xs' : List Int}
theorem OrdAt.bel (h : OrdAt w B bn ls v xs) (hb : Below w.heap.size w w') : OrdAt w' B bn ls v xs := by
  obtain ⟨M, bl, bq, ps, h1, h2, h3, h4, h5, h6⟩ := h
  exact ⟨M, bl, bq, ps, h1.bel hb, h2, h3, h4, h5.bel hb, h6⟩
theorem OrdAt.low (h : OrdAt w B bn ls v xs) : B < w.heap.size := by
  obtain ⟨M, bl, bq, ps, h1, h2, h3, h4, h5, h6⟩ := h
  have := h1.1 bn h1.2.choose_spec.2.2.1
  omega
theorem OrdAt.sl (h : OrdAt w B bn ls v xs) : SlK w 1 v xs.length (xs.map (Value.int .u64)) := by
  obtain ⟨M, bl, bq, ps, h1, h2, h3, h4, h5, h6⟩ := h
  exact h5.sl
theorem ord_start (hB : Blk w bn 28 [.slice none 0 0]) (h : B ≤ bn) : OrdAt w B bn [] (.slice none 0 0) [] :=
  ⟨fun b => b = bn, bn, 0, [], ⟨fun b hb => hb ▸ hB.lt, _, hB, OwnK.nil, rfl, rfl, fun p hp => by cases hp⟩, rfl, h, h, OwnK.nil, .inl rfl⟩
theorem ownK_none {bq k n : Nat} {t : TypeId} {ys : List Value} (h : OwnK w bq t k v n ys) (hn : v.ownBlock = none) (b : Nat) : OwnK w b t k v n ys := by
  refine ⟨h.1, ?_⟩
  rcases h.2 with h | ⟨o, cap, cur, rfl, _⟩
  · exact .inl h
  · cases hn
theorem ord_send (h : OrdAt w B bn ls v xs) (hps : ls.length ≤ 1000000) (to : Int) (bv : Value) (l : List UInt8) (hs : Bs w bv l) (hl : l.length ≤ 140737488355328) :
    Ret Try.prog 10 [.pointer (some ⟨bn, 0, none⟩), .int .u64 to, bv].toArray w fun v' w' => v' = .int .i64 0 ∧ OrdAt w' B bn (ls ++ [⟨to, l, false⟩]) v xs ∧ Below B w w' := by
  have hlow := h.low
  obtain ⟨M, bl, bq, ps, h1, rfl, h3, h4, h5, h6⟩ := h
  refine (send_ret w M bn bl ps h1 (by simpa using hps) to bv l hs hl).mono ?_
  rintro v' w' ⟨rfl, fv, bl', hb', hN, hk⟩
  have hmn := h1.2.choose_spec.2.2.1
  have hml := h1.2.choose_spec.2.2.2.1
  have hMs := h1.1
  have hbl : B ≤ bl' := by rcases hb' with rfl | h <;> omega
  refine ⟨rfl, ⟨_, bl', bq, _, hN, by simp, h3, hbl, ?_, ?_⟩, hk.below (fun b hb => by rcases hb with rfl | rfl <;> assumption) (by omega)⟩
  · rcases h6 with h6 | h6
    · exact ownK_none (bq := bq) (by
        refine ⟨h5.1, ?_⟩
        rcases h5.2 with h | ⟨o, cap, cur, rfl, _⟩
        · exact .inl h
        · cases h6) h6 bq
    · exact h5.kept hk (fun e => by rcases e with e | e; exact h6.2.2.1 e; exact h6.2.2.2 e)
  · rcases h6 with h6 | ⟨g1, g2, g3, g4⟩
    · exact .inl h6
    · refine .inr ⟨g1, .inl g2, g3, fun e => ?_⟩
      have := hMs bq g2
      rcases hb' with h | h
      · exact g4 (e.trans h)
      · omega
theorem ord_drop (h : OrdAt w B bn ls v xs) (i : Int) : Ret Try.prog 11 [.pointer (some ⟨bn, 0, none⟩), .int .i64 i].toArray w fun v' w' => v' = .int .i64 (dropS ls i).2 ∧ OrdAt w' B bn (dropS ls i).1 v xs ∧ Below B w w' := by
  have hlow := h.low
  have h' := h
  have hqq := h'
  obtain ⟨M, bl, bq, ps, h1, rfl, h3, h4, h5, h6⟩ := hqq
  unfold dropS
  by_cases hi : inS (ps.map Prod.fst) i
  · rw [if_pos hi]
    have hqq := inS_nat hi
    obtain ⟨j, rfl, hj⟩ := hqq
    refine (drop_in w M bn bl ps h1 j (by simpa using hj)).mono ?_
    rintro v' w' ⟨rfl, hN, hk⟩
    refine ⟨rfl, ⟨M, bl, bq, _, hN, map_erase _ _ _, h3, h4, ?_, h6⟩, hk.below (fun b hb => by rcases hb with rfl | rfl <;> assumption) (by omega)⟩
    rcases h6 with h6 | h6
    · exact ownK_none (bq := bq) (by
        refine ⟨h5.1, ?_⟩
        rcases h5.2 with h | ⟨o, cap, cur, rfl, _⟩
        · exact .inl h
        · cases h6) h6 bq
    · exact h5.kept hk (fun e => by rcases e with e | e; exact h6.2.2.1 e; exact h6.2.2.2 e)
  · rw [if_neg hi]
    refine (drop_out w M bn bl ps h1 i (by simpa [inS] using hi)).mono ?_
    rintro v' w' ⟨rfl, hb⟩
    exact ⟨rfl, h.bel hb, hb.mono (by omega)⟩
theorem ord_all (h : OrdAt w B bn ls v xs) (hps : ls.length ≤ 1000000) : Ret Try.prog 12 [.pointer (some ⟨bn, 0, none⟩)].toArray w fun v w' => (∃ qs, SlK w' 3 v qs.length (flat qs) ∧ qs.map Prod.fst = ls ∧ ∀ k, k < qs.length → Bs w' (qs.getD k zeroL).2 (qs.getD k zeroL).1.bs) ∧ Below w.heap.size w w' := by
  obtain ⟨M, bl, bq, ps, h1, rfl, h3, h4, h5, h6⟩ := h
  refine (all_ret w M bn bl ps h1 (by simpa using hps)).mono ?_
  rintro v w' ⟨⟨b, qs, hb, ho, hm, hq⟩, hbel⟩
  have hl : qs.length = ps.length := by have := congrArg List.length hm; simpa using this
  refine ⟨⟨qs, by rw [hl]; exact ho.sl, hm, fun k hk => ?_⟩, hbel⟩
  have hqq := hq qs[k] (List.getElem_mem hk)
  obtain ⟨B', _, hO⟩ := hqq
  simp only [List.getD_eq_getElem?_getD, List.getElem?_eq_getElem hk, Option.getD_some]
  exact hO.bs
/-- the list is another one, in new memory -/
theorem ord_new (h : OrdAt w B bn ls v xs) (hb : Below w.heap.size w w') (ho : w'.ownsRow w.heap.size 31 1 v' xs'.length (xs'.map (Value.int .u64))) : OrdAt w' B bn ls v' xs' := by
  have hlow := h.low
  obtain ⟨M, bl, bq, ps, h1, rfl, h3, h4, h5, h6⟩ := h
  have hmn := h1.2.choose_spec.2.2.1
  have hml := h1.2.choose_spec.2.2.2.1
  have hMs := h1.1
  have q1 := hMs bn hmn
  have q2 := hMs bl hml
  cases hv : v'.ownBlock with
  | none =>
    have hqq := OwnK.of_own ho
    obtain ⟨b, _, hO⟩ := hqq
    exact ⟨M, bl, b, ps, h1.bel hb, rfl, h3, h4, hO, .inl hv⟩
  | some b =>
    have hlt := ho.lt b hv
    have hqq := OwnK.of_own ho
    obtain ⟨b2, hb2, hO⟩ := hqq
    have he : b2 = b := by
      rcases hO.own with e | e
      · rw [hv] at e; cases e
      · rw [hv] at e; exact (Option.some.inj e).symm
    subst he
    refine ⟨fun k => M k ∨ k = b2, bl, b2, ps, h1.widen hb (fun k hk hs => by rcases hk with hk | rfl; exact hk; omega) (fun k hk => by rcases hk with hk | rfl; (have := hMs k hk; have := hb.size; omega); exact hlt.2) (.inl hmn) (.inl hml), rfl, h3, h4, hO, .inr ⟨by omega, .inr rfl, by omega, by omega⟩⟩
/-- the list, for an append to it -/
theorem ord_pick (h : OrdAt w B bn ls v xs) : ∃ bq, OwnK w bq 31 1 v xs.length (xs.map (Value.int .u64)) ∧ ∀ {w' : World} {v' : Value} {bq' : Nat} {xs' : List Int}, OwnK w' bq' 31 1 v' xs'.length (xs'.map (Value.int .u64)) → 0 < xs'.length → (bq' = bq ∨ w.heap.size ≤ bq') → w.grownBy w' v.ownBlock → OrdAt w' B bn ls v' xs' ∧ Below B w w' := by
  have hlow := h.low
  obtain ⟨M, bl, bq, ps, h1, rfl, h3, h4, h5, h6⟩ := h
  have hmn := h1.2.choose_spec.2.2.1
  have hml := h1.2.choose_spec.2.2.2.1
  have hMs := h1.1
  have q1 := hMs bn hmn
  have q2 := hMs bl hml
  rcases h6 with h6 | ⟨g1, g2, g3, g4⟩
  · refine ⟨w.heap.size, ownK_none h5 h6 _, ?_⟩
    intro w' v' bq' xs' hO hpos hbq hg
    rw [h6] at hg
    have hb : Below w.heap.size w w' := below_of_grown hg (Nat.le_refl _) (fun k e => by cases e)
    have hge : w.heap.size ≤ bq' := by rcases hbq with h | h <;> omega
    have hqq := hO.form hpos
    obtain ⟨_, _, _, _, _, hlt⟩ := hqq
    exact ⟨⟨fun k => M k ∨ k = bq', bl, bq', ps, h1.widen hb (fun k hk hs => by rcases hk with hk | rfl; exact hk; omega) (fun k hk => by rcases hk with hk | rfl; (have := hMs k hk; have := hb.size; omega); exact hlt) (.inl hmn) (.inl hml), rfl, h3, h4, hO, .inr ⟨by omega, .inr rfl, by omega, by omega⟩⟩, hb.mono (by omega)⟩
  · refine ⟨bq, h5, ?_⟩
    intro w' v' bq' xs' hO hpos hbq hg
    have hq3 := hMs bq g2
    have hK : Kept (fun k => k = bq) w w' := Kept.of_grownR hg (fun b hb => by
      rcases h5.own with e | e
      · rw [e] at hb; cases hb
      · rw [e] at hb; exact (Option.some.inj hb).symm)
    have hqq := hO.form hpos
    obtain ⟨_, _, _, _, _, hlt⟩ := hqq
    have hsub : ∀ k, (M k ∨ k = bq') → k < w.heap.size → M k := fun k hk hs => by
      rcases hk with hk | rfl
      · exact hk
      · rcases hbq with rfl | h
        · exact g2
        · omega
    have hN2 : NetAt w' (fun k => M k ∨ k = bq') bn bl ps := by
      have hN1 := h1.kept hK (fun k hk _ => hk ▸ g2) (fun e => g3 e.symm) (fun e => g4 e.symm)
      obtain ⟨-, u, a1, a2, a3, a4, a5⟩ := h1
      obtain ⟨-, u', b1, b2, b3, b4, b5⟩ := hN1
      exact ⟨fun k hk => by rcases hk with hk | rfl; (have := hMs k hk; have := hK.size; omega); exact hlt, u', b1, b2, .inl hmn, .inl hml, (a5.mono hsub).kept hK (fun k hk hs => .inl (hk ▸ g2))⟩
    refine ⟨⟨_, bl, bq', ps, hN2, rfl, h3, h4, hO, .inr ⟨?_, .inr rfl, ?_, ?_⟩⟩, hK.below (fun k hk => hk ▸ g1) (by omega)⟩
    · rcases hbq with rfl | h <;> omega
    · rcases hbq with rfl | h
      · exact g3
      · omega
    · rcases hbq with rfl | h
      · exact g4
      · omega
end
end Go.Proofs.Ytjlclaimpepgiaa
