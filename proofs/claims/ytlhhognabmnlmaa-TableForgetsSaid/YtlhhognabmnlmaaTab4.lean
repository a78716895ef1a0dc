/-
  table: cut: walk.
-/
import Derived.Test.YtlhhognabmnlmaaTab3
namespace Go.Proofs.Ytlhhognabmnlmaa
open Go Go.RowKit Go.Cx
set_option linter.unusedVariables false
set_option maxHeartbeats 8000000
theorem cut_ret {w : World} {M : Nat → Prop} {b : Nat} {mb : Option Nat} {m : List (Int × Value)} {g : Int → List (Int × Int)} {fl : Int} {x1 x2 : Value} (c : Int) (hB : Blk w b 27 [.map mb, x1, x2, .int .u64 fl]) (h : NotesW w M mb m g fl) (hr : (g c).Pairwise (fun a b => a.1 < b.1)) (hl : (g c).length ≤ 100000) : Ret Try.prog 24 [.pointer (some ⟨b, 0, none⟩), .int .u64 c].toArray w fun _ w' => (∃ m', NotesW w' (fun x => M x ∨ w.heap.size ≤ x) mb m' g fl) ∧ Kept (fun x => mb = some x) w w' := by
  have hqq := h.get c
  obtain ⟨k, hrow, hk⟩ := hqq
  have hln : ((g c).drop k).length ≤ 100000 := by rw [List.length_drop]; omega
  have hcl := cnt_le fl ((g c).drop k)
  have hcg := cnt_le fl (g c)
  have hcd := cnt_drop (v := fl) hr (k := k) (by omega)
  have hmb : 1 < cnt fl ((g c).drop k) → ∃ b0, mb = some b0 ∧ MapN ku w b0 m := by
    intro h1
    have hgne : g c ≠ [] := fun e => by
      have : (g c).length = 0 := by rw [e]; rfl
      omega
    have h2 := h.map
    cases mb with
    | some b0 => exact ⟨b0, rfl, h2.2⟩
    | none =>
      have : m = [] := h2
      subst this
      exact absurd (h.no c rfl) hgne
  refine Ret.of (n := 29) (rs := #[]) Try.func24 rfl rfl rfl (by simp) ?_
  refine WC.seqR rfl ?_
  refine WL.y rfl (Y.move) ?_
  refine WL.y rfl (Y.nilCheck rfl) ?_
  refine WL.y rfl (Y.fieldAddr fi27f0 ti24 (by decide) rfl (rfl) _) ?_
  refine WL.y rfl (Y.load1 Try.underlying24 rfl rfl (hB.cell 0)) ?_
  refine WL.y rfl (Y.move) ?_
  refine WL.y rfl ((Y.lookV (M := M) (m := m) (a := c) Try.underlying24 kd ti64 rfl h.map rfl)) ?_
  refine WL.y rfl (Y.assign) ?_
  refine WL.nil ?_
  refine WC.seqR rfl ?_
  refine WL.y rfl (Y.move) ?_
  refine WL.y rfl (Y.move) ?_
  refine WL.y rfl (Y.nilCheck rfl) ?_
  refine WL.y rfl (Y.fieldAddr fi27f3 ti22 (by decide) rfl (rfl) _) ?_
  refine WL.y rfl (Y.load1 Try.underlying22 rfl rfl (hB.cell 3)) ?_
  refine WL.call rfl (C.func go25) (upTo_ret w _ fl _ hrow.sl (by omega) (hr.sublist (List.drop_sublist k _))) ?_
  rintro _ w17 ⟨rfl, hb17⟩
  refine WL.y rfl (Y.assign) ?_
  refine WL.nil ?_
  refine WC.seqR rfl ?_
  refine WL.y rfl (Y.move) ?_
  refine WL.y rfl (Y.gtr rfl rfl) ?_
  refine WL.nil ?_
  have hB17 := hB.bel hb17
  have h17 := h.bel hb17
  have r17 := hrow.bel hb17
  have s17 := hb17.size
  refine WC.condD rfl (fun c0 => ?_) (fun c0 => ?_)
  · have hqq := hmb (by omega)
    obtain ⟨b0, hb0, hm⟩ := hqq
    have hm17 := hm.bel hb17
    refine WC.regionB (fun i => Nat.beq i 9) [(0, .any), (1, .any), (2, .any), (3, .held), (4, .any), (5, .any), (6, .any), (7, .any), (8, .seq), (9, .seq)] mixed (by kernel_rfl) (fun w3x hS3 hheap => ?_)
    refine RL.any rfl rfl (fun _ => Y.move) ?_
    refine RL.any rfl rfl (fun _ => Y.nilCheck rfl) ?_
    refine RL.any rfl rfl (fun _ => Y.fieldAddr fi27f0 ti24 (by decide) rfl (rfl) _) ?_
    refine RL.held rfl rfl hS3 (fun _ hb9 => Y.load1 Try.underlying24 rfl rfl (cell_bel (hB17.cell 0) hb9)) ?_
    refine RL.any rfl rfl (fun _ => Y.move) ?_
    refine RL.any rfl rfl (fun _ => Y.move) ?_
    refine RL.any rfl rfl (fun _ => Y.move) ?_
    refine RL.any rfl rfl (fun _ => Y.sub64 rfl rfl (by omega)) ?_
    refine RL.call rfl rfl (C.func go38) (behnote_ret (v := (mget c m).getD (.slice none 0 0)) (cnt fl ((g c).drop k) - 1) (by omega) (r17.bel hS3) (by omega) hln) ?_
    rintro v28 w28 ⟨⟨h28, ho28⟩, hb28⟩
    refine ⟨.inr (fun h => Below.step h hb28), ?_⟩
    refine RL.eex rfl rfl (E.mapUpdateN (kv := ku) (m := m) (a := c) Try.underlying24 kd (congrArg Value.map hb0) ((hm17.bel hS3).bel hb28) rfl rfl) ?_ ?_
    · exact fun _ _ _ => .inl rfl
    rintro _ w4 ⟨hm4, hg4⟩
    refine RL.nil (endQ.zero (.inl rfl) ?_)
    have hfin : (∃ m', NotesW w4 (fun x => M x ∨ w.heap.size ≤ x) mb m' g fl) ∧ Kept (fun x => mb = some x) w w4 := by
      have s3 := hS3.size
      have s28 := hb28.size
      have s4 := hg4.size
      have kb : Below w17.heap.size w17 w28 := Below.step hS3 hb28
      have hqq := hm17.bel kb
      obtain ⟨es28, cl28, hm28, _⟩ := hqq
      have hgne : g c ≠ [] := fun e => by
        have : (g c).length = 0 := by rw [e]; rfl
        omega
      have h17' : NotesW w17 M (some b0) m g fl := hb0 ▸ h17
      have hr4 : RowW w4 (fun x => M x ∨ w.heap.size ≤ x) 67 v28 ((g c).drop (k + (cnt fl ((g c).drop k) - 1))) := by
        rw [List.drop_drop] at h28
        refine (h28.keep (w' := w4) fun x hx => hg4.block x (h28.in x hx).2.1 (fun e => ?_)).mono (fun x _ h => h.imp id (fun h => by omega))
        simp only [Option.some.injEq] at e
        subst e
        exact h28.offM hm28.blk hx
      refine ⟨⟨mput c v28 m, hb0 ▸ h17'.put (k := k + (cnt fl ((g c).drop k) - 1)) (fun x _ h => .inl h) hm4 (fun _ _ => rfl) hgne hr4 (.inr (by omega)) (fun x hx h1 _ => ?_) (fun x hx => ?_)⟩, ?_⟩
      · rw [hg4.block x (by omega) (fun e => h1 (by simpa using e))]
        exact kb.block x hx
      · exact (ho28 x hx).imp id (fun h => by omega)
      · exact ((Kept.of_bel hb17).bel kb).trans (Kept.of_grown hg4 hb0)
    exact hfin
  · refine WC.skip (endQ.zero (.inl rfl) ?_)
    exact ⟨⟨m, h17.mono (fun b _ h => .inl h)⟩, Kept.of_bel hb17⟩
end Go.Proofs.Ytlhhognabmnlmaa
