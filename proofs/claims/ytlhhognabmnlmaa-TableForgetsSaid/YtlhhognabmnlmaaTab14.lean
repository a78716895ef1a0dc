/-
  law20: do: walk.
-/
import Derived.Test.YtlhhognabmnlmaaTab13
namespace Go.Proofs.Ytlhhognabmnlmaa
open Go Go.RowKit Go.Cx
set_option linter.unusedVariables false
set_option maxHeartbeats 8000000
def nOf (L : List Nt) (a : A4) : Nt := if a.k = 2 then ⟨a.c, newestL L + 1, lastL a.c L + 1⟩ else ⟨a.c, a.v, a.i⟩
/-- the notes behind an act -/
def actL (a : A4) (L : List Nt) : List Nt := if a.k = 1 ∨ a.k = 2 then putL L (nOf L a) else L
/-- up to where it is forgotten behind an act -/
def actF (a : A4) (fl : Int) : Int := if a.k = 3 then flUp fl a.v else fl
theorem actL_good {a : A4} {L : List Nt} (h : Good L) : Good (actL a L) := by
  unfold actL
  split
  · exact putL_good h
  · exact h
theorem actL_len {a : A4} {L : List Nt} : (actL a L).length ≤ L.length + 1 := by
  unfold actL
  split
  · exact putL_len
  · omega
section
variable {F : Nat → Prop} {B : Nat} {w w' : World} {b bw : Nat} {L L2 : List Nt} {fl f2 : Int}
theorem St.flo (h : St F B w b L fl bw L2 f2) : ∃ rv, Blk w bw 47 [rv, .int .u64 f2] := by
  obtain ⟨M, _, h2, _⟩ := h
  obtain ⟨_, rv, h3, _⟩ := h2
  exact ⟨rv, h3⟩
theorem St.floor {f3 : Int} {rv : Value} (h : St F B w b L fl bw L2 f2) (hB0 : Blk w bw 47 [rv, .int .u64 f2]) (hB : Blk w' bw 47 [rv, .int .u64 f3]) (hg : w.grownBy w' (some bw)) : St F B w' b L fl bw L2 f3 ∧ Kept (fun x => B ≤ x ∧ ¬ F x) w w' := by
  obtain ⟨M, h1, h2, h3, h4, h5, h6⟩ := h
  exact St.ofR h1 h2.1 h3 h4 h5 h6 ((h2.floor (hB0.cell 0) hB hg).mono (fun x _ h => h.1)) (Kept.of_grown hg rfl)
/-- what a part of an act leaves, at last -/
theorem St.fin {G : Nat → Prop} {w0 : World} {b' : Nat} (h : St G B w' b' L fl bw L2 f2) (hG : ∀ x, F x → G x) (hb : Below w0.heap.size w0 w) (hk : Kept (fun x => B ≤ x ∧ ¬ G x) w w') : St F B w' b' L fl bw L2 f2 ∧ Kept (fun x => B ≤ x ∧ ¬ F x) w0 w' :=
  ⟨h.unframe hG, (Kept.of_bel hb).trans (hk.mono (fun x h _ => ⟨h.1, fun hf => h.2 (hG x hf)⟩))⟩
end
theorem do_ret {F : Nat → Prop} {B : Nat} {w : World} {b bw : Nat} {L : List Nt} {fl : Int} (a : A4) (hu : AcU a) (hg : Good L) (hL : L.length ≤ 49000) (h : St F B w b L fl bw L fl) : Ret Try.prog 20 [.pointer (some ⟨b, 0, none⟩), .pointer (some ⟨bw, 0, none⟩), .agg (ac a).toArray].toArray w fun r w' => (∃ b', r = .tuple #[.pointer (some ⟨b', 0, none⟩), .bool true] ∧ (a.k ≠ 4 → b' = b) ∧ St F B w' b' (actL a L) (actF a fl) bw (actL a L) (actF a fl)) ∧ Kept (fun x => B ≤ x ∧ ¬ F x) w w' := by
  have hnr := newest_rng hg
  have hlr := last_rng hg a.c
  simp only [MX] at hnr hlr
  obtain ⟨u1, u2, u3⟩ := hu
  refine Ret.of (n := 101) (rs := #[.tmp 6, .tmp 7]) Try.func20 rfl rfl rfl (by simp) ?_
  refine WC.seqR rfl ?_
  refine WL.eex rfl (E.boxX) ?_
  rintro _ w5 ⟨rfl, hB5, hb5⟩
  refine WL.y rfl (Y.assign) ?_
  refine WL.y rfl (Y.assign) ?_
  refine WL.nil ?_
  refine WC.seq ?_
  have hX : Blk w5 w.heap.size 53 (ac a) := hB5
  have lX := hX.lt
  clear hB5
  have h5 : St (fun x => F x ∨ x = w.heap.size) B w5 b L fl bw L fl := h.frame hb5 (fun x hx => hx.imp id (fun e => by omega))
  have hn : ¬ (B ≤ w.heap.size ∧ ¬ (F w.heap.size ∨ w.heap.size = w.heap.size)) := fun h => h.2 (.inr rfl)
  refine WC.seqR rfl ?_
  refine WL.y rfl (Y.fieldAddr fi53f0 ti3 (by decide) rfl (rfl) _) ?_
  refine WL.y rfl (Y.load1 Try.underlying3 rfl rfl (hX.cell 0)) ?_
  refine WL.nil ?_
  refine WC.block ?_
  by_cases c1 : a.k = 1
  · have e1 : actL a L = putL L ⟨a.c, a.v, a.i⟩ := by unfold actL nOf; rw [if_pos (.inl c1), if_neg (by omega)]
    have e2 : actF a fl = fl := if_neg (by omega)
    rw [e1, e2]
    refine WC.seqR rfl ?_
    refine WL.y rfl (Y.dT (Y.eqi rfl rfl) (by omega)) ?_
    refine WL.y rfl (Y.assign) ?_
    refine WL.nil ?_
    refine WC.condT (rfl) ?_
    refine WC.seq ?_
    refine WC.cut (fun f ds w' => ds = [] ∧ St (fun x => F x ∨ x = w.heap.size) B w' b (putL L ⟨a.c, a.v, a.i⟩) fl bw (putL L ⟨a.c, a.v, a.i⟩) fl ∧ Kept (fun x => B ≤ x ∧ ¬ (F x ∨ x = w.heap.size)) w5 w' ∧ ∃ J, f = Go.Cx.ov J [(6, .pointer (some ⟨b, 0, none⟩)), (7, .bool true)]) ?_ ?_
    · refine WC.regionK ((fun x => B ≤ x ∧ ¬ (F x ∨ x = w.heap.size))) (fun i => Nat.beq i 16) [(0, .any), (1, .any), (2, .any), (3, .held), (4, .any), (5, .held), (6, .any), (7, .held), (9, .any), (10, .any), (11, .held), (12, .any), (13, .held), (14, .any), (15, .held), (8, .seq), (16, .seq), (17, .any), (18, .any), (19, .any)] mixed (by kernel_rfl) (fun w3x hS3 hheap => ?_)
      refine RL.any rfl rfl (fun _ => Y.move) ?_
      refine RL.any rfl rfl (fun _ => Y.move) ?_
      refine RL.any rfl rfl (fun _ => Y.fieldAddr fi53f1 ti22 (by decide) rfl (rfl) _) ?_
      refine RL.held rfl rfl (Kept.refl _ _) (fun _ hb9 => Y.load1 Try.underlying22 rfl rfl (((hX.bel hS3).kept hb9 hn).cell 1)) ?_
      refine RL.any rfl rfl (fun _ => Y.fieldAddr fi53f2 ti22 (by decide) rfl (rfl) _) ?_
      refine RL.held rfl rfl (Kept.refl _ _) (fun _ hb9 => Y.load1 Try.underlying22 rfl rfl (((hX.bel hS3).kept hb9 hn).cell 2)) ?_
      refine RL.any rfl rfl (fun _ => Y.fieldAddr fi53f3 ti22 (by decide) rfl (rfl) _) ?_
      refine RL.held rfl rfl (Kept.refl _ _) (fun _ hb9 => Y.load1 Try.underlying22 rfl rfl (((hX.bel hS3).kept hb9 hn).cell 3)) ?_
      refine RL.any rfl rfl (fun _ => Y.move) ?_
      refine RL.any rfl rfl (fun _ => Y.fieldAddr fi53f1 ti22 (by decide) rfl (rfl) _) ?_
      refine RL.held rfl rfl (Kept.refl _ _) (fun _ hb9 => Y.load1 Try.underlying22 rfl rfl (((hX.bel hS3).kept hb9 hn).cell 1)) ?_
      refine RL.any rfl rfl (fun _ => Y.fieldAddr fi53f2 ti22 (by decide) rfl (rfl) _) ?_
      refine RL.held rfl rfl (Kept.refl _ _) (fun _ hb9 => Y.load1 Try.underlying22 rfl rfl (((hX.bel hS3).kept hb9 hn).cell 2)) ?_
      refine RL.any rfl rfl (fun _ => Y.fieldAddr fi53f3 ti22 (by decide) rfl (rfl) _) ?_
      refine RL.held rfl rfl (Kept.refl _ _) (fun _ hb9 => Y.load1 Try.underlying22 rfl rfl (((hX.bel hS3).kept hb9 hn).cell 3)) ?_
      refine RL.call rfl rfl (C.func go12) (St.note ⟨a.c, a.v, a.i⟩ u1 u2 u3 hg (by omega) (by first | exact h31 | exact h5.bel hS3)) ?_
      rintro _ w23 ⟨rfl, h23, k23⟩
      refine ⟨.inr (fun h => h.trans (k23)), ?_⟩
      refine RL.call rfl rfl (C.func go18) (St.rnote ⟨a.c, a.v, a.i⟩ u1 u2 u3 hg (by omega) (by first | exact h23 | exact h5.bel hS3)) ?_
      rintro _ w31 ⟨rfl, h31, k31⟩
      refine ⟨.inl rfl, ?_⟩
      refine RL.any rfl rfl (fun _ => Y.dT (Y.eqi rfl rfl) (by omega)) ?_
      refine RL.any rfl rfl (fun _ => Y.assign) ?_
      refine RL.any rfl rfl (fun _ => Y.assign) ?_
      refine RL.nil (thenQ.normal ?_)
      exact ⟨rfl, h31, ((Kept.of_bel hS3).trans k23).trans k31, _, ov_mk ⟨rfl, rfl, trivial⟩⟩
    · rintro _ _ wC ⟨rfl, hC, kC, J, rfl⟩
      have hqq := hC.fin (F := F) (fun x h => .inl h) hb5 kC
      obtain ⟨p1, p2⟩ := hqq
      refine WC.ret (inBlockQ.ret (thenQ.ret (endQ.two (.inr rfl) ?_)))
      exact ⟨⟨b, rfl, fun _ => rfl, p1⟩, p2⟩
  · by_cases c2 : a.k = 2
    · have e1 : actL a L = putL L ⟨a.c, newestL L + 1, lastL a.c L + 1⟩ := by unfold actL nOf; rw [if_pos (.inr c2), if_pos c2]
      have e2 : actF a fl = fl := if_neg (by omega)
      rw [e1, e2]
      refine WC.seqR rfl ?_
      refine WL.y rfl (Y.dF (Y.eqi rfl rfl) (by omega)) ?_
      refine WL.y rfl (Y.assign) ?_
      refine WL.nil ?_
      refine WC.condF (rfl) ?_
      refine WC.seqR rfl ?_
      refine WL.y rfl (Y.dT (Y.eqi rfl rfl) (by omega)) ?_
      refine WL.y rfl (Y.assign) ?_
      refine WL.nil ?_
      refine WC.condT (rfl) ?_
      refine WC.seq ?_
      refine WC.cut (fun f ds w' => ds = [] ∧ Below w5.heap.size w5 w' ∧ ∃ J, f = Go.Cx.ov J [(0, .pointer (some ⟨b, 0, none⟩)), (1, .pointer (some ⟨bw, 0, none⟩)), (5, .pointer (some ⟨w.heap.size, 0, none⟩)), (8, .int .u64 (newestL L + 1)), (9, .int .u64 (lastL a.c L + 1))]) ?_ ?_
      · refine WC.regionB (fun i => Nat.beq i 6) [(0, .any), (3, .any), (4, .any), (5, .held), (1, .seq), (2, .any), (6, .seq), (7, .any), (8, .any), (9, .any)] mixed (by kernel_rfl) (fun w5x hS5 hheap => ?_)
        have kr5 := hS5
        refine RL.any rfl rfl (fun _ => Y.move) ?_
        refine RL.any rfl rfl (fun _ => Y.move) ?_
        refine RL.any rfl rfl (fun _ => Y.fieldAddr fi53f1 ti22 (by decide) rfl (rfl) _) ?_
        refine RL.held rfl rfl hS5 (fun _ hb9 => Y.load1 Try.underlying22 rfl rfl (cell_bel (hX.cell 1) hb9)) ?_
        refine RL.call rfl rfl (C.func go34) ((h5.bel kr5).rnewest) ?_
        rintro _ w36 ⟨rfl, hb36⟩
        refine ⟨.inr (fun h => Below.step h hb36), ?_⟩
        have k36 := Below.step kr5 hb36
        refine RL.any rfl rfl (fun _ => Y.addU64 rfl rfl (by omega)) ?_
        refine RL.call rfl rfl (C.func go35) ((h5.bel k36).rlast a.c (by omega)) ?_
        rintro _ _ ⟨rfl, rfl⟩
        refine ⟨.inl rfl, ?_⟩
        refine RL.any rfl rfl (fun _ => Y.addU64 rfl rfl (by omega)) ?_
        refine RL.any rfl rfl (fun _ => Y.assign) ?_
        refine RL.any rfl rfl (fun _ => Y.assign) ?_
        refine RL.nil (thenQ.normal ?_)
        exact ⟨rfl, Below.step hS5 hb36, _, ov_mk ⟨rfl, rfl, rfl, rfl, rfl, trivial⟩⟩
      · rintro _ _ wD ⟨rfl, kD, J, rfl⟩
        have hXD := hX.bel kD
        have hD := h5.bel kD
        refine WC.seq ?_
        refine WC.regionK ((fun x => B ≤ x ∧ ¬ (F x ∨ x = w.heap.size))) (fun i => Nat.beq i 12) [(0, .any), (1, .any), (2, .any), (3, .held), (4, .any), (5, .any), (7, .any), (8, .any), (9, .held), (10, .any), (11, .any), (6, .seq), (12, .seq), (13, .any), (14, .any), (15, .any)] mixed (by kernel_rfl) (fun w6x hS6 hheap => ?_)
        have kr6 := Below.step kD hS6
        refine RL.any rfl rfl (fun _ => Y.move) ?_
        refine RL.any rfl rfl (fun _ => Y.move) ?_
        refine RL.any rfl rfl (fun _ => Y.fieldAddr fi53f1 ti22 (by decide) rfl (rfl) _) ?_
        refine RL.held rfl rfl (Kept.refl _ _) (fun _ hb9 => Y.load1 Try.underlying22 rfl rfl (((hXD.bel hS6).kept hb9 hn).cell 1)) ?_
        refine RL.any rfl rfl (fun _ => Y.move) ?_
        refine RL.any rfl rfl (fun _ => Y.move) ?_
        refine RL.any rfl rfl (fun _ => Y.move) ?_
        refine RL.any rfl rfl (fun _ => Y.fieldAddr fi53f1 ti22 (by decide) rfl (rfl) _) ?_
        refine RL.held rfl rfl (Kept.refl _ _) (fun _ hb9 => Y.load1 Try.underlying22 rfl rfl (((hXD.bel hS6).kept hb9 hn).cell 1)) ?_
        refine RL.any rfl rfl (fun _ => Y.move) ?_
        refine RL.any rfl rfl (fun _ => Y.move) ?_
        refine RL.call rfl rfl (C.func go12) (St.note ⟨a.c, newestL L + 1, lastL a.c L + 1⟩ u1 (by show 0 ≤ newestL L + 1; omega) (by show 0 ≤ lastL a.c L + 1; omega) hg (by omega) (hD.bel hS6)) ?_
        rintro _ w49 ⟨rfl, h49, k49⟩
        refine ⟨.inr (fun h => h.trans (k49)), ?_⟩
        refine RL.call rfl rfl (C.func go18) (St.rnote ⟨a.c, newestL L + 1, lastL a.c L + 1⟩ u1 (by show 0 ≤ newestL L + 1; omega) (by show 0 ≤ lastL a.c L + 1; omega) hg (by omega) h49) ?_
        rintro _ w55 ⟨rfl, h55, k55⟩
        refine ⟨.inl rfl, ?_⟩
        refine RL.any rfl rfl (fun _ => Y.dT (Y.eqi rfl rfl) (by omega)) ?_
        refine RL.any rfl rfl (fun _ => Y.assign) ?_
        refine RL.any rfl rfl (fun _ => Y.assign) ?_
        refine RL.nil (thenQ.normal ?_)
        refine WC.ret (inBlockQ.ret (thenQ.ret (endQ.two (.inr rfl) ?_)))
        have hfin := h55.fin (F := F) (fun x h => .inl h) hb5 (((Kept.of_bel (Below.step kD hS6)).trans k49).trans k55)
        exact ⟨⟨b, rfl, fun _ => rfl, hfin.1⟩, hfin.2⟩
    · have e1 : actL a L = L := by unfold actL; rw [if_neg (fun h => h.elim c1 c2)]
      rw [e1]
      by_cases c3 : a.k = 3
      · have e2 : actF a fl = flUp fl a.v := if_pos c3
        rw [e2]
        refine WC.seqR rfl ?_
        refine WL.y rfl (Y.dF (Y.eqi rfl rfl) (by omega)) ?_
        refine WL.y rfl (Y.assign) ?_
        refine WL.nil ?_
        refine WC.condF (rfl) ?_
        refine WC.seqR rfl ?_
        refine WL.y rfl (Y.dF (Y.eqi rfl rfl) (by omega)) ?_
        refine WL.y rfl (Y.assign) ?_
        refine WL.nil ?_
        refine WC.condF (rfl) ?_
        refine WC.seqR rfl ?_
        refine WL.y rfl (Y.dT (Y.eqi rfl rfl) (by omega)) ?_
        refine WL.y rfl (Y.assign) ?_
        refine WL.nil ?_
        refine WC.condT (rfl) ?_
        refine WC.seqR rfl ?_
        refine WL.y rfl (Y.move) ?_
        refine WL.y rfl (Y.fieldAddr fi53f2 ti22 (by decide) rfl (rfl) _) ?_
        refine WL.y rfl (Y.load1 Try.underlying22 rfl rfl (hX.cell 2)) ?_
        refine WL.call rfl (C.func go9) (h5.forget a.v hg (by omega)) ?_
        rintro _ w62 ⟨h62, k62⟩
        refine WL.nil ?_
        have hqq := h62.flo
        obtain ⟨rv, hf⟩ := hqq
        have hX62 := hX.kept k62 hn
        refine WC.seq ?_
        refine WC.regionB (fun _ => false) [(0, .any), (1, .held), (2, .any), (3, .any), (4, .any), (5, .held), (6, .any)] mixed (by kernel_rfl) (fun w9x hS9 hheap => ?_)
        refine RL.any rfl rfl (fun _ => Y.fieldAddr fi53f2 ti22 (by decide) rfl (rfl) _) ?_
        refine RL.held rfl rfl hS9 (fun _ hb9 => Y.load1 Try.underlying22 rfl rfl (cell_bel (hX62.cell 2) hb9)) ?_
        refine RL.any rfl rfl (fun _ => Y.move) ?_
        refine RL.any rfl rfl (fun _ => Y.nilCheck rfl) ?_
        refine RL.any rfl rfl (fun _ => Y.fieldAddr fi47f1 ti22 (by decide) rfl (rfl) _) ?_
        refine RL.held rfl rfl hS9 (fun _ hb9 => Y.load1 Try.underlying22 rfl rfl (cell_bel (hf.cell 1) hb9)) ?_
        refine RL.any rfl rfl (fun _ => Y.gtr rfl rfl) ?_
        refine RL.nil (thenQ.normal ?_)
        refine WC.condD rfl (fun c5 => ?_) (fun c5 => ?_)
        · have e3 : flUp fl a.v = a.v := if_neg (by omega)
          refine WC.region rfl ?_
          refine WL.y rfl (Y.move) ?_
          refine WL.y rfl (Y.fieldAddr fi53f2 ti22 (by decide) rfl (rfl) _) ?_
          refine WL.y rfl (Y.load1 Try.underlying22 rfl rfl ((hX62.bel hS9).cell 2)) ?_
          refine WL.y rfl (Y.nilCheck rfl) ?_
          refine WL.y rfl (Y.fieldAddr fi47f1 ti22 (by decide) rfl (rfl) _) ?_
          refine WL.eex rfl (E.storeX (u := .int .u64 a.v) ti22 rfl rfl rfl (hf.bel hS9) (by simp)) ?_
          rintro _ w10 ⟨hB10, hg10, -⟩
          refine WL.nil (inBlockQ.normal (thenQ.normal ?_))
          refine WC.seqR rfl ?_
          refine WL.y rfl (Y.move) ?_
          refine WL.y rfl (Y.assign) ?_
          refine WL.y rfl (Y.assign) ?_
          refine WL.nil ?_
          refine WC.ret (endQ.two (.inr rfl) ?_)
          have h10 := (h62.bel hS9).floor (hf.bel hS9) hB10 hg10
          have hfin := h10.1.fin (F := F) (fun x h => .inl h) hb5 ((k62.bel hS9).trans h10.2)
          rw [e3] at hfin ⊢
          exact ⟨⟨b, rfl, fun _ => rfl, hfin.1⟩, hfin.2⟩
        · have e3 : flUp fl a.v = fl := if_pos (by omega)
          refine WC.skip (inBlockQ.normal (thenQ.normal ?_))
          refine WC.seqR rfl ?_
          refine WL.y rfl (Y.move) ?_
          refine WL.y rfl (Y.assign) ?_
          refine WL.y rfl (Y.assign) ?_
          refine WL.nil ?_
          refine WC.ret (endQ.two (.inr rfl) ?_)
          have hfin := (h62.bel hS9).fin (F := F) (fun x h => .inl h) hb5 (k62.bel hS9)
          rw [e3] at hfin ⊢
          exact ⟨⟨b, rfl, fun _ => rfl, hfin.1⟩, hfin.2⟩
      · have e2 : actF a fl = fl := if_neg c3
        rw [e2]
        by_cases c4 : a.k = 4
        · refine WC.seqR rfl ?_
          refine WL.y rfl (Y.dF (Y.eqi rfl rfl) (by omega)) ?_
          refine WL.y rfl (Y.assign) ?_
          refine WL.nil ?_
          refine WC.condF (rfl) ?_
          refine WC.seqR rfl ?_
          refine WL.y rfl (Y.dF (Y.eqi rfl rfl) (by omega)) ?_
          refine WL.y rfl (Y.assign) ?_
          refine WL.nil ?_
          refine WC.condF (rfl) ?_
          refine WC.seqR rfl ?_
          refine WL.y rfl (Y.dF (Y.eqi rfl rfl) (by omega)) ?_
          refine WL.y rfl (Y.assign) ?_
          refine WL.nil ?_
          refine WC.condF (rfl) ?_
          refine WC.seqR rfl ?_
          refine WL.y rfl (Y.dT (Y.eqi rfl rfl) (by omega)) ?_
          refine WL.y rfl (Y.assign) ?_
          refine WL.nil ?_
          refine WC.condT (rfl) ?_
          refine WC.seqR rfl ?_
          refine WL.y rfl (Y.move) ?_
          refine WL.call rfl (C.func go16) (h5.copy (by omega)) ?_
          rintro _ w78 ⟨⟨cb, rfl, hc78⟩, hb78⟩
          refine WL.y rfl (Y.assign) ?_
          refine WL.nil ?_
          refine WC.seq ?_
          refine WC.seqR rfl ?_
          refine WL.y rfl (Y.move) ?_
          refine WL.y rfl (Y.eqpn Try.underlying23 rfl rfl) ?_
          refine WL.nil ?_
          refine WC.condF (rfl) ?_
          refine WC.skip (thenQ.normal ?_)
          have hG : St (fun x => (F x ∨ x = w.heap.size) ∨ (w5.heap.size ≤ x ∧ x < w78.heap.size)) B w78 b L fl bw L fl := h5.frame hb78 (fun x hx => hx)
          have hX78 := hX.bel hb78
          have s5 := hb5.size
          have hnG : ¬ (B ≤ w.heap.size ∧ ¬ ((F w.heap.size ∨ w.heap.size = w.heap.size) ∨ (w5.heap.size ≤ w.heap.size ∧ w.heap.size < w78.heap.size))) := fun h => h.2 (.inl (.inr rfl))
          have hBw : B ≤ w.heap.size := by obtain ⟨M, _, _, _, _, _, h6⟩ := h; exact h6
          refine WC.seq ?_
          refine WC.regionK ((fun x => B ≤ x ∧ ¬ ((F x ∨ x = w.heap.size) ∨ (w5.heap.size ≤ x ∧ x < w78.heap.size)))) (fun i => Nat.beq i 11) [(0, .any), (1, .any), (2, .held), (3, .any), (6, .any), (7, .any), (8, .held), (4, .seq), (5, .any), (9, .seq), (10, .any), (11, .seq)] mixed (by kernel_rfl) (fun w15x hS15 hheap => ?_)
          refine RL.any rfl rfl (fun _ => Y.move) ?_
          refine RL.any rfl rfl (fun _ => Y.fieldAddr fi53f1 ti22 (by decide) rfl (rfl) _) ?_
          refine RL.held rfl rfl (Kept.refl _ _) (fun _ hb9 => Y.load1 Try.underlying22 rfl rfl (((hX78.bel hS15).kept hb9 hnG).cell 1)) ?_
          refine RL.any rfl rfl (fun _ => Y.move) ?_
          refine RL.any rfl rfl (fun _ => Y.move) ?_
          refine RL.any rfl rfl (fun _ => Y.fieldAddr fi53f1 ti22 (by decide) rfl (rfl) _) ?_
          refine RL.held rfl rfl (Kept.refl _ _) (fun _ hb9 => Y.load1 Try.underlying22 rfl rfl (((hX78.bel hS15).kept hb9 hnG).cell 1)) ?_
          refine RL.call rfl rfl (C.func go34) ((hG.bel hS15).rnewest) ?_
          rintro _ w86 ⟨rfl, hb86⟩
          refine ⟨.inr (fun h => h.trans (Kept.of_bel hb86)), ?_⟩
          refine RL.any rfl rfl (fun _ => Y.addU64 rfl rfl (by omega)) ?_
          refine RL.call rfl rfl (C.func go35) (((hG.bel hS15).bel hb86).rlast a.c (by omega)) ?_
          rintro _ _ ⟨rfl, rfl⟩
          refine ⟨.inr id, ?_⟩
          refine RL.any rfl rfl (fun _ => Y.addU64 rfl rfl (by omega)) ?_
          refine RL.call rfl rfl (C.func go12) (((hG.bel hS15).bel hb86).note ⟨a.c, newestL L + 1, lastL a.c L + 1⟩ u1 (by show 0 ≤ newestL L + 1; omega) (by show 0 ≤ lastL a.c L + 1; omega) hg (by omega)) ?_
          rintro _ w93 ⟨rfl, h93, k93⟩
          refine ⟨.inl rfl, ?_⟩
          refine RL.nil (thenQ.normal ?_)
          refine WC.seqR rfl ?_
          refine WL.y rfl (Y.move) ?_
          refine WL.y rfl (Y.move) ?_
          refine WL.call rfl (C.func go34) (h93.rnewest) ?_
          rintro _ w96 ⟨rfl, hb96⟩
          refine WL.y rfl (Y.addU64 rfl rfl (by omega)) ?_
          refine WL.call rfl (C.func go9) ((h93.bel hb96).forget (newestL L + 1) (putL_good hg) (by have := putL_len (L := L) (n := ⟨a.c, newestL L + 1, lastL a.c L + 1⟩); omega)) ?_
          rintro _ w98 ⟨h98, k98⟩
          refine WL.nil ?_
          refine WC.seqR rfl ?_
          refine WL.y rfl (Y.move) ?_
          refine WL.y rfl (Y.assign) ?_
          refine WL.y rfl (Y.assign) ?_
          refine WL.nil ?_
          refine WC.ret (inBlockQ.ret (thenQ.ret (endQ.two (.inr rfl) ?_)))
          have kall : Kept (fun x => B ≤ x ∧ ¬ ((F x ∨ x = w.heap.size) ∨ (w5.heap.size ≤ x ∧ x < w78.heap.size))) w78 w98 := (((Kept.of_bel (Below.step hS15 hb86)).trans k93).bel hb96).trans k98
          have hc98 : TabW w98 (fun x => w5.heap.size ≤ x ∧ x < w78.heap.size) cb L fl := hc78.kept kall (fun x hx h => h.2 (.inr hx))
          have hsw : St (fun x => F x ∨ x = w.heap.size) B w98 cb L fl bw L fl := h98.swap hc98 (fun x hx => ⟨.inr hx, by omega, fun hf => by
            obtain ⟨M, _, _, _, _, h9, _⟩ := h5
            have := h9 x hf
            omega⟩) (fun x hx => .inl hx)
          have hfin := hsw.fin (F := F) (fun x h => .inl h) hb5 ((Kept.of_bel hb78).trans (kall.mono (fun x h _ => ⟨h.1, fun hf => h.2 (.inl hf)⟩)))
          exact ⟨⟨cb, rfl, fun hk => absurd c4 hk, hfin.1⟩, hfin.2⟩
        · skip
          skip
          refine WC.seqR rfl ?_
          refine WL.y rfl (Y.dF (Y.eqi rfl rfl) (by omega)) ?_
          refine WL.y rfl (Y.assign) ?_
          refine WL.nil ?_
          refine WC.condF (rfl) ?_
          refine WC.seqR rfl ?_
          refine WL.y rfl (Y.dF (Y.eqi rfl rfl) (by omega)) ?_
          refine WL.y rfl (Y.assign) ?_
          refine WL.nil ?_
          refine WC.condF (rfl) ?_
          refine WC.seqR rfl ?_
          refine WL.y rfl (Y.dF (Y.eqi rfl rfl) (by omega)) ?_
          refine WL.y rfl (Y.assign) ?_
          refine WL.nil ?_
          refine WC.condF (rfl) ?_
          refine WC.seqR rfl ?_
          refine WL.y rfl (Y.dF (Y.eqi rfl rfl) (by omega)) ?_
          refine WL.y rfl (Y.assign) ?_
          refine WL.nil ?_
          refine WC.condF (rfl) ?_
          refine WC.skip (inBlockQ.normal (thenQ.normal ?_))
          refine WC.seqR rfl ?_
          refine WL.y rfl (Y.move) ?_
          refine WL.y rfl (Y.assign) ?_
          refine WL.y rfl (Y.assign) ?_
          refine WL.nil ?_
          refine WC.ret (endQ.two (.inr rfl) ?_)
          have hfin := h5.fin (F := F) (fun x h => .inl h) hb5 (Kept.refl _ _)
          exact ⟨⟨b, rfl, fun _ => rfl, hfin.1⟩, hfin.2⟩
end Go.Proofs.Ytlhhognabmnlmaa
