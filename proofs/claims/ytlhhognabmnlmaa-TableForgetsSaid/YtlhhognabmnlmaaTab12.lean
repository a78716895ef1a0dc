/-
  The table and the document's, side by side; law20: asks.
-/
import Derived.Test.YtlhhognabmnlmaaTab11
namespace Go.Proofs.Ytlhhognabmnlmaa
open Go Go.RowKit Go.Cx
set_option linter.unusedVariables false
set_option maxHeartbeats 8000000
def putL (L : List Nt) (n : Nt) : List Nt := if noteE L n = 0 then L ++ [n] else L
/-- the table and the document's, side by side, from block B on; F is apart from both -/
def St (F : Nat → Prop) (B : Nat) (w : World) (b : Nat) (L : List Nt) (fl : Int) (bw : Nat) (L2 : List Nt) (f2 : Int) : Prop := ∃ M, TabW w M b L fl ∧ RefW w (fun x => M x ∨ F x) bw L2 f2 ∧ (∀ x, M x → B ≤ x ∧ x < w.heap.size ∧ ¬ F x) ∧ B ≤ bw ∧ (∀ x, F x → x < w.heap.size) ∧ B ≤ w.heap.size
section
variable {F : Nat → Prop} {B : Nat} {w w' : World} {b bw : Nat} {L L2 : List Nt} {fl f2 : Int}
theorem St.bel (h : St F B w b L fl bw L2 f2) (hb : Below w.heap.size w w') : St F B w' b L fl bw L2 f2 := by
  obtain ⟨M, h1, h2, h3, h4, h5, h6⟩ := h
  have s := hb.size
  exact ⟨M, h1.bel hb, h2.bel hb, fun x hx => ⟨(h3 x hx).1, by have := (h3 x hx).2.1; omega, (h3 x hx).2.2⟩, h4, fun x hx => by have := h5 x hx; omega, by omega⟩
/-- more stands apart: new blocks -/
theorem St.frame {G : Nat → Prop} (h : St F B w b L fl bw L2 f2) (hb : Below w.heap.size w w') (hG : ∀ x, G x → F x ∨ (w.heap.size ≤ x ∧ x < w'.heap.size)) : St G B w' b L fl bw L2 f2 := by
  obtain ⟨M, h1, h2, h3, h4, h5, h6⟩ := h
  have s := hb.size
  refine ⟨M, h1.bel hb, (h2.mono (N' := fun x => M x ∨ G x) (fun x hx h => h.imp id (fun h => (hG x h).elim id (fun h => by omega)))).bel hb, fun x hx => ⟨(h3 x hx).1, by have := (h3 x hx).2.1; omega, fun h => (hG x h).elim (h3 x hx).2.2 (fun h => by have := (h3 x hx).2.1; omega)⟩, h4, fun x hx => (hG x hx).elim (fun h => by have := h5 x h; omega) (fun h => h.2), by omega⟩
theorem St.unframe {G : Nat → Prop} (h : St F B w b L fl bw L2 f2) (hG : ∀ x, G x → F x) : St G B w b L fl bw L2 f2 := h.frame (Below.refl _ _) (fun x hx => .inl (hG x hx))
/-- a copy takes the table's place -/
theorem St.swap {G C : Nat → Prop} {cb : Nat} (h : St F B w b L fl bw L2 f2) {Lc : List Nt} {fc : Int} (hc : TabW w C cb Lc fc) (hC : ∀ x, C x → F x ∧ B ≤ x ∧ ¬ G x) (hG : ∀ x, G x → F x) : St G B w cb Lc fc bw L2 f2 := by
  obtain ⟨M, h1, h2, h3, h4, h5, h6⟩ := h
  exact ⟨C, hc, h2.mono (fun x _ h => .inr (h.elim (fun h => (hC x h).1) (hG x))), fun x hx => ⟨(hC x hx).2.1, h5 x (hC x hx).1, (hC x hx).2.2⟩, h4, fun x hx => h5 x (hG x hx), h6⟩
theorem St.ofT {M : Nat → Prop} {L' : List Nt} {fl' : Int} (hR : RefW w (fun x => M x ∨ F x) bw L2 f2) (hM : ∀ x, M x → B ≤ x ∧ x < w.heap.size ∧ ¬ F x) (hbw : B ≤ bw) (hF : ∀ x, F x → x < w.heap.size) (hB : B ≤ w.heap.size) (hT : TabW w' (fun x => M x ∨ w.heap.size ≤ x) b L' fl') (hk : Kept M w w') : St F B w' b L' fl' bw L2 f2 ∧ Kept (fun x => B ≤ x ∧ ¬ F x) w w' := by
  have s := hk.size
  refine ⟨⟨fun x => (M x ∨ w.heap.size ≤ x) ∧ x < w'.heap.size, hT.mono (fun x hx h => ⟨h, hx⟩), ?_, fun x hx => ?_, hbw, fun x hx => by have := hF x hx; omega, by omega⟩, hk.mono (fun x h _ => ⟨(hM x h).1, (hM x h).2.2⟩)⟩
  · have hR1 : RefW w (fun x => ((M x ∨ w.heap.size ≤ x) ∧ x < w'.heap.size) ∨ F x) bw L2 f2 := hR.mono (fun x hx h => h.imp (fun h => h.1.elim id (fun h => by omega)) id)
    exact hR1.kept (hk.mono (fun x h hx => .inl ⟨.inl h, by omega⟩))
  · rcases hx.1 with h | h
    · exact ⟨(hM x h).1, hx.2, (hM x h).2.2⟩
    · exact ⟨by omega, hx.2, fun hf => by have := hF x hf; omega⟩
theorem St.note (n : Nt) (hc : 0 ≤ n.c) (hv : 0 ≤ n.v) (hi : 0 ≤ n.i) (hg : Good L) (hL : L.length ≤ 50000) (h : St F B w b L fl bw L2 f2) : Ret Try.prog 12 [.pointer (some ⟨b, 0, none⟩), .int .u64 n.c, .int .u64 n.v, .int .u64 n.i].toArray w fun v w' => v = .int .i64 (noteE L n) ∧ St F B w' b (putL L n) fl bw L2 f2 ∧ Kept (fun x => B ≤ x ∧ ¬ F x) w w' := by
  obtain ⟨M, h1, h2, h3, h4, h5, h6⟩ := h
  refine (note_ret hc hv hi h1 hg hL).mono fun v w' ⟨a1, a2, a3⟩ => ?_
  exact ⟨a1, St.ofT h2 h3 h4 h5 h6 a2 a3⟩
theorem St.forget (v : Int) (hg : Good L) (hL : L.length ≤ 50000) (h : St F B w b L fl bw L2 f2) : Ret Try.prog 9 [.pointer (some ⟨b, 0, none⟩), .int .u64 v].toArray w fun _ w' => St F B w' b L (flUp fl v) bw L2 f2 ∧ Kept (fun x => B ≤ x ∧ ¬ F x) w w' := by
  obtain ⟨M, h1, h2, h3, h4, h5, h6⟩ := h
  refine (forget_ret v h1 hg hL).mono fun v w' ⟨a2, a3⟩ => ?_
  exact St.ofT h2 h3 h4 h5 h6 a2 a3
theorem St.ofR {M : Nat → Prop} {L' : List Nt} {f' : Int} (hT : TabW w M b L fl) (hR0 : ¬ (M bw ∨ F bw)) (hM : ∀ x, M x → B ≤ x ∧ x < w.heap.size ∧ ¬ F x) (hbw : B ≤ bw) (hF : ∀ x, F x → x < w.heap.size) (hB : B ≤ w.heap.size) (hR : RefW w' (fun x => (M x ∨ F x) ∧ x < w.heap.size) bw L' f') (hk : Kept (fun x => x = bw) w w') : St F B w' b L fl bw L' f' ∧ Kept (fun x => B ≤ x ∧ ¬ F x) w w' := by
  have s := hk.size
  refine ⟨⟨M, hT.kept hk (fun x hx e => hR0 (.inl (e ▸ hx))), hR.mono (fun x _ h => ⟨h, h.elim (fun h => (hM x h).2.1) (hF x)⟩), fun x hx => ⟨(hM x hx).1, by have := (hM x hx).2.1; omega, (hM x hx).2.2⟩, hbw, fun x hx => by have := hF x hx; omega, by omega⟩, hk.mono (fun x h _ => by subst h; exact ⟨hbw, fun h => hR0 (.inr h)⟩)⟩
theorem St.rnote (n : Nt) (hc : 0 ≤ n.c) (hv : 0 ≤ n.v) (hi : 0 ≤ n.i) (hg : Good L2) (hL : L2.length ≤ 50000) (h : St F B w b L fl bw L2 f2) : Ret Try.prog 18 [.pointer (some ⟨bw, 0, none⟩), .int .u64 n.c, .int .u64 n.v, .int .u64 n.i].toArray w fun v w' => v = .int .i64 (noteE L2 n) ∧ St F B w' b L fl bw (putL L2 n) f2 ∧ Kept (fun x => B ≤ x ∧ ¬ F x) w w' := by
  obtain ⟨M, h1, h2, h3, h4, h5, h6⟩ := h
  refine (rnote_ret hc hv hi h2 hg hL).mono fun v w' ⟨a1, a2, a3⟩ => ?_
  exact ⟨a1, St.ofR (M := M) h1 h2.1 h3 h4 h5 h6 a2 a3⟩
theorem St.at (c v : Int) (hg : Good L) (hL : L.length ≤ 50000) (h : St F B w b L fl bw L2 f2) : Ret Try.prog 10 [.pointer (some ⟨b, 0, none⟩), .int .u64 c, .int .u64 v].toArray w fun r w' => r = .tuple #[.int .u64 (if fl ≤ v then atL c v L else 0), .bool (decide (fl ≤ v))] ∧ Below w.heap.size w w' := by
  obtain ⟨M, h1, _⟩ := h
  exact at_ret c v h1 hg (by omega)
theorem St.who (v : Int) (hg : Good L) (hL : L.length ≤ 50000) (h : St F B w b L fl bw L2 f2) : Ret Try.prog 11 [.pointer (some ⟨b, 0, none⟩), .int .u64 v].toArray w fun r w' => r = whoV (whoL fl v L) ∧ Below w.heap.size w w' := by
  obtain ⟨M, h1, _⟩ := h
  exact who_ret v h1 hg hL
theorem St.last (c : Int) (h : St F B w b L fl bw L2 f2) : Ret Try.prog 13 [.pointer (some ⟨b, 0, none⟩), .int .u64 c].toArray w fun v w' => v = .int .u64 (lastL c L) ∧ w = w' := by
  obtain ⟨M, h1, _⟩ := h
  exact last_ret c h1
theorem St.newest (h : St F B w b L fl bw L2 f2) : Ret Try.prog 14 [.pointer (some ⟨b, 0, none⟩)].toArray w fun v w' => v = .int .u64 (newestL L) ∧ w = w' := by
  obtain ⟨M, h1, _⟩ := h
  exact newest_ret h1
theorem St.rat (c v : Int) (hL : L2.length ≤ 50000) (h : St F B w b L fl bw L2 f2) : Ret Try.prog 36 [.pointer (some ⟨bw, 0, none⟩), .int .u64 c, .int .u64 v].toArray w fun r w' => r = .tuple #[.int .u64 (if f2 ≤ v then atL c v L2 else 0), .bool (decide (f2 ≤ v))] ∧ w = w' := by
  obtain ⟨M, _, h2, _⟩ := h
  exact rat_ret c v h2 hL
theorem St.rwho (v : Int) (hL : L2.length ≤ 50000) (h : St F B w b L fl bw L2 f2) : Ret Try.prog 37 [.pointer (some ⟨bw, 0, none⟩), .int .u64 v].toArray w fun r w' => r = rwhoV (whoL f2 v L2) ∧ Below w.heap.size w w' := by
  obtain ⟨M, _, h2, _⟩ := h
  exact rwho_ret v h2 hL
theorem St.rlast (c : Int) (hL : L2.length ≤ 50000) (h : St F B w b L fl bw L2 f2) : Ret Try.prog 35 [.pointer (some ⟨bw, 0, none⟩), .int .u64 c].toArray w fun v w' => v = .int .u64 (lastL c L2) ∧ w = w' := by
  obtain ⟨M, _, h2, _⟩ := h
  exact rlast_ret c h2 hL
theorem St.rnewest (h : St F B w b L fl bw L2 f2) : Ret Try.prog 34 [.pointer (some ⟨bw, 0, none⟩)].toArray w fun v w' => v = .int .u64 (newestL L2) ∧ Below w.heap.size w w' := by
  obtain ⟨M, _, h2, _⟩ := h
  exact rnewest_ret h2
theorem St.copy (hL : L.length ≤ 50000) (h : St F B w b L fl bw L2 f2) : Ret Try.prog 16 [.pointer (some ⟨b, 0, none⟩)].toArray w fun r w' => (∃ cb, r = .pointer (some ⟨cb, 0, none⟩) ∧ TabW w' (fun x => w.heap.size ≤ x ∧ x < w'.heap.size) cb L fl) ∧ Below w.heap.size w w' := by
  obtain ⟨M, h1, _⟩ := h
  exact (copy_ret h1 hL).mono fun r w' ⟨⟨cb, e, h⟩, hb⟩ => ⟨⟨cb, e, h.mono (fun x hx h => ⟨h, hx⟩)⟩, hb⟩
end
def nz (o : Option Nt) : Nt := o.getD ⟨0, 0, 0⟩
theorem St.who2 {F : Nat → Prop} {B : Nat} {w : World} {b bw : Nat} {L L2 : List Nt} {fl f2 : Int} (v : Int) (hg : Good L) (hL : L.length ≤ 50000) (h : St F B w b L fl bw L2 f2) : Ret Try.prog 11 [.pointer (some ⟨b, 0, none⟩), .int .u64 v].toArray w fun r w' => r = .tuple #[.int .u64 (nz (whoL fl v L)).c, .int .u64 (nz (whoL fl v L)).i, .bool (whoL fl v L).isSome] ∧ Below w.heap.size w w' :=
  (h.who v hg hL).mono fun r w' ⟨a, b⟩ => ⟨by rw [a]; cases whoL fl v L <;> rfl, b⟩
theorem St.rwho2 {F : Nat → Prop} {B : Nat} {w : World} {b bw : Nat} {L L2 : List Nt} {fl f2 : Int} (v : Int) (hL : L2.length ≤ 50000) (h : St F B w b L fl bw L2 f2) : Ret Try.prog 37 [.pointer (some ⟨bw, 0, none⟩), .int .u64 v].toArray w fun r w' => r = .tuple #[.agg #[.int .u64 (nz (whoL f2 v L2)).c, .int .u64 (nz (whoL f2 v L2)).v, .int .u64 (nz (whoL f2 v L2)).i], .bool (whoL f2 v L2).isSome] ∧ Below w.heap.size w w' :=
  (h.rwho v hL).mono fun r w' ⟨a, b⟩ => ⟨by rw [a]; cases whoL f2 v L2 <;> rfl, b⟩
theorem asks_ret {F : Nat → Prop} {B : Nat} {w : World} {b bw : Nat} {L : List Nt} {fl : Int} (c v : Int) (hg : Good L) (hL : L.length ≤ 50000) (h : St F B w b L fl bw L fl) : Ret Try.prog 19 [.pointer (some ⟨b, 0, none⟩), .pointer (some ⟨bw, 0, none⟩), .int .u64 c, .int .u64 v].toArray w fun r w' => r = .bool true ∧ Below w.heap.size w w' := by
  refine Ret.of (n := 86) (rs := #[.tmp 8]) Try.func19 rfl rfl rfl (by simp) ?_
  refine WC.seqR rfl ?_
  refine WL.y rfl (Y.assign) ?_
  refine WL.nil ?_
  refine WC.seqR rfl ?_
  refine WL.y rfl (Y.move) ?_
  refine WL.y rfl (Y.move) ?_
  refine WL.y rfl (Y.move) ?_
  refine WL.call rfl (C.func go10) (h.at c v hg hL) ?_
  rintro _ w22 ⟨rfl, hb22⟩
  refine WL.y rfl (Y.move) ?_
  refine WL.y rfl (Y.extract rfl rfl) ?_
  refine WL.y rfl (Y.extract rfl rfl) ?_
  refine WL.y rfl (Y.assign) ?_
  refine WL.y rfl (Y.assign) ?_
  refine WL.nil ?_
  refine WC.seqR rfl ?_
  refine WL.y rfl (Y.move) ?_
  refine WL.y rfl (Y.move) ?_
  refine WL.y rfl (Y.move) ?_
  refine WL.call rfl (C.func go36) ((h.bel hb22).rat c v hL) ?_
  rintro _ _ ⟨rfl, rfl⟩
  refine WL.y rfl (Y.move) ?_
  refine WL.y rfl (Y.extract rfl rfl) ?_
  refine WL.y rfl (Y.extract rfl rfl) ?_
  refine WL.y rfl (Y.assign) ?_
  refine WL.y rfl (Y.assign) ?_
  refine WL.nil ?_
  refine WC.seqR rfl ?_
  refine WL.y rfl (Y.move) ?_
  refine WL.y rfl (Y.move) ?_
  refine WL.call rfl (C.func go11) ((h.bel hb22).who2 v hg hL) ?_
  rintro _ w35 ⟨rfl, hb35⟩
  refine WL.y rfl (Y.move) ?_
  refine WL.y rfl (Y.extract rfl rfl) ?_
  refine WL.y rfl (Y.extract rfl rfl) ?_
  refine WL.y rfl (Y.extract rfl rfl) ?_
  refine WL.y rfl (Y.assign) ?_
  refine WL.y rfl (Y.assign) ?_
  refine WL.y rfl (Y.assign) ?_
  refine WL.nil ?_
  refine WC.seqR rfl ?_
  refine WL.y rfl (Y.move) ?_
  refine WL.y rfl (Y.move) ?_
  refine WL.call rfl (C.func go37) (((h.bel hb22).bel hb35).rwho2 v hL) ?_
  rintro _ w42 ⟨rfl, hb42⟩
  have h42 := ((h.bel hb22).bel hb35).bel hb42
  have k42 := Below.step (Below.step hb22 hb35) hb42
  refine WL.y rfl (Y.move) ?_
  refine WL.y rfl (Y.extract rfl rfl) ?_
  refine WL.y rfl (Y.extract rfl rfl) ?_
  refine WL.eex rfl (E.allocX ti43) ?_
  rintro _ w16 ⟨rfl, hB16, hb16⟩
  refine WL.eex rfl (E.storeAllK (us := [.int .u64 (nz (whoL fl v L)).c, .int .u64 (nz (whoL fl v L)).v, .int .u64 (nz (whoL fl v L)).i]) ti43 rfl rfl rfl (nt3_ones1 (nz (whoL fl v L))) hB16 rfl) ?_
  rintro _ w16s ⟨hB16', hg16⟩
  have b16 : Below w42.heap.size w42 w16s := Below.stepG hb16 hg16 (Nat.le_refl _)
  have h16 := h42.bel b16
  refine WL.y rfl (Y.assign) ?_
  refine WL.nil ?_
  refine WC.seqR rfl ?_
  refine WL.y rfl (Y.move) ?_
  refine WL.y rfl (Y.move) ?_
  refine WL.y rfl (Y.dT (Y.eqi rfl rfl) (by omega)) ?_
  refine WL.y rfl (Y.move) ?_
  refine WL.y rfl (Y.move) ?_
  refine WL.y rfl (Y.move) ?_
  refine WL.y rfl (Y.bT (Y.eqb Try.underlying4 rfl rfl) (by simp)) ?_
  refine WL.y rfl (Y.pickT rfl) ?_
  refine WL.y rfl (Y.move) ?_
  refine WL.y rfl (Y.move) ?_
  refine WL.y rfl (Y.move) ?_
  refine WL.y rfl (Y.bT (Y.eqb Try.underlying4 rfl rfl) (by simp)) ?_
  refine WL.y rfl (Y.pickT rfl) ?_
  refine WL.y rfl (Y.move) ?_
  refine WL.y rfl (Y.move) ?_
  refine WL.y rfl (Y.fieldAddr fi43f0 ti22 (by decide) rfl (rfl) _) ?_
  refine WL.y rfl (Y.load1 Try.underlying22 rfl rfl (hB16'.cell 0)) ?_
  refine WL.y rfl (Y.dT (Y.eqi rfl rfl) (by omega)) ?_
  refine WL.y rfl (Y.pickT rfl) ?_
  refine WL.y rfl (Y.move) ?_
  refine WL.y rfl (Y.move) ?_
  refine WL.y rfl (Y.fieldAddr fi43f2 ti22 (by decide) rfl (rfl) _) ?_
  refine WL.y rfl (Y.load1 Try.underlying22 rfl rfl (hB16'.cell 2)) ?_
  refine WL.y rfl (Y.dT (Y.eqi rfl rfl) (by omega)) ?_
  refine WL.y rfl (Y.pickT rfl) ?_
  refine WL.y rfl (Y.move) ?_
  refine WL.y rfl (Y.move) ?_
  refine WL.y rfl (Y.move) ?_
  refine WL.call rfl (C.func go13) (h16.last c) ?_
  rintro _ _ ⟨rfl, rfl⟩
  refine WL.y rfl (Y.move) ?_
  refine WL.y rfl (Y.move) ?_
  refine WL.call rfl (C.func go35) (h16.rlast c hL) ?_
  rintro _ _ ⟨rfl, rfl⟩
  refine WL.y rfl (Y.dT (Y.eqi rfl rfl) (by omega)) ?_
  refine WL.y rfl (Y.pickT rfl) ?_
  refine WL.y rfl (Y.move) ?_
  refine WL.y rfl (Y.move) ?_
  refine WL.call rfl (C.func go14) (h16.newest) ?_
  rintro _ _ ⟨rfl, rfl⟩
  refine WL.y rfl (Y.move) ?_
  refine WL.call rfl (C.func go34) (h16.rnewest) ?_
  rintro _ w83 ⟨rfl, hb83⟩
  refine WL.y rfl (Y.eqi rfl rfl) ?_
  refine WL.y rfl (Y.pickT rfl) ?_
  refine WL.y rfl (Y.assign) ?_
  refine WL.nil ?_
  refine WC.ret (endQ.one (.inr rfl) ?_)
  exact ⟨show Value.bool (decide (newestL L = newestL L)) = _ by simp, Below.step (Below.step k42 b16) hb83⟩
end Go.Proofs.Ytlhhognabmnlmaa
