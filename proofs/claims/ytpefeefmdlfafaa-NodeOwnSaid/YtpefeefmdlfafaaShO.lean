/-
  Shapes as arguments: as the form reads them.
-/
import Derived.Test.YtpefeefmdlfafaaVal15
import Derived.Test.YtpefeefmdlfafaaNod1
namespace Go.Proofs.Ytpefeefmdlfafaa
open Go Go.RowKit Go.Cx
set_option linter.unusedVariables false
/-- a shape as an argument -/
def SArg (w : World) (s : Sh) (a : Value) : Prop := ∃ c : List Value, a = .agg c.toArray ∧ ShAt w s c
/-- shapes in memory -/
def SsAt (w : World) (l : List Sh) (r : Value) : Prop := ∃ lc : List SC, lc.length = l.length ∧ SlK w 2 r l.length (lc.flatMap SC.c) ∧ (∀ j (h : j < l.length) (h' : j < lc.length), ShAt w l[j] lc[j].c) ∧ l.length ≤ 2932031007402
section
variable {H : Type} {enc : TypeId × Value → H} {W : World} {b0 base : Nat} {spare : Nat → Bool} {held : Bool} {v : Value} {d : DataW H} {p : List MemPlace} {r : Reach}
theorem lift_shs {w : World} : ∀ {l : List SC}, (∀ a ∈ l, ∃ v, ShAt w v a.c) → ∃ vs : List Sh, vs.length = l.length ∧ ∀ j (h : j < vs.length) (h' : j < l.length), ShAt w vs[j] l[j].c
  | [], _ => ⟨[], rfl, fun j h => absurd h (by simp)⟩
  | a :: l, hall => by
    have hqq := hall a (by simp)
    obtain ⟨v, hv⟩ := hqq
    have hqq := lift_shs (l := l) (fun x hx => hall x (by simp [hx]))
    obtain ⟨vs, h1, h2⟩ := hqq
    refine ⟨v :: vs, by simp [h1], fun j h h' => ?_⟩
    cases j with
    | zero => exact hv
    | succ j => exact h2 j (by simpa using h) (by simpa using h')
theorem open_eat {t : TypeId} {fuel : Nat} {cs : List Value} {x : DataW H × List MemPlace} (t4 : DataW.trod enc Try.prog W base spare held fuel 22 cs = some x) (s4 : Sz Try.prog 22 x.1) : ∃ (e : List En) (r : Value), cs = [r] ∧ EAt W e r ∧ e.length ≤ 1353245080300 := by
  have k3 : Try.prog.cellsOf 9 = 1 := by kernel_rfl
  have k6 : Try.prog.cellsOf 40 = 6 := by kernel_rfl
  obtain ⟨v5, l5, e5, hs5, g5, z5⟩ := open_slice_of (α := List UInt8 × VC) (encE := mc) (Good := fun a => ∃ v, VAt W v a.2.c) Try.underlying22 (show Try.prog.cellsOf 42 = 7 by kernel_rfl) (by decide) mc_len (fun n hn cs x hx hs => by
    have hl7 : cs.length = 7 := (open_len Try.underlying42 hx).trans (by kernel_rfl)
    have hqq := open_field fi42f0 hx hs
    obtain ⟨q0, y0, -, t0, s0⟩ := hqq
    have hqq := open_field fi42f1 hx hs
    obtain ⟨q1, y1, b1, t1, s1⟩ := hqq
    rw [k3] at t0
    rw [k6] at t1
    match cs, hl7 with
    | a :: cs, hl =>
      simp only [List.length_cons] at hl
      simp only [List.drop_zero, List.drop_succ_cons, List.take_succ_cons, List.take_zero] at t0 t1
      rw [List.take_of_length_le (by omega)] at t1
      have hqq := open_string_in Try.underlying9 t0 s0
      obtain ⟨s, es, hs0⟩ := hqq
      have hqq := open_vat q1 cs _ t1 s1
      obtain ⟨v, hv⟩ := hqq
      have es := cons1 es
      subst es
      exact ⟨(s, ⟨cs, hv.len⟩), rfl, v, hv⟩) t4 s4
  obtain ⟨vs5, q3, q4⟩ := lift_list (w := W) (l := l5.map Prod.snd) (fun a ha => by
    have hqq := List.mem_map.1 ha
    obtain ⟨b, hb, rfl⟩ := hqq
    exact g5 b hb)
  have b5 : Try.prog.bytesOf 42 = 104 := by kernel_rfl
  rw [b5] at z5
  have hr : reachBytes = 140737488351232 := rfl
  have q3' : vs5.length = l5.length := by rw [q3, List.length_map]
  have q5 : ((l5.map Prod.fst).zip vs5).length = l5.length := by rw [List.length_zip, List.length_map]; omega
  have q6 : ((l5.map Prod.fst).zip vs5).map Prod.fst = l5.map Prod.fst := by rw [List.map_fst_zip]; rw [List.length_map]; omega
  refine ⟨(l5.map Prod.fst).zip vs5, v5, e5, ⟨l5.map Prod.snd, by rw [List.length_map, q5], ?_, fun j h h' => ?_⟩, by omega⟩
  · unfold ents
    rw [q5, q6, zip_fs]; exact hs5
  · simp only [List.getElem_zip]
    exact q4 j (by omega) h'
theorem open_shat : ∀ (fuel : Nat) (cs : List Value) (x : DataW H × List MemPlace), DataW.trod enc Try.prog W base spare held fuel 25 cs = some x → Sz Try.prog 25 x.1 → ∃ s : Sh, ShAt W s cs := by
  intro fuel
  induction fuel using Nat.strongRecOn with
  | _ fuel ih =>
  intro cs x h hsz
  have hl : cs.length = 2 := (open_len Try.underlying25 h).trans (by kernel_rfl)
  match cs, hl with
  | [a0, a1], _ =>
  have k0 : Try.prog.cellsOf 22 = 1 := by kernel_rfl
  have k1 : Try.prog.cellsOf 23 = 1 := by kernel_rfl
  have k2 : Try.prog.cellsOf 25 = 2 := by kernel_rfl
  have hqq := open_field fi25f0 h hsz
  obtain ⟨m0, y0, f0, t0, s0⟩ := hqq
  have hqq := open_field fi25f1 h hsz
  obtain ⟨m1, y1, f1, t1, s1⟩ := hqq
  rw [k0] at t0
  rw [k1] at t1
  simp only [List.drop_zero, List.drop_succ_cons, List.take_succ_cons, List.take_zero] at t0 t1
  have hqq := open_eat (t := 0) t0 s0
  obtain ⟨es, r0, e0, h0, z0⟩ := hqq
  obtain ⟨v8, l8, e8, hs8, g8, z8⟩ := open_slice_of (α := SC) (encE := SC.c) (Good := fun a => ∃ v, ShAt W v a.c) Try.underlying23 k2 (by decide) SC.h (fun n hn cs x hx hs => by
    have hqq := ih n (by omega) cs x hx hs
    obtain ⟨v, hv⟩ := hqq
    exact ⟨⟨cs, hv.len⟩, rfl, v, hv⟩) t1 s1
  have e0 := cons1 e0
  have e8 := cons1 e8
  subst e0 e8
  have hqq := lift_shs g8
  obtain ⟨vs8, q1, q2⟩ := hqq
  have b8 : Try.prog.bytesOf 25 = 48 := by kernel_rfl
  rw [b8] at z8
  have hr : reachBytes = 140737488351232 := rfl
  refine ⟨.mk es vs8, ?_⟩
  exact ShAt.mk (s := .mk es vs8) (lc := l8) h0 z0 q1.symm q2 (by show SlK W 2 _ vs8.length _; rw [q1]; exact hs8) (by show vs8.length ≤ _; omega)
set_option maxRecDepth 100000 in
theorem openT25 (hval : Value.okWide Try.prog W r b0 25 v) (h : DataW.Trod enc Try.prog W base spare held 25 v d p) (hsz : Sz Try.prog 25 d) : ∃ x : Sh, SArg W x v := by
  have hq := Go.WideShapes.okWide_struct (P := Try.prog) (w := W) (r := r) (base := b0) (t := 25) (v := v) Try.underlying25 hval
  have hq2 : ∃ cs, v = .agg cs := Exists.imp (fun _ h => h.1) hq
  clear hq
  obtain ⟨cs, rfl⟩ := hq2
  obtain ⟨fuel, hf⟩ := h
  have hqq := open_shat fuel _ _ hf hsz
  obtain ⟨x, hx⟩ := hqq
  exact ⟨x, cs.toList, by cases cs; rfl, hx⟩
theorem openT23 (hval : Value.okWide Try.prog W r b0 23 v) (h : DataW.Trod enc Try.prog W base spare held 23 v d p) (hsz : Sz Try.prog 23 d) : ∃ x : List Sh, SsAt W x v := by
  have hqq := Go.WideShapes.okWide_slice Try.underlying23 hval
  obtain ⟨a, len, cap, rfl⟩ := hqq
  obtain ⟨fuel, hf⟩ := h
  obtain ⟨v', l, e, hs, hg, hz⟩ := open_slice_of (α := SC) (encE := SC.c) (Good := fun a => ∃ v, ShAt W v a.c) Try.underlying23 (show Try.prog.cellsOf 25 = 2 by kernel_rfl) (by decide) SC.h (fun n hn cs x hx hs => by
    have hqq := open_shat n cs x hx hs
    obtain ⟨v, hv⟩ := hqq
    exact ⟨⟨cs, hv.len⟩, rfl, v, hv⟩) hf hsz
  have hqq := lift_shs hg
  obtain ⟨vs, q1, q2⟩ := hqq
  have b8 : Try.prog.bytesOf 25 = 48 := by kernel_rfl
  rw [b8] at hz
  have hr : reachBytes = 140737488351232 := rfl
  have e1 : Value.slice a len cap = v' := cons1 e
  rw [e1]
  exact ⟨vs, l, q1.symm, by rw [q1]; exact hs, q2, by omega⟩
end
end Go.Proofs.Ytpefeefmdlfafaa
