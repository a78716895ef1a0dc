/-
  Mutators as arguments: as the form reads them.
-/
import Derived.Test.YtcbdpcehacklhaaVal15
import Derived.Test.YtcbdpcehacklhaaMut0
namespace Go.Proofs.Ytcbdpcehacklhaa
open Go Go.RowKit Go.Cx
set_option linter.unusedVariables false
/-- mutators in memory -/
def TAt (w : World) (l : List Mt) (r : Value) : Prop := ∃ lc : List MC, lc.length = l.length ∧ SlK w 19 r l.length (lc.flatMap MC.c) ∧ ∀ j (h : j < l.length) (h' : j < lc.length), MtAt w l[j] lc[j].c
theorem TAt.bel {w w' : World} {l : List Mt} {r : Value} (h : TAt w l r) (hb : Below w.heap.size w w') : TAt w' l r := by
  obtain ⟨lc, h1, h2, h3⟩ := h
  exact ⟨lc, h1, h2.bel hb, fun j h h' => (h3 j h h').bel hb⟩
/-- a mutator as an argument -/
def MArg (w : World) (m : Mt) (a : Value) : Prop := ∃ c : List Value, a = .agg c.toArray ∧ MtAt w m c
/-- mutators as an argument -/
def TArg (w : World) (l : List Mt) (a : Value) : Prop := TAt w l a ∧ l.length ≤ 533096546784
section
variable {H : Type} {enc : TypeId × Value → H} {W : World} {b0 base : Nat} {spare : Nat → Bool} {held : Bool} {v : Value} {d : DataW H} {p : List MemPlace} {r : Reach}
theorem lift_mts {w : World} : ∀ {l : List MC}, (∀ a ∈ l, ∃ v, MtAt w v a.c) → ∃ vs : List Mt, vs.length = l.length ∧ ∀ j (h : j < vs.length) (h' : j < l.length), MtAt w vs[j] l[j].c
  | [], _ => ⟨[], rfl, fun j h => absurd h (by simp)⟩
  | a :: l, hall => by
    have hqq := hall a (by simp)
    obtain ⟨v, hv⟩ := hqq
    have hqq := lift_mts (l := l) (fun x hx => hall x (by simp [hx]))
    obtain ⟨vs, h1, h2⟩ := hqq
    refine ⟨v :: vs, by simp [h1], fun j h h' => ?_⟩
    cases j with
    | zero => exact hv
    | succ j => exact h2 j (by simpa using h) (by simpa using h')
theorem nineteen' {c : List Value} (h : c.length = 19) : ∃ a0 a1 a2 a3 a4 a5 a6 a7 a8 a9 b0 b1 b2 b3 b4 b5 b6 b7 b8, c = [a0, a1, a2, a3, a4, a5, a6, a7, a8, a9, b0, b1, b2, b3, b4, b5, b6, b7, b8] := by
  match c, h with
  | [a0, a1, a2, a3, a4, a5, a6, a7, a8, a9, b0, b1, b2, b3, b4, b5, b6, b7, b8], _ => exact ⟨a0, a1, a2, a3, a4, a5, a6, a7, a8, a9, b0, b1, b2, b3, b4, b5, b6, b7, b8, rfl⟩
theorem open_mat : ∀ (fuel : Nat) (cs : List Value) (x : DataW H × List MemPlace), DataW.trod enc Try.prog W base spare held fuel 30 cs = some x → Sz Try.prog 30 x.1 → ∃ m : Mt, MtAt W m cs := by
  intro fuel
  induction fuel using Nat.strongRecOn with
  | _ fuel ih =>
  intro cs x h hsz
  have hl : cs.length = 19 := (open_len Try.underlying30 h).trans (by kernel_rfl)
  have hqq := nineteen' hl
  obtain ⟨a0, a1, a2, a3, a4, a5, a6, a7, a8, a9, b0, b1, b2, b3, b4, b5, b6, b7, b8, rfl⟩ := hqq
  have k0 : Try.prog.cellsOf 22 = 1 := by kernel_rfl
  have k1 : Try.prog.cellsOf 4 = 1 := by kernel_rfl
  have k2 : Try.prog.cellsOf 2 = 1 := by kernel_rfl
  have k3 : Try.prog.cellsOf 9 = 1 := by kernel_rfl
  have k4 : Try.prog.cellsOf 28 = 1 := by kernel_rfl
  have k5 : Try.prog.cellsOf 30 = 19 := by kernel_rfl
  have k6 : Try.prog.cellsOf 27 = 6 := by kernel_rfl
  have hqq := open_field fi30f0 h hsz
  obtain ⟨m0, y0, -, t0, -⟩ := hqq
  have hqq := open_field fi30f1 h hsz
  obtain ⟨m1, y1, -, t1, s1⟩ := hqq
  have hqq := open_field fi30f2 h hsz
  obtain ⟨m2, y2, -, t2, s2⟩ := hqq
  have hqq := open_field fi30f3 h hsz
  obtain ⟨m3, y3, -, t3, -⟩ := hqq
  have hqq := open_field fi30f4 h hsz
  obtain ⟨m4, y4, -, t4, -⟩ := hqq
  have hqq := open_field fi30f5 h hsz
  obtain ⟨m5, y5, -, t5, s5⟩ := hqq
  have hqq := open_field fi30f6 h hsz
  obtain ⟨m6, y6, -, t6, -⟩ := hqq
  have hqq := open_field fi30f7 h hsz
  obtain ⟨m7, y7, -, t7, s7⟩ := hqq
  have hqq := open_field fi30f8 h hsz
  obtain ⟨m8, y8, f8, t8, s8⟩ := hqq
  rw [k0] at t0
  rw [k3] at t1 t2
  rw [k2] at t3
  rw [k1] at t4 t6
  rw [k6] at t5 t7
  rw [k4] at t8
  simp only [List.drop_zero, List.drop_succ_cons, List.take_succ_cons, List.take_zero] at t0 t1 t2 t3 t4 t5 t6 t7 t8
  have hqq := DataW.trod_int Try.underlying22 t0
  obtain ⟨n0, e0, -, w0⟩ := hqq
  have hqq := open_string_in Try.underlying9 t1 s1
  obtain ⟨n1, e1, l1⟩ := hqq
  have hqq := open_string_in Try.underlying9 t2 s2
  obtain ⟨n2, e2, l2⟩ := hqq
  have hqq := DataW.trod_int Try.underlying2 t3
  obtain ⟨n3, e3, -, w3⟩ := hqq
  have hqq := DataW.trod_bool Try.underlying4 t4
  obtain ⟨n4, e4, -⟩ := hqq
  have hqq := open_vat _ _ _ t5 s5
  obtain ⟨n5, e5⟩ := hqq
  have hqq := DataW.trod_bool Try.underlying4 t6
  obtain ⟨n6, e6, -⟩ := hqq
  have hqq := open_vat _ _ _ t7 s7
  obtain ⟨n7, e7⟩ := hqq
  obtain ⟨v8, l8, e8, hs8, g8, z8⟩ := open_slice_of (α := MC) (encE := MC.c) (Good := fun a => ∃ v, MtAt W v a.c) Try.underlying28 k5 (by decide) MC.h (fun n hn cs x hx hs => by
    have hqq := ih n (by omega) cs x hx hs
    obtain ⟨v, hv⟩ := hqq
    exact ⟨⟨cs, hv.len⟩, rfl, v, hv⟩) t8 s8
  have e0 := cons1 e0
  have e1 := cons1 e1
  have e2 := cons1 e2
  have e3 := cons1 e3
  have e4 := cons1 e4
  have e6 := cons1 e6
  have e8 := cons1 e8
  subst e0 e1 e2 e3 e4 e6 e8
  have hqq := lift_mts g8
  obtain ⟨vs8, q1, q2⟩ := hqq
  have b8 : Try.prog.bytesOf 30 = 264 := by kernel_rfl
  rw [b8] at z8
  have hr : reachBytes = 140737488351232 := rfl
  have r0 := int_range w0
  have r3 := int_range w3
  have i1 : IntKind.i64.min = -9223372036854775808 := rfl
  have i2 : IntKind.i64.max = 9223372036854775807 := rfl
  rw [i1, i2] at r0 r3
  refine ⟨.mk n0 n1 n2 n3 n4 n5 n6 n7 vs8, ?_⟩
  refine MtAt.mk (m := .mk n0 n1 n2 n3 n4 n5 n6 n7 vs8) (lc := l8) ⟨r0, r3, l1, l2, ?_⟩ e5 e7 q1.symm q2 ?_
  · show vs8.length ≤ _
    omega
  · show SlK W 19 _ vs8.length _
    rw [q1]; exact hs8
set_option maxRecDepth 100000 in
theorem openT30 (hval : Value.okWide Try.prog W r b0 30 v) (h : DataW.Trod enc Try.prog W base spare held 30 v d p) (hsz : Sz Try.prog 30 d) : ∃ x : Mt, MArg W x v := by
  have hq := Go.WideShapes.okWide_struct (P := Try.prog) (w := W) (r := r) (base := b0) (t := 30) (v := v) Try.underlying30 hval
  have hq2 : ∃ cs, v = .agg cs := Exists.imp (fun _ h => h.1) hq
  clear hq
  obtain ⟨cs, rfl⟩ := hq2
  obtain ⟨fuel, hf⟩ := h
  have hqq := open_mat fuel _ _ hf hsz
  obtain ⟨x, hx⟩ := hqq
  exact ⟨x, cs.toList, by cases cs; rfl, hx⟩
theorem openT28 (hval : Value.okWide Try.prog W r b0 28 v) (h : DataW.Trod enc Try.prog W base spare held 28 v d p) (hsz : Sz Try.prog 28 d) : ∃ x : List Mt, TArg W x v := by
  have hqq := Go.WideShapes.okWide_slice Try.underlying28 hval
  obtain ⟨a, len, cap, rfl⟩ := hqq
  obtain ⟨fuel, hf⟩ := h
  obtain ⟨v', l, e, hs, hg, hz⟩ := open_slice_of (α := MC) (encE := MC.c) (Good := fun a => ∃ v, MtAt W v a.c) Try.underlying28 (show Try.prog.cellsOf 30 = 19 by kernel_rfl) (by decide) MC.h (fun n hn cs x hx hs => by
    have hqq := open_mat n cs x hx hs
    obtain ⟨v, hv⟩ := hqq
    exact ⟨⟨cs, hv.len⟩, rfl, v, hv⟩) hf hsz
  have hqq := lift_mts hg
  obtain ⟨vs, q1, q2⟩ := hqq
  have b8 : Try.prog.bytesOf 30 = 264 := by kernel_rfl
  rw [b8] at hz
  have hr : reachBytes = 140737488351232 := rfl
  have e1 : Value.slice a len cap = v' := cons1 e
  rw [e1]
  exact ⟨vs, ⟨l, q1.symm, by rw [q1]; exact hs, q2⟩, by omega⟩
end
end Go.Proofs.Ytcbdpcehacklhaa
