/-
  Values as arguments: as the form reads them.
-/
import Derived.Test.YthcppegkpkgnpaaDoorVal14
import Derived.Test.YthcppegkpkgnpaaDoorOpen2
namespace Go.Proofs.YthcppegkpkgnpaaDoor
open Go Go.RowKit Go.Cx
set_option linter.unusedVariables false
/-- a value as an argument -/
def VArg (w : World) (v : V) (a : Value) : Prop := ∃ c : List Value, a = .agg c.toArray ∧ VAt w v c
section
variable {H : Type} {enc : TypeId × Value → H} {W : World} {b0 base : Nat} {spare : Nat → Bool} {held : Bool} {v : Value} {d : DataW H} {p : List MemPlace} {r : Reach}
theorem lift_list {w : World} : ∀ {l : List VC}, (∀ a ∈ l, ∃ v, VAt w v a.c) → ∃ vs : List V, vs.length = l.length ∧ ∀ j (h : j < vs.length) (h' : j < l.length), VAt w vs[j] l[j].c
  | [], _ => ⟨[], rfl, fun j h => absurd h (by simp)⟩
  | a :: l, hall => by
    have hqq := hall a (by simp)
    obtain ⟨v, hv⟩ := hqq
    have hqq := lift_list (l := l) (fun x hx => hall x (by simp [hx]))
    obtain ⟨vs, h1, h2⟩ := hqq
    refine ⟨v :: vs, by simp [h1], fun j h h' => ?_⟩
    cases j with
    | zero => exact hv
    | succ j => exact h2 j (by simpa using h) (by simpa using h')
theorem zip_fs {α β : Type} : ∀ l : List (α × β), (l.map Prod.fst).zip (l.map Prod.snd) = l
  | [] => rfl
  | a :: l => by simp [zip_fs l]
theorem cons1 {a b : Value} (h : [a] = [b]) : a = b := by simpa using h
theorem open_string_in {t : TypeId} {fuel : Nat} {cs : List Value} {x : DataW H × List MemPlace} (ht : Tryd.prog.underlying t = some .string) (h : DataW.trod enc Tryd.prog W base spare held fuel t cs = some x) (hsz : Sz Tryd.prog t x.1) :
    ∃ s : List UInt8, cs = [strv s] ∧ s.length ≤ 140737488351232 := by
  have hqq := DataW.trod_string ht h
  obtain ⟨s, rfl, hx, -⟩ := hqq
  refine ⟨s.data.toList, by rw [strv_of], ?_⟩
  rw [hx] at hsz
  exact sz_string hsz
theorem open_vat : ∀ (fuel : Nat) (cs : List Value) (x : DataW H × List MemPlace), DataW.trod enc Tryd.prog W base spare held fuel 26 cs = some x → Sz Tryd.prog 26 x.1 → ∃ v : V, VAt W v cs := by
  intro fuel
  induction fuel using Nat.strongRecOn with
  | _ fuel ih =>
  intro cs x h hsz
  have hl6 : cs.length = 6 := (open_len Tryd.underlying26 h).trans (by kernel_rfl)
  have hqq := six hl6
  obtain ⟨c0, c1, c2, c3, c4, c5, rfl⟩ := hqq
  have k0 : Tryd.prog.cellsOf 23 = 1 := by kernel_rfl
  have k1 : Tryd.prog.cellsOf 4 = 1 := by kernel_rfl
  have k2 : Tryd.prog.cellsOf 2 = 1 := by kernel_rfl
  have k3 : Tryd.prog.cellsOf 9 = 1 := by kernel_rfl
  have k4 : Tryd.prog.cellsOf 24 = 1 := by kernel_rfl
  have k5 : Tryd.prog.cellsOf 22 = 1 := by kernel_rfl
  have k6 : Tryd.prog.cellsOf 26 = 6 := by kernel_rfl
  have hqq := open_field fi26f0 h hsz
  obtain ⟨m0, y0, -, t0, -⟩ := hqq
  have hqq := open_field fi26f1 h hsz
  obtain ⟨m1, y1, -, t1, -⟩ := hqq
  have hqq := open_field fi26f2 h hsz
  obtain ⟨m2, y2, -, t2, -⟩ := hqq
  have hqq := open_field fi26f3 h hsz
  obtain ⟨m3, y3, -, t3, s3⟩ := hqq
  have hqq := open_field fi26f4 h hsz
  obtain ⟨m4, y4, f4, t4, s4⟩ := hqq
  have hqq := open_field fi26f5 h hsz
  obtain ⟨m5, y5, f5, t5, s5⟩ := hqq
  rw [k0] at t0
  rw [k1] at t1
  rw [k2] at t2
  rw [k3] at t3
  rw [k4] at t4
  rw [k5] at t5
  simp only [List.drop_zero, List.drop_succ_cons, List.take_succ_cons, List.take_zero] at t0 t1 t2 t3 t4 t5
  have hqq := DataW.trod_int Tryd.underlying23 t0
  obtain ⟨n0, e0, -, w0⟩ := hqq
  have hqq := DataW.trod_bool Tryd.underlying4 t1
  obtain ⟨n1, e1, -⟩ := hqq
  have hqq := DataW.trod_int Tryd.underlying2 t2
  obtain ⟨n2, e2, -, w2⟩ := hqq
  have hqq := open_string_in Tryd.underlying9 t3 s3
  obtain ⟨n3, e3, l3⟩ := hqq
  obtain ⟨v4, l4, e4, hs4, g4, z4⟩ := open_slice_of (α := VC) (encE := VC.c) (Good := fun a => ∃ v, VAt W v a.c) Tryd.underlying24 k6 (by decide) VC.h (fun n hn cs x hx hs => by
    have hqq := ih n (by omega) cs x hx hs
    obtain ⟨v, hv⟩ := hqq
    exact ⟨⟨cs, hv.len⟩, rfl, v, hv⟩) t4 s4
  obtain ⟨v5, l5, e5, hs5, g5, z5⟩ := open_slice_of (α := List UInt8 × VC) (encE := mc) (Good := fun a => a.1.length ≤ 140737488351232 ∧ ∃ v, VAt W v a.2.c) Tryd.underlying22 (show Tryd.prog.cellsOf 38 = 7 by kernel_rfl) (by decide) mc_len (fun n hn cs x hx hs => by
    have hl7 : cs.length = 7 := (open_len Tryd.underlying38 hx).trans (by kernel_rfl)
    have hqq := open_field fi38f0 hx hs
    obtain ⟨q0, y0, -, t0, s0⟩ := hqq
    have hqq := open_field fi38f1 hx hs
    obtain ⟨q1, y1, b1, t1, s1⟩ := hqq
    rw [k3] at t0
    rw [k6] at t1
    match cs, hl7 with
    | a :: cs, hl =>
      simp only [List.length_cons] at hl
      simp only [List.drop_zero, List.drop_succ_cons, List.take_succ_cons, List.take_zero] at t0 t1
      rw [List.take_of_length_le (by omega)] at t1
      have hqq := open_string_in Tryd.underlying9 t0 s0
      obtain ⟨s, es, hs0⟩ := hqq
      have hqq := ih q1 (by omega) cs _ t1 s1
      obtain ⟨v, hv⟩ := hqq
      have es := cons1 es
      subst es
      exact ⟨(s, ⟨cs, hv.len⟩), rfl, hs0, v, hv⟩) t5 s5
  have e0 := cons1 e0
  have e1 := cons1 e1
  have e2 := cons1 e2
  have e3 := cons1 e3
  have e4 := cons1 e4
  have e5 := cons1 e5
  subst e0 e1 e2 e3 e4 e5
  have hqq := lift_list g4
  obtain ⟨vs4, q1, q2⟩ := hqq
  obtain ⟨vs5, q3, q4⟩ := lift_list (w := W) (l := l5.map Prod.snd) (fun a ha => by
    have hqq := List.mem_map.1 ha
    obtain ⟨b, hb, rfl⟩ := hqq
    exact (g5 b hb).2)
  have b4 : Tryd.prog.bytesOf 26 = 88 := by kernel_rfl
  have b5 : Tryd.prog.bytesOf 38 = 104 := by kernel_rfl
  rw [b4] at z4
  rw [b5] at z5
  have hr : reachBytes = 140737488351232 := rfl
  have r0 := int_range w0
  have r2 := int_range w2
  have e1 : IntKind.i64.min = -9223372036854775808 := rfl
  have e2 : IntKind.i64.max = 9223372036854775807 := rfl
  rw [e1, e2] at r0 r2
  have q3' : vs5.length = l5.length := by rw [q3, List.length_map]
  refine ⟨.mk n0 n1 n2 n3 vs4 (l5.map Prod.fst) vs5, ?_⟩
  refine VAt.mk (v := .mk n0 n1 n2 n3 vs4 (l5.map Prod.fst) vs5) (lc := l4) (oc := l5.map Prod.snd) ⟨r0, r2, l3, ?_, ?_, ?_, ?_⟩ q1.symm q2 ?_ ?_ q4 ?_
  · show vs4.length ≤ _
    omega
  · show vs5.length ≤ _
    omega
  · show (l5.map Prod.fst).length = vs5.length
    rw [List.length_map]; omega
  · intro y hy
    have hqq := List.mem_map.1 hy
    obtain ⟨b, hb, rfl⟩ := hqq
    exact (g5 b hb).1
  · show SlK W 6 _ vs4.length _
    rw [q1]; exact hs4
  · show (l5.map Prod.snd).length = vs5.length
    rw [List.length_map]; omega
  · show SlK W 7 _ vs5.length (((l5.map Prod.fst).zip (l5.map Prod.snd)).flatMap mc)
    rw [q3', zip_fs]; exact hs5
set_option maxRecDepth 100000 in
theorem openT26 (hval : Value.okWide Tryd.prog W r b0 26 v) (h : DataW.Trod enc Tryd.prog W base spare held 26 v d p) (hsz : Sz Tryd.prog 26 d) : ∃ x : V, VArg W x v := by
  have hq := Go.WideShapes.okWide_struct (P := Tryd.prog) (w := W) (r := r) (base := b0) (t := 26) (v := v) Tryd.underlying26 hval
  have hq2 : ∃ cs, v = .agg cs := Exists.imp (fun _ h => h.1) hq
  clear hq
  obtain ⟨cs, rfl⟩ := hq2
  obtain ⟨fuel, hf⟩ := h
  have hqq := open_vat fuel _ _ hf hsz
  obtain ⟨x, hx⟩ := hqq
  exact ⟨x, cs.toList, by cases cs; rfl, hx⟩
end
end Go.Proofs.YthcppegkpkgnpaaDoor
