/-
  law20: notes and acts as arguments: as the form reads them.
-/
import Derived.Test.YtlhhognabmnlmaaTab11
import Derived.Test.YtlhhognabmnlmaaOpen2
namespace Go.Proofs.Ytlhhognabmnlmaa
open Go Go.RowKit Go.Cx
set_option linter.unusedVariables false
def NtU (n : Nt) : Prop := 0 ≤ n.c ∧ 0 ≤ n.v ∧ 0 ≤ n.i
/-- a note as an argument -/
def NArg (w : World) (n : Nt) (a : Value) : Prop := a = .agg (nt3 n).toArray ∧ NtU n
/-- an act: its kind, a client, a version, a number -/
structure A4 where
  k : Int
  c : Int
  v : Int
  i : Int
def ac (a : A4) : List Value := [.int .i64 a.k, .int .u64 a.c, .int .u64 a.v, .int .u64 a.i]
theorem ac_len (a : A4) : (ac a).length = 4 := rfl
def AcU (a : A4) : Prop := 0 ≤ a.c ∧ 0 ≤ a.v ∧ 0 ≤ a.i
/-- acts in memory -/
def AcsAt (w : World) (l : List A4) (r : Value) : Prop := SlK w 4 r l.length (l.flatMap ac) ∧ ∀ a ∈ l, AcU a
theorem elem_ac {w : World} {b o j : Nat} {l : List A4} (h : j < l.length) (hc : Cells w b o (((l.flatMap ac).drop ((j : Int).toNat * 4)).take 4)) : Cells w b o (ac l[j]) := by
  rw [Int.toNat_natCast, flat_at ac_len _ j h] at hc
  exact hc
theorem cons1' {a b : Value} (h : [a] = [b]) : a = b := by simpa using h
section
variable {H : Type} {enc : TypeId × Value → H} {W : World} {b0 base : Nat} {spare : Nat → Bool} {held : Bool} {v : Value} {d : DataW H} {p : List MemPlace} {r : Reach}
theorem u_wf {x : Int} (h : (Lit.int .u64 x).wf = true) : 0 ≤ x := (int_range h).1
theorem open_nt (fuel : Nat) (cs : List Value) (x : DataW H × List MemPlace) (h : DataW.trod enc Try.prog W base spare held fuel 43 cs = some x) (hsz : Sz Try.prog 43 x.1) : ∃ n : Nt, cs = nt3 n ∧ NtU n := by
  have hl : cs.length = 3 := (open_len Try.underlying43 h).trans (by kernel_rfl)
  match cs, hl with
  | [a0, a1, a2], _ =>
  have k : Try.prog.cellsOf 22 = 1 := by kernel_rfl
  have hqq := open_field fi43f0 h hsz
  obtain ⟨m0, y0, -, t0, -⟩ := hqq
  have hqq := open_field fi43f1 h hsz
  obtain ⟨m1, y1, -, t1, -⟩ := hqq
  have hqq := open_field fi43f2 h hsz
  obtain ⟨m2, y2, -, t2, -⟩ := hqq
  rw [k] at t0 t1 t2
  simp only [List.drop_zero, List.drop_succ_cons, List.take_succ_cons, List.take_zero] at t0 t1 t2
  have hqq := DataW.trod_int Try.underlying22 t0
  obtain ⟨n0, e0, -, w0⟩ := hqq
  have hqq := DataW.trod_int Try.underlying22 t1
  obtain ⟨n1, e1, -, w1⟩ := hqq
  have hqq := DataW.trod_int Try.underlying22 t2
  obtain ⟨n2, e2, -, w2⟩ := hqq
  have e0 := cons1' e0
  have e1 := cons1' e1
  have e2 := cons1' e2
  subst e0 e1 e2
  exact ⟨⟨n0, n1, n2⟩, rfl, u_wf w0, u_wf w1, u_wf w2⟩
theorem open_ac (fuel : Nat) (cs : List Value) (x : DataW H × List MemPlace) (h : DataW.trod enc Try.prog W base spare held fuel 53 cs = some x) (hsz : Sz Try.prog 53 x.1) : ∃ n : A4, cs = ac n ∧ AcU n := by
  have hl : cs.length = 4 := (open_len Try.underlying53 h).trans (by kernel_rfl)
  match cs, hl with
  | [a0, a1, a2, a3], _ =>
  have k : Try.prog.cellsOf 22 = 1 := by kernel_rfl
  have ki : Try.prog.cellsOf 3 = 1 := by kernel_rfl
  have hqq := open_field fi53f0 h hsz
  obtain ⟨m0, y0, -, t0, -⟩ := hqq
  have hqq := open_field fi53f1 h hsz
  obtain ⟨m1, y1, -, t1, -⟩ := hqq
  have hqq := open_field fi53f2 h hsz
  obtain ⟨m2, y2, -, t2, -⟩ := hqq
  have hqq := open_field fi53f3 h hsz
  obtain ⟨m3, y3, -, t3, -⟩ := hqq
  rw [ki] at t0
  rw [k] at t1 t2 t3
  simp only [List.drop_zero, List.drop_succ_cons, List.take_succ_cons, List.take_zero] at t0 t1 t2 t3
  have hqq := DataW.trod_int Try.underlying3 t0
  obtain ⟨n0, e0, -, w0⟩ := hqq
  have hqq := DataW.trod_int Try.underlying22 t1
  obtain ⟨n1, e1, -, w1⟩ := hqq
  have hqq := DataW.trod_int Try.underlying22 t2
  obtain ⟨n2, e2, -, w2⟩ := hqq
  have hqq := DataW.trod_int Try.underlying22 t3
  obtain ⟨n3, e3, -, w3⟩ := hqq
  have e0 := cons1' e0
  have e1 := cons1' e1
  have e2 := cons1' e2
  have e3 := cons1' e3
  subst e0 e1 e2 e3
  exact ⟨⟨n0, n1, n2, n3⟩, rfl, u_wf w1, u_wf w2, u_wf w3⟩
set_option maxRecDepth 100000 in
theorem openT43 (hval : Value.okWide Try.prog W r b0 43 v) (h : DataW.Trod enc Try.prog W base spare held 43 v d p) (hsz : Sz Try.prog 43 d) : ∃ x : Nt, NArg W x v := by
  have hq := Go.WideShapes.okWide_struct (P := Try.prog) (w := W) (r := r) (base := b0) (t := 43) (v := v) Try.underlying43 hval
  have hq2 : ∃ cs, v = .agg cs := Exists.imp (fun _ h => h.1) hq
  clear hq
  obtain ⟨cs, rfl⟩ := hq2
  obtain ⟨fuel, hf⟩ := h
  have hqq := open_nt fuel _ _ hf hsz
  obtain ⟨x, hx, hu⟩ := hqq
  have e : cs.toList = nt3 x := hx
  exact ⟨x, by rw [← e], hu⟩
set_option maxRecDepth 100000 in
theorem openT51 (hval : Value.okWide Try.prog W r b0 51 v) (h : DataW.Trod enc Try.prog W base spare held 51 v d p) (hsz : Sz Try.prog 51 d) : ∃ x : List A4, AcsAt W x v := by
  have hqq := Go.WideShapes.okWide_slice Try.underlying51 hval
  obtain ⟨a, len, cap, rfl⟩ := hqq
  obtain ⟨fuel, hf⟩ := h
  have hqq := open_slice_of (α := A4) (encE := ac) (Good := AcU) Try.underlying51 (show Try.prog.cellsOf 53 = 4 by kernel_rfl) (by decide) ac_len (fun n hn cs x hx hs => open_ac n cs x hx hs) hf hsz
  obtain ⟨v', l, e, hs, hg, hz⟩ := hqq
  have e1 : Value.slice a len cap = v' := cons1' e
  rw [e1]
  exact ⟨l, hs, hg⟩
end
end Go.Proofs.Ytlhhognabmnlmaa
