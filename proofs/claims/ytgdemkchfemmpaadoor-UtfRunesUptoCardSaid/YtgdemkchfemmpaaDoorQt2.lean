/-
  utf: pairs of escapes, letters of escapes: walks.
-/
import Derived.Test.YtgdemkchfemmpaaDoorQt1
namespace Go.Proofs.YtgdemkchfemmpaaDoor
open Go Go.RowKit Go.Cx
set_option linter.unusedVariables false
set_option maxHeartbeats 4000000
theorem unit_some (w : World) (l : List UInt8) (hl : l.length ≤ 4611686018427387904) {n : Nat} (h : hexL l = some n) : Ret Tryd.prog 40 [strv l].toArray w fun v w' => v = .tuple #[.int .i32 (n : Int), .bool true] ∧ w = w' :=
  (unit_ret w l hl).mono (by rintro v w' ⟨rfl, rfl⟩; rw [h]; exact ⟨rfl, rfl⟩)
theorem unit_none (w : World) (l : List UInt8) (hl : l.length ≤ 4611686018427387904) (h : hexL l = none) : Ret Tryd.prog 40 [strv l].toArray w fun v w' => v = .tuple #[.int .i32 0, .bool false] ∧ w = w' :=
  (unit_ret w l hl).mono (by rintro v w' ⟨rfl, rfl⟩; rw [h]; exact ⟨rfl, rfl⟩)
/-- a rune, how many bytes were read, an error -/
def tri (p : Nat × Nat × Nat) : Value := .tuple #[.int .i32 (p.1 : Int), .int .i64 (p.2.1 : Int), .int .i64 (p.2.2 : Int)]
def pairS (n : Nat) (rest : List UInt8) : Nat × Nat × Nat :=
  if n < 55296 ∨ 57344 ≤ n then (n, 6, 0) else if 56320 ≤ n then (0, 0, 3) else match hexL rest with
    | none => (0, 0, 3)
    | some m => if 56320 ≤ m ∧ m < 57344 then (65536 + 1024 * (n - 55296) + (m - 56320), 12, 0) else (0, 0, 3)
theorem tri_of {p : Nat × Nat × Nat} {a b c : Nat} {z : Int} (h : p = (a, b, c)) (e : (a : Int) = z) : Value.tuple #[.int .i32 z, .int .i64 (b : Int), .int .i64 (c : Int)] = tri p := by subst h; subst e; rfl
theorem paired_ret (w : World) (n : Nat) (rest : List UInt8) (hl : rest.length ≤ 4611686018427387904) (hn : n < 65536) : Ret Tryd.prog 41 [.int .i32 (n : Int), strv rest].toArray w fun v w' => v = tri (pairS n rest) ∧ w = w' := by
  by_cases h0 : n < 55296
  · have e : pairS n rest = (n, 6, 0) := by unfold pairS; rw [if_pos (.inl h0)]
    refine Ret.of (n := 40) (rs := #[.tmp 4, .tmp 5, .tmp 6]) Tryd.func41 rfl rfl rfl (by simp) ?_
    refine WC.seqR rfl ?_
    refine WL.y rfl (Y.assign) ?_
    refine WL.y rfl (Y.assign) ?_
    refine WL.y rfl (Y.assign) ?_
    refine WL.nil ?_
    refine WC.seq ?_
    refine WC.seqR rfl ?_
    refine WL.y rfl (Y.move) ?_
    refine WL.y rfl (Y.dT (Y.lss rfl rfl) (by omega)) ?_
    refine WL.y rfl (Y.move) ?_
    refine WL.off rfl ?_
    refine WL.off rfl ?_
    refine WL.y rfl (Y.pickT rfl) ?_
    refine WL.nil ?_
    refine WC.condT (rfl) ?_
    refine WC.seqR rfl ?_
    refine WL.y rfl (Y.move) ?_
    refine WL.y rfl (Y.assign) ?_
    refine WL.y rfl (Y.assign) ?_
    refine WL.y rfl (Y.assign) ?_
    refine WL.nil ?_
    refine WC.ret (thenQ.ret (endQ.three (.inr rfl) ?_))
    exact ⟨tri_of (b := 6) (c := 0) e rfl, rfl⟩
  · by_cases h1 : 57344 ≤ n
    · have e : pairS n rest = (n, 6, 0) := by unfold pairS; rw [if_pos (.inr h1)]
      refine Ret.of (n := 40) (rs := #[.tmp 4, .tmp 5, .tmp 6]) Tryd.func41 rfl rfl rfl (by simp) ?_
      refine WC.seqR rfl ?_
      refine WL.y rfl (Y.assign) ?_
      refine WL.y rfl (Y.assign) ?_
      refine WL.y rfl (Y.assign) ?_
      refine WL.nil ?_
      refine WC.seq ?_
      refine WC.seqR rfl ?_
      refine WL.y rfl (Y.move) ?_
      refine WL.y rfl (Y.dF (Y.lss rfl rfl) (by omega)) ?_
      refine WL.y rfl (Y.move) ?_
      refine WL.y rfl (Y.move) ?_
      refine WL.y rfl (Y.dT (Y.geq rfl rfl) (by omega)) ?_
      refine WL.y rfl (Y.pickF rfl) ?_
      refine WL.nil ?_
      refine WC.condT (rfl) ?_
      refine WC.seqR rfl ?_
      refine WL.y rfl (Y.move) ?_
      refine WL.y rfl (Y.assign) ?_
      refine WL.y rfl (Y.assign) ?_
      refine WL.y rfl (Y.assign) ?_
      refine WL.nil ?_
      refine WC.ret (thenQ.ret (endQ.three (.inr rfl) ?_))
      exact ⟨tri_of (b := 6) (c := 0) e rfl, rfl⟩
    · by_cases h2 : 56320 ≤ n
      · have e : pairS n rest = (0, 0, 3) := by unfold pairS; rw [if_neg (by omega), if_pos h2]
        refine Ret.of (n := 40) (rs := #[.tmp 4, .tmp 5, .tmp 6]) Tryd.func41 rfl rfl rfl (by simp) ?_
        refine WC.seqR rfl ?_
        refine WL.y rfl (Y.assign) ?_
        refine WL.y rfl (Y.assign) ?_
        refine WL.y rfl (Y.assign) ?_
        refine WL.nil ?_
        refine WC.seq ?_
        refine WC.seqR rfl ?_
        refine WL.y rfl (Y.move) ?_
        refine WL.y rfl (Y.dF (Y.lss rfl rfl) (by omega)) ?_
        refine WL.y rfl (Y.move) ?_
        refine WL.y rfl (Y.move) ?_
        refine WL.y rfl (Y.dF (Y.geq rfl rfl) (by omega)) ?_
        refine WL.y rfl (Y.pickF rfl) ?_
        refine WL.nil ?_
        refine WC.condF (rfl) ?_
        refine WC.skip (thenQ.normal ?_)
        refine WC.seq ?_
        refine WC.seqR rfl ?_
        refine WL.y rfl (Y.move) ?_
        refine WL.y rfl (Y.dT (Y.geq rfl rfl) (by omega)) ?_
        refine WL.nil ?_
        refine WC.condT (rfl) ?_
        refine WC.seqR rfl ?_
        refine WL.y rfl (Y.assign) ?_
        refine WL.y rfl (Y.assign) ?_
        refine WL.y rfl (Y.assign) ?_
        refine WL.nil ?_
        refine WC.ret (thenQ.ret (endQ.three (.inr rfl) ?_))
        exact ⟨tri_of (a := 0) (b := 0) (c := 3) e rfl, rfl⟩
      · have e : pairS n rest = (match hexL rest with | none => (0, 0, 3) | some m => if 56320 ≤ m ∧ m < 57344 then (65536 + 1024 * (n - 55296) + (m - 56320), 12, 0) else (0, 0, 3)) := by unfold pairS; rw [if_neg (by omega), if_neg h2]
        cases hm : hexL rest with
        | none =>
          rw [hm] at e
          refine Ret.of (n := 40) (rs := #[.tmp 4, .tmp 5, .tmp 6]) Tryd.func41 rfl rfl rfl (by simp) ?_
          refine WC.seqR rfl ?_
          refine WL.y rfl (Y.assign) ?_
          refine WL.y rfl (Y.assign) ?_
          refine WL.y rfl (Y.assign) ?_
          refine WL.nil ?_
          refine WC.seq ?_
          refine WC.seqR rfl ?_
          refine WL.y rfl (Y.move) ?_
          refine WL.y rfl (Y.dF (Y.lss rfl rfl) (by omega)) ?_
          refine WL.y rfl (Y.move) ?_
          refine WL.y rfl (Y.move) ?_
          refine WL.y rfl (Y.dF (Y.geq rfl rfl) (by omega)) ?_
          refine WL.y rfl (Y.pickF rfl) ?_
          refine WL.nil ?_
          refine WC.condF (rfl) ?_
          refine WC.skip (thenQ.normal ?_)
          refine WC.seq ?_
          refine WC.seqR rfl ?_
          refine WL.y rfl (Y.move) ?_
          refine WL.y rfl (Y.dF (Y.geq rfl rfl) (by omega)) ?_
          refine WL.nil ?_
          refine WC.condF (rfl) ?_
          refine WC.skip (thenQ.normal ?_)
          refine WC.seqR rfl ?_
          refine WL.y rfl (Y.move) ?_
          refine WL.call rfl (C.func go40) (unit_none _ rest hl hm) ?_
          rintro _ _ ⟨rfl, rfl⟩
          refine WL.y rfl (Y.move) ?_
          refine WL.y rfl (Y.extract rfl rfl) ?_
          refine WL.y rfl (Y.extract rfl rfl) ?_
          refine WL.y rfl (Y.assign) ?_
          refine WL.y rfl (Y.assign) ?_
          refine WL.nil ?_
          refine WC.seq ?_
          refine WC.seqR rfl ?_
          refine WL.y rfl (Y.move) ?_
          refine WL.y rfl (Y.not rfl) ?_
          refine WL.y rfl (Y.move) ?_
          refine WL.off rfl ?_
          refine WL.off rfl ?_
          refine WL.y rfl (Y.pickT rfl) ?_
          refine WL.y rfl (Y.move) ?_
          refine WL.off rfl ?_
          refine WL.off rfl ?_
          refine WL.y rfl (Y.pickT rfl) ?_
          refine WL.nil ?_
          refine WC.condT (rfl) ?_
          refine WC.seqR rfl ?_
          refine WL.y rfl (Y.assign) ?_
          refine WL.y rfl (Y.assign) ?_
          refine WL.y rfl (Y.assign) ?_
          refine WL.nil ?_
          refine WC.ret (thenQ.ret (endQ.three (.inr rfl) ?_))
          exact ⟨tri_of (a := 0) (b := 0) (c := 3) e rfl, rfl⟩
        | some m =>
          rw [hm] at e
          have hm6 := hexL_lt hm
          by_cases h3 : 56320 ≤ m
          · by_cases h4 : m < 57344
            · have e2 : pairS n rest = (65536 + 1024 * (n - 55296) + (m - 56320), 12, 0) := e.trans (if_pos ⟨h3, h4⟩)
              refine Ret.of (n := 40) (rs := #[.tmp 4, .tmp 5, .tmp 6]) Tryd.func41 rfl rfl rfl (by simp) ?_
              refine WC.seqR rfl ?_
              refine WL.y rfl (Y.assign) ?_
              refine WL.y rfl (Y.assign) ?_
              refine WL.y rfl (Y.assign) ?_
              refine WL.nil ?_
              refine WC.seq ?_
              refine WC.seqR rfl ?_
              refine WL.y rfl (Y.move) ?_
              refine WL.y rfl (Y.dF (Y.lss rfl rfl) (by omega)) ?_
              refine WL.y rfl (Y.move) ?_
              refine WL.y rfl (Y.move) ?_
              refine WL.y rfl (Y.dF (Y.geq rfl rfl) (by omega)) ?_
              refine WL.y rfl (Y.pickF rfl) ?_
              refine WL.nil ?_
              refine WC.condF (rfl) ?_
              refine WC.skip (thenQ.normal ?_)
              refine WC.seq ?_
              refine WC.seqR rfl ?_
              refine WL.y rfl (Y.move) ?_
              refine WL.y rfl (Y.dF (Y.geq rfl rfl) (by omega)) ?_
              refine WL.nil ?_
              refine WC.condF (rfl) ?_
              refine WC.skip (thenQ.normal ?_)
              refine WC.seqR rfl ?_
              refine WL.y rfl (Y.move) ?_
              refine WL.call rfl (C.func go40) (unit_some _ rest hl hm) ?_
              rintro _ _ ⟨rfl, rfl⟩
              refine WL.y rfl (Y.move) ?_
              refine WL.y rfl (Y.extract rfl rfl) ?_
              refine WL.y rfl (Y.extract rfl rfl) ?_
              refine WL.y rfl (Y.assign) ?_
              refine WL.y rfl (Y.assign) ?_
              refine WL.nil ?_
              refine WC.seq ?_
              refine WC.seqR rfl ?_
              refine WL.y rfl (Y.move) ?_
              refine WL.y rfl (Y.not rfl) ?_
              refine WL.y rfl (Y.move) ?_
              refine WL.y rfl (Y.move) ?_
              refine WL.y rfl (Y.dF (Y.lss rfl rfl) (by omega)) ?_
              refine WL.y rfl (Y.pickF rfl) ?_
              refine WL.y rfl (Y.move) ?_
              refine WL.y rfl (Y.move) ?_
              refine WL.y rfl (Y.dF (Y.geq rfl rfl) (by omega)) ?_
              refine WL.y rfl (Y.pickF rfl) ?_
              refine WL.nil ?_
              refine WC.condF (rfl) ?_
              refine WC.skip (thenQ.normal ?_)
              refine WC.seqR rfl ?_
              refine WL.y rfl (Y.move) ?_
              refine WL.y rfl (Y.subI32 rfl rfl (by omega)) ?_
              refine WL.y rfl (Y.mulI32 rfl rfl (by omega)) ?_
              refine WL.y rfl (Y.addI32 rfl rfl (by omega)) ?_
              refine WL.y rfl (Y.move) ?_
              refine WL.y rfl (Y.subI32 rfl rfl (by omega)) ?_
              refine WL.y rfl (Y.addI32 rfl rfl (by omega)) ?_
              refine WL.y rfl (Y.assign) ?_
              refine WL.y rfl (Y.assign) ?_
              refine WL.y rfl (Y.assign) ?_
              refine WL.nil ?_
              refine WC.ret (endQ.three (.inr rfl) ?_)
              exact ⟨tri_of (b := 12) (c := 0) e2 (by omega), rfl⟩
            · have e2 : pairS n rest = (0, 0, 3) := e.trans (if_neg (by omega))
              refine Ret.of (n := 40) (rs := #[.tmp 4, .tmp 5, .tmp 6]) Tryd.func41 rfl rfl rfl (by simp) ?_
              refine WC.seqR rfl ?_
              refine WL.y rfl (Y.assign) ?_
              refine WL.y rfl (Y.assign) ?_
              refine WL.y rfl (Y.assign) ?_
              refine WL.nil ?_
              refine WC.seq ?_
              refine WC.seqR rfl ?_
              refine WL.y rfl (Y.move) ?_
              refine WL.y rfl (Y.dF (Y.lss rfl rfl) (by omega)) ?_
              refine WL.y rfl (Y.move) ?_
              refine WL.y rfl (Y.move) ?_
              refine WL.y rfl (Y.dF (Y.geq rfl rfl) (by omega)) ?_
              refine WL.y rfl (Y.pickF rfl) ?_
              refine WL.nil ?_
              refine WC.condF (rfl) ?_
              refine WC.skip (thenQ.normal ?_)
              refine WC.seq ?_
              refine WC.seqR rfl ?_
              refine WL.y rfl (Y.move) ?_
              refine WL.y rfl (Y.dF (Y.geq rfl rfl) (by omega)) ?_
              refine WL.nil ?_
              refine WC.condF (rfl) ?_
              refine WC.skip (thenQ.normal ?_)
              refine WC.seqR rfl ?_
              refine WL.y rfl (Y.move) ?_
              refine WL.call rfl (C.func go40) (unit_some _ rest hl hm) ?_
              rintro _ _ ⟨rfl, rfl⟩
              refine WL.y rfl (Y.move) ?_
              refine WL.y rfl (Y.extract rfl rfl) ?_
              refine WL.y rfl (Y.extract rfl rfl) ?_
              refine WL.y rfl (Y.assign) ?_
              refine WL.y rfl (Y.assign) ?_
              refine WL.nil ?_
              refine WC.seq ?_
              refine WC.seqR rfl ?_
              refine WL.y rfl (Y.move) ?_
              refine WL.y rfl (Y.not rfl) ?_
              refine WL.y rfl (Y.move) ?_
              refine WL.y rfl (Y.move) ?_
              refine WL.y rfl (Y.dF (Y.lss rfl rfl) (by omega)) ?_
              refine WL.y rfl (Y.pickF rfl) ?_
              refine WL.y rfl (Y.move) ?_
              refine WL.y rfl (Y.move) ?_
              refine WL.y rfl (Y.dT (Y.geq rfl rfl) (by omega)) ?_
              refine WL.y rfl (Y.pickF rfl) ?_
              refine WL.nil ?_
              refine WC.condT (rfl) ?_
              refine WC.seqR rfl ?_
              refine WL.y rfl (Y.assign) ?_
              refine WL.y rfl (Y.assign) ?_
              refine WL.y rfl (Y.assign) ?_
              refine WL.nil ?_
              refine WC.ret (thenQ.ret (endQ.three (.inr rfl) ?_))
              exact ⟨tri_of (a := 0) (b := 0) (c := 3) e2 rfl, rfl⟩
          · have e2 : pairS n rest = (0, 0, 3) := e.trans (if_neg (by omega))
            refine Ret.of (n := 40) (rs := #[.tmp 4, .tmp 5, .tmp 6]) Tryd.func41 rfl rfl rfl (by simp) ?_
            refine WC.seqR rfl ?_
            refine WL.y rfl (Y.assign) ?_
            refine WL.y rfl (Y.assign) ?_
            refine WL.y rfl (Y.assign) ?_
            refine WL.nil ?_
            refine WC.seq ?_
            refine WC.seqR rfl ?_
            refine WL.y rfl (Y.move) ?_
            refine WL.y rfl (Y.dF (Y.lss rfl rfl) (by omega)) ?_
            refine WL.y rfl (Y.move) ?_
            refine WL.y rfl (Y.move) ?_
            refine WL.y rfl (Y.dF (Y.geq rfl rfl) (by omega)) ?_
            refine WL.y rfl (Y.pickF rfl) ?_
            refine WL.nil ?_
            refine WC.condF (rfl) ?_
            refine WC.skip (thenQ.normal ?_)
            refine WC.seq ?_
            refine WC.seqR rfl ?_
            refine WL.y rfl (Y.move) ?_
            refine WL.y rfl (Y.dF (Y.geq rfl rfl) (by omega)) ?_
            refine WL.nil ?_
            refine WC.condF (rfl) ?_
            refine WC.skip (thenQ.normal ?_)
            refine WC.seqR rfl ?_
            refine WL.y rfl (Y.move) ?_
            refine WL.call rfl (C.func go40) (unit_some _ rest hl hm) ?_
            rintro _ _ ⟨rfl, rfl⟩
            refine WL.y rfl (Y.move) ?_
            refine WL.y rfl (Y.extract rfl rfl) ?_
            refine WL.y rfl (Y.extract rfl rfl) ?_
            refine WL.y rfl (Y.assign) ?_
            refine WL.y rfl (Y.assign) ?_
            refine WL.nil ?_
            refine WC.seq ?_
            refine WC.seqR rfl ?_
            refine WL.y rfl (Y.move) ?_
            refine WL.y rfl (Y.not rfl) ?_
            refine WL.y rfl (Y.move) ?_
            refine WL.y rfl (Y.move) ?_
            refine WL.y rfl (Y.dT (Y.lss rfl rfl) (by omega)) ?_
            refine WL.y rfl (Y.pickF rfl) ?_
            refine WL.y rfl (Y.move) ?_
            refine WL.off rfl ?_
            refine WL.off rfl ?_
            refine WL.y rfl (Y.pickT rfl) ?_
            refine WL.nil ?_
            refine WC.condT (rfl) ?_
            refine WC.seqR rfl ?_
            refine WL.y rfl (Y.assign) ?_
            refine WL.y rfl (Y.assign) ?_
            refine WL.y rfl (Y.assign) ?_
            refine WL.nil ?_
            refine WC.ret (thenQ.ret (endQ.three (.inr rfl) ?_))
            exact ⟨tri_of (a := 0) (b := 0) (c := 3) e2 rfl, rfl⟩
/-- the letters of escapes, and their runes -/
def runOf (c : Nat) : Option Nat := if c = 34 then some 34 else if c = 92 then some 92 else if c = 47 then some 47 else if c = 98 then some 8 else if c = 102 then some 12 else if c = 110 then some 10 else if c = 114 then some 13 else if c = 116 then some 9 else none
def i32v (n : Nat) : Value := .int .i32 (n : Int)
def runM : List (Int × Value) := [(34, i32v 34), (92, i32v 92), (47, i32v 47), (98, i32v 8), (102, i32v 12), (110, i32v 10), (114, i32v 13), (116, i32v 9)]
def encM (m : List (Int × Value)) : List (Value × Value) := m.map fun p => (Value.int .i32 p.1, p.2)
theorem mget_cons (c k : Nat) (v : Value) (m : List (Int × Value)) : mget (c : Int) (((k : Int), v) :: m) = if c = k then some v else mget (c : Int) m := by
  show (if (c : Int) = (k : Int) then _ else _) = _
  by_cases h : c = k
  · rw [if_pos (by omega), if_pos h]
  · rw [if_neg (by omega), if_neg h]
theorem mget_run (c : Nat) : mget (c : Int) runM = (runOf c).map i32v := by
  have e : runM = [(((34 : Nat) : Int), i32v 34), (((92 : Nat) : Int), i32v 92), (((47 : Nat) : Int), i32v 47), (((98 : Nat) : Int), i32v 8), (((102 : Nat) : Int), i32v 12), (((110 : Nat) : Int), i32v 10), (((114 : Nat) : Int), i32v 13), (((116 : Nat) : Int), i32v 9)] := rfl
  rw [e]
  simp only [mget_cons]
  unfold runOf
  repeat' split
  all_goals rfl
/-- the runes that have a letter, and the letters -/
def letOf (c : Nat) : Option Nat := if c = 34 then some 34 else if c = 92 then some 92 else if c = 8 then some 98 else if c = 9 then some 116 else if c = 10 then some 110 else if c = 12 then some 102 else if c = 13 then some 114 else none
def letM : List (Int × Value) := [(34, i32v 34), (92, i32v 92), (8, i32v 98), (9, i32v 116), (10, i32v 110), (12, i32v 102), (13, i32v 114)]
theorem mget_let (c : Nat) : mget (c : Int) letM = (letOf c).map i32v := by
  have e : letM = [(((34 : Nat) : Int), i32v 34), (((92 : Nat) : Int), i32v 92), (((8 : Nat) : Int), i32v 98), (((9 : Nat) : Int), i32v 116), (((10 : Nat) : Int), i32v 110), (((12 : Nat) : Int), i32v 102), (((13 : Nat) : Int), i32v 114)] := rfl
  rw [e]
  simp only [mget_cons]
  unfold letOf
  repeat' split
  all_goals rfl
theorem runMap_ret (w : World) : Ret Tryd.prog 30 [].toArray w fun v w' => v = .map (some w.heap.size) ∧ MapAt w' w.heap.size (encM runM) ∧ Below w.heap.size w w' := by
  refine Ret.of (n := 3) (rs := #[.tmp 0]) Tryd.func30 rfl rfl rfl (by simp) ?_
  refine WC.seqR rfl ?_
  refine WL.y rfl (Y.assign) ?_
  refine WL.nil ?_
  refine WC.seqR rfl ?_
  refine WL.eex rfl (E.makeMapX) ?_
  rintro v1 w1 ⟨rfl, hm1, hb1⟩
  refine WL.eex rfl (E.insertNew (m := runM.take 0) (v := i32v 34) Tryd.underlying47 (kd_int Tryd.underlying21) rfl hm1 rfl rfl rfl) ?_
  rintro _ wa ⟨hma, hga⟩
  refine WL.eex rfl (E.insertNew (m := runM.take 1) (v := i32v 92) Tryd.underlying47 (kd_int Tryd.underlying21) rfl hma rfl rfl rfl) ?_
  rintro _ wb ⟨hmb, hgb⟩
  refine WL.eex rfl (E.insertNew (m := runM.take 2) (v := i32v 47) Tryd.underlying47 (kd_int Tryd.underlying21) rfl hmb rfl rfl rfl) ?_
  rintro _ wc ⟨hmc, hgc⟩
  refine WL.eex rfl (E.insertNew (m := runM.take 3) (v := i32v 8) Tryd.underlying47 (kd_int Tryd.underlying21) rfl hmc rfl rfl rfl) ?_
  rintro _ wd ⟨hmd, hgd⟩
  refine WL.eex rfl (E.insertNew (m := runM.take 4) (v := i32v 12) Tryd.underlying47 (kd_int Tryd.underlying21) rfl hmd rfl rfl rfl) ?_
  rintro _ we ⟨hme, hge⟩
  refine WL.eex rfl (E.insertNew (m := runM.take 5) (v := i32v 10) Tryd.underlying47 (kd_int Tryd.underlying21) rfl hme rfl rfl rfl) ?_
  rintro _ wf ⟨hmf, hgf⟩
  refine WL.eex rfl (E.insertNew (m := runM.take 6) (v := i32v 13) Tryd.underlying47 (kd_int Tryd.underlying21) rfl hmf rfl rfl rfl) ?_
  rintro _ wg ⟨hmg, hgg⟩
  refine WL.eex rfl (E.insertNew (m := runM.take 7) (v := i32v 9) Tryd.underlying47 (kd_int Tryd.underlying21) rfl hmg rfl rfl rfl) ?_
  rintro _ wh ⟨hmh, hgh⟩
  refine WL.y rfl (Y.move) ?_
  refine WL.y rfl (Y.assign) ?_
  refine WL.nil ?_
  refine WC.ret (endQ.one (.inr rfl) ?_)
  have k := Below.stepG (Below.stepG (Below.stepG (Below.stepG (Below.stepG (Below.stepG (Below.stepG (Below.stepG (hb1) hga (Nat.le_refl _)) hgb (Nat.le_refl _)) hgc (Nat.le_refl _)) hgd (Nat.le_refl _)) hge (Nat.le_refl _)) hgf (Nat.le_refl _)) hgg (Nat.le_refl _)) hgh (Nat.le_refl _)
  exact ⟨rfl, hmh, k⟩
theorem letMap_ret (w : World) : Ret Tryd.prog 26 [].toArray w fun v w' => v = .map (some w.heap.size) ∧ MapAt w' w.heap.size (encM letM) ∧ Below w.heap.size w w' := by
  refine Ret.of (n := 3) (rs := #[.tmp 0]) Tryd.func26 rfl rfl rfl (by simp) ?_
  refine WC.seqR rfl ?_
  refine WL.y rfl (Y.assign) ?_
  refine WL.nil ?_
  refine WC.seqR rfl ?_
  refine WL.eex rfl (E.makeMapX) ?_
  rintro v1 w1 ⟨rfl, hm1, hb1⟩
  refine WL.eex rfl (E.insertNew (m := letM.take 0) (v := i32v 34) Tryd.underlying47 (kd_int Tryd.underlying21) rfl hm1 rfl rfl rfl) ?_
  rintro _ wa ⟨hma, hga⟩
  refine WL.eex rfl (E.insertNew (m := letM.take 1) (v := i32v 92) Tryd.underlying47 (kd_int Tryd.underlying21) rfl hma rfl rfl rfl) ?_
  rintro _ wb ⟨hmb, hgb⟩
  refine WL.eex rfl (E.insertNew (m := letM.take 2) (v := i32v 98) Tryd.underlying47 (kd_int Tryd.underlying21) rfl hmb rfl rfl rfl) ?_
  rintro _ wc ⟨hmc, hgc⟩
  refine WL.eex rfl (E.insertNew (m := letM.take 3) (v := i32v 116) Tryd.underlying47 (kd_int Tryd.underlying21) rfl hmc rfl rfl rfl) ?_
  rintro _ wd ⟨hmd, hgd⟩
  refine WL.eex rfl (E.insertNew (m := letM.take 4) (v := i32v 110) Tryd.underlying47 (kd_int Tryd.underlying21) rfl hmd rfl rfl rfl) ?_
  rintro _ we ⟨hme, hge⟩
  refine WL.eex rfl (E.insertNew (m := letM.take 5) (v := i32v 102) Tryd.underlying47 (kd_int Tryd.underlying21) rfl hme rfl rfl rfl) ?_
  rintro _ wf ⟨hmf, hgf⟩
  refine WL.eex rfl (E.insertNew (m := letM.take 6) (v := i32v 114) Tryd.underlying47 (kd_int Tryd.underlying21) rfl hmf rfl rfl rfl) ?_
  rintro _ wg ⟨hmg, hgg⟩
  refine WL.y rfl (Y.move) ?_
  refine WL.y rfl (Y.assign) ?_
  refine WL.nil ?_
  refine WC.ret (endQ.one (.inr rfl) ?_)
  have k := Below.stepG (Below.stepG (Below.stepG (Below.stepG (Below.stepG (Below.stepG (Below.stepG (hb1) hga (Nat.le_refl _)) hgb (Nat.le_refl _)) hgc (Nat.le_refl _)) hgd (Nat.le_refl _)) hge (Nat.le_refl _)) hgf (Nat.le_refl _)) hgg (Nat.le_refl _)
  exact ⟨rfl, hmg, k⟩
/-- what an escape is: the rune, how many bytes, an error -/
def escS (l : List UInt8) : Nat × Nat × Nat := match hexL l with
  | some n => pairS n (l.drop 6)
  | none => if 2 ≤ l.length then match runOf (bt l 1) with
      | some r => (r, 2, 0)
      | none => (0, 0, 4)
    else (0, 0, 4)
theorem escape_ret (w : World) (l : List UInt8) (b : Nat) (hl : l.length ≤ 4611686018427387904) (hm : MapAt w b (encM runM)) : Ret Tryd.prog 31 [strv l, .map (some b)].toArray w fun v w' => v = tri (escS l) ∧ w = w' := by
  have hb1 : bt l 1 = (l.getD 1 0).toNat := rfl
  have hbl := bt_lt l 1
  cases hn : hexL l with
  | some n =>
    have e : escS l = pairS n (l.drop 6) := by unfold escS; rw [hn]
    have hlen := (hexL_len hn).1
    refine Ret.of (n := 37) (rs := #[.tmp 4, .tmp 5, .tmp 6]) Tryd.func31 rfl rfl rfl (by simp) ?_
    refine WC.seqR rfl ?_
    refine WL.y rfl (Y.assign) ?_
    refine WL.y rfl (Y.assign) ?_
    refine WL.y rfl (Y.assign) ?_
    refine WL.nil ?_
    refine WC.seq ?_
    refine WC.seqR rfl ?_
    refine WL.y rfl (Y.move) ?_
    refine WL.call rfl (C.func go40) (unit_some _ l hl hn) ?_
    rintro _ _ ⟨rfl, rfl⟩
    refine WL.y rfl (Y.move) ?_
    refine WL.y rfl (Y.extract rfl rfl) ?_
    refine WL.y rfl (Y.extract rfl rfl) ?_
    refine WL.y rfl (Y.assign) ?_
    refine WL.y rfl (Y.assign) ?_
    refine WL.nil ?_
    refine WC.seqR rfl ?_
    refine WL.y rfl (Y.move) ?_
    refine WL.nil ?_
    refine WC.condT (rfl) ?_
    refine WC.seqR rfl ?_
    refine WL.y rfl (Y.move) ?_
    refine WL.y rfl (Y.move) ?_
    refine WL.y rfl (Y.sliceFromN (6) Tryd.underlying9 rfl rfl (by omega) (by omega) _) ?_
    refine WL.call rfl (C.func go41) (paired_ret _ n (l.drop 6) (by rw [List.length_drop]; omega) (hexL_lt hn)) ?_
    rintro _ _ ⟨rfl, rfl⟩
    refine WL.y rfl (Y.extract rfl rfl) ?_
    refine WL.y rfl (Y.extract rfl rfl) ?_
    refine WL.y rfl (Y.extract rfl rfl) ?_
    refine WL.y rfl (Y.assign) ?_
    refine WL.y rfl (Y.assign) ?_
    refine WL.y rfl (Y.assign) ?_
    refine WL.nil ?_
    refine WC.ret (thenQ.ret (endQ.three (.inr rfl) ?_))
    exact ⟨by rw [e]; rfl, rfl⟩
  | none =>
    by_cases h2 : 2 ≤ l.length
    · have e : escS l = (match runOf (bt l 1) with | some r => (r, 2, 0) | none => (0, 0, 4)) := by unfold escS; rw [hn]; exact if_pos h2
      have hg := mget_run (bt l 1)
      rw [hb1] at hg
      cases hr : runOf (bt l 1) with
      | some r =>
        rw [hr] at e
        rw [← hb1, hr] at hg
        refine Ret.of (n := 37) (rs := #[.tmp 4, .tmp 5, .tmp 6]) Tryd.func31 rfl rfl rfl (by simp) ?_
        refine WC.seqR rfl ?_
        refine WL.y rfl (Y.assign) ?_
        refine WL.y rfl (Y.assign) ?_
        refine WL.y rfl (Y.assign) ?_
        refine WL.nil ?_
        refine WC.seq ?_
        refine WC.seqR rfl ?_
        refine WL.y rfl (Y.move) ?_
        refine WL.call rfl (C.func go40) (unit_none _ l hl hn) ?_
        rintro _ _ ⟨rfl, rfl⟩
        refine WL.y rfl (Y.move) ?_
        refine WL.y rfl (Y.extract rfl rfl) ?_
        refine WL.y rfl (Y.extract rfl rfl) ?_
        refine WL.y rfl (Y.assign) ?_
        refine WL.y rfl (Y.assign) ?_
        refine WL.nil ?_
        refine WC.seqR rfl ?_
        refine WL.y rfl (Y.move) ?_
        refine WL.nil ?_
        refine WC.condF (rfl) ?_
        refine WC.skip (thenQ.normal ?_)
        refine WC.seq ?_
        refine WC.seqR rfl ?_
        refine WL.y rfl (Y.move) ?_
        refine WL.y rfl (Y.lenS Tryd.underlying9 rfl _) ?_
        refine WL.y rfl (Y.dT (Y.gtr rfl rfl) (by omega)) ?_
        refine WL.nil ?_
        refine WC.condT (rfl) ?_
        refine WC.seqR rfl ?_
        refine WL.y rfl (Y.move) ?_
        refine WL.y rfl (Y.move) ?_
        refine WL.y rfl (Y.idxN (1) Tryd.underlying9 rfl rfl (by omega) (by omega) _) ?_
        refine WL.y rfl (Y.conviR Tryd.underlying5 Tryd.underlying21 rfl (by simp only [IntKind.min, IntKind.max, IntKind.signed, IntKind.bits]; omega)) ?_
        refine WL.y rfl (Y.lookup2S (m := runM) Tryd.underlying47 (kd_int Tryd.underlying21) ti21 rfl hm rfl hg) ?_
        refine WL.y rfl (Y.move) ?_
        refine WL.y rfl (Y.extract rfl rfl) ?_
        refine WL.y rfl (Y.extract rfl rfl) ?_
        refine WL.y rfl (Y.assign) ?_
        refine WL.y rfl (Y.assign) ?_
        refine WL.nil ?_
        refine WC.seqR rfl ?_
        refine WL.y rfl (Y.move) ?_
        refine WL.nil ?_
        refine WC.condT (rfl) ?_
        refine WC.seqR rfl ?_
        refine WL.y rfl (Y.move) ?_
        refine WL.y rfl (Y.assign) ?_
        refine WL.y rfl (Y.assign) ?_
        refine WL.y rfl (Y.assign) ?_
        refine WL.nil ?_
        refine WC.ret (thenQ.ret (endQ.three (.inr rfl) ?_))
        exact ⟨tri_of (b := 2) (c := 0) e rfl, rfl⟩
      | none =>
        rw [hr] at e
        rw [← hb1, hr] at hg
        refine Ret.of (n := 37) (rs := #[.tmp 4, .tmp 5, .tmp 6]) Tryd.func31 rfl rfl rfl (by simp) ?_
        refine WC.seqR rfl ?_
        refine WL.y rfl (Y.assign) ?_
        refine WL.y rfl (Y.assign) ?_
        refine WL.y rfl (Y.assign) ?_
        refine WL.nil ?_
        refine WC.seq ?_
        refine WC.seqR rfl ?_
        refine WL.y rfl (Y.move) ?_
        refine WL.call rfl (C.func go40) (unit_none _ l hl hn) ?_
        rintro _ _ ⟨rfl, rfl⟩
        refine WL.y rfl (Y.move) ?_
        refine WL.y rfl (Y.extract rfl rfl) ?_
        refine WL.y rfl (Y.extract rfl rfl) ?_
        refine WL.y rfl (Y.assign) ?_
        refine WL.y rfl (Y.assign) ?_
        refine WL.nil ?_
        refine WC.seqR rfl ?_
        refine WL.y rfl (Y.move) ?_
        refine WL.nil ?_
        refine WC.condF (rfl) ?_
        refine WC.skip (thenQ.normal ?_)
        refine WC.seq ?_
        refine WC.seqR rfl ?_
        refine WL.y rfl (Y.move) ?_
        refine WL.y rfl (Y.lenS Tryd.underlying9 rfl _) ?_
        refine WL.y rfl (Y.dT (Y.gtr rfl rfl) (by omega)) ?_
        refine WL.nil ?_
        refine WC.condT (rfl) ?_
        refine WC.seqR rfl ?_
        refine WL.y rfl (Y.move) ?_
        refine WL.y rfl (Y.move) ?_
        refine WL.y rfl (Y.idxN (1) Tryd.underlying9 rfl rfl (by omega) (by omega) _) ?_
        refine WL.y rfl (Y.conviR Tryd.underlying5 Tryd.underlying21 rfl (by simp only [IntKind.min, IntKind.max, IntKind.signed, IntKind.bits]; omega)) ?_
        refine WL.y rfl (Y.lookup2N (m := runM) Tryd.underlying47 (kd_int Tryd.underlying21) ti21 rfl hm rfl hg) ?_
        refine WL.y rfl (Y.move) ?_
        refine WL.y rfl (Y.extract rfl rfl) ?_
        refine WL.y rfl (Y.extract rfl rfl) ?_
        refine WL.y rfl (Y.assign) ?_
        refine WL.y rfl (Y.assign) ?_
        refine WL.nil ?_
        refine WC.seqR rfl ?_
        refine WL.y rfl (Y.move) ?_
        refine WL.nil ?_
        refine WC.condF (rfl) ?_
        refine WC.skip (thenQ.normal ?_)
        refine WC.seqR rfl ?_
        refine WL.y rfl (Y.assign) ?_
        refine WL.y rfl (Y.assign) ?_
        refine WL.y rfl (Y.assign) ?_
        refine WL.nil ?_
        refine WC.ret (endQ.three (.inr rfl) ?_)
        exact ⟨tri_of (a := 0) (b := 0) (c := 4) e rfl, rfl⟩
    · have e : escS l = (0, 0, 4) := by unfold escS; rw [hn]; exact if_neg h2
      refine Ret.of (n := 37) (rs := #[.tmp 4, .tmp 5, .tmp 6]) Tryd.func31 rfl rfl rfl (by simp) ?_
      refine WC.seqR rfl ?_
      refine WL.y rfl (Y.assign) ?_
      refine WL.y rfl (Y.assign) ?_
      refine WL.y rfl (Y.assign) ?_
      refine WL.nil ?_
      refine WC.seq ?_
      refine WC.seqR rfl ?_
      refine WL.y rfl (Y.move) ?_
      refine WL.call rfl (C.func go40) (unit_none _ l hl hn) ?_
      rintro _ _ ⟨rfl, rfl⟩
      refine WL.y rfl (Y.move) ?_
      refine WL.y rfl (Y.extract rfl rfl) ?_
      refine WL.y rfl (Y.extract rfl rfl) ?_
      refine WL.y rfl (Y.assign) ?_
      refine WL.y rfl (Y.assign) ?_
      refine WL.nil ?_
      refine WC.seqR rfl ?_
      refine WL.y rfl (Y.move) ?_
      refine WL.nil ?_
      refine WC.condF (rfl) ?_
      refine WC.skip (thenQ.normal ?_)
      refine WC.seq ?_
      refine WC.seqR rfl ?_
      refine WL.y rfl (Y.move) ?_
      refine WL.y rfl (Y.lenS Tryd.underlying9 rfl _) ?_
      refine WL.y rfl (Y.dF (Y.gtr rfl rfl) (by omega)) ?_
      refine WL.nil ?_
      refine WC.condF (rfl) ?_
      refine WC.skip (thenQ.normal ?_)
      refine WC.seqR rfl ?_
      refine WL.y rfl (Y.assign) ?_
      refine WL.y rfl (Y.assign) ?_
      refine WL.y rfl (Y.assign) ?_
      refine WL.nil ?_
      refine WC.ret (endQ.three (.inr rfl) ?_)
      exact ⟨tri_of (a := 0) (b := 0) (c := 4) e rfl, rfl⟩
end Go.Proofs.YtgdemkchfemmpaaDoor
