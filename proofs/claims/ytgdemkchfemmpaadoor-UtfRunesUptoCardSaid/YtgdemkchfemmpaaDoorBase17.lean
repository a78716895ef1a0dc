/-
  A function with two ranges over functions, one behind the other; functions and nil.
-/
import Derived.Test.YtgdemkchfemmpaaDoorBase16
namespace Go.Cx
set_option linter.unusedVariables false
open Go Go.RowKit
section
variable {P : Program} {f : Fr} {w : World} {R : Value → World → Prop} {e : Exit} {D E1 : Nat}
def mk (D : Nat) : Deferred := { target := .collected D, args := #[] }
def endQM2 (P : Program) (rs : Array ResultVar) (R : Value → World → Prop) : Post := fun e f ds w =>
  (e = .normal ∨ e = .ret) ∧ ∃ D2 D1, ds = [mk D2, mk D1] ∧ w.heap[D2]? = some (.deferred (some [])) ∧ (w.putObj D2 (.deferred none)).heap[D1]? = some (.deferred (some [])) ∧
    ∃ v, (resS rs f).run P ((w.putObj D2 (.deferred none)).putObj D1 (.deferred none)) = .ok v ((w.putObj D2 (.deferred none)).putObj D1 (.deferred none)) ∧ R v ((w.putObj D2 (.deferred none)).putObj D1 (.deferred none))
theorem Ret.ofM2 {g : FuncId} {fn : Func} {c : Code} {l : List Value} {n : Nat} {rs : Array ResultVar} (hf : P.funcs[g]? = some fn) (hb : fn.body = some c) (hn : fn.ntmps = n) (hrs : fn.results = rs) (hl : l.length ≤ n)
    (h : WC Fence.wide P n c (endQM2 P rs R) (fr0 l) [] w) : Ret P g l.toArray w R := by
  subst hn; subst hrs
  refine callsIn_wide.1 (callsIn_of_wp_marks (n := 0) hf hb trivial ?_)
  refine wpIn_mono (h 0 _ (by simp; omega) (fr_enter l _) rfl) ?_
  rintro e a w' ⟨_, he, D2, D1, hd, hK2, hK1, v, hr, hR⟩
  have key : LeavesInM Fence.wide 0 P fn a.tmps (fun e w'' => ∃ v, e = .returned v ∧ R v w'') a.defers .returning w' := by
    rw [hd]
    exact ⟨by simp, .inl ⟨D2, _, rfl, run_takeDeferred hK2, ⟨by simp, .inl ⟨D1, _, rfl, run_takeDeferred hK1, ⟨v, hr, v, rfl, hR⟩⟩⟩⟩⟩
  rcases he with rfl | rfl <;> exact key
theorem endQM2.markC {a t : Nat} {ds' : TypeDesc} {b o : Nat} {v : Value} (ht : P.underlying t = some ds') (ha : aggD ds' = false) (he : e = .normal ∨ e = .ret) (h2 : w.heap[D]? = some (.deferred (some []))) (h1 : (w.putObj D (.deferred none)).heap[E1]? = some (.deferred (some []))) (hx : f a = .pointer (some ⟨b, o, none⟩))
    (hc : ((w.putObj D (.deferred none)).putObj E1 (.deferred none)).cell? ⟨b, o, none⟩ = some v) (h : R v ((w.putObj D (.deferred none)).putObj E1 (.deferred none))) :
    endQM2 P #[.cell a t] R e f [mk D, mk E1] w :=
  ⟨he, D, E1, rfl, h2, h1, v, by simp [resS, hx, asAddr, run_loadVar1 ht ha hc], h⟩
theorem Y.eqFnNil {d : Option Tmp} {ty : TypeId} {pos : String} {aft : Array Edge} {g : Option (Nat × Bool)} {x y : Operand} {t yt : TypeId} {ps rs : Array TypeId} {va : Bool} {fn : Fn} {c1 c2 : Array Value} (ht : P.underlying t = some (.func ps rs va)) (hx : ev f x = .func fn c1 c2) (hy : ev f y = .nilFunc) : Y P ⟨d, .binOp .eql t x y yt, ty, pos, aft, g⟩ f w (.bool false) :=
  Y.eq_of hx hy rfl (by simp [eqGuard]) fun n => by simp [Op.equalIn, run_underlying ht]
end
end Go.Cx
