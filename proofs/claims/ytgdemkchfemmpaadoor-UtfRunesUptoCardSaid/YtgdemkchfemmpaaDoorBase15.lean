/-
  A string appended to bytes; pointers of another kind; what a strings.Builder's own methods keep.
-/
import Derived.Test.YtgdemkchfemmpaaDoorBase14
import Derived.Lib.AppendStr
import Derived.Lib.Builder
import Derived.Lib.OthersKept
import Derived.Laws.Externs
namespace Go.Cx
set_option linter.unusedVariables false
open Go Go.RowKit
section
variable {P : Program} {f : Fr} {w w' : World} {d : Option Tmp} {ty : TypeId} {pos : String} {aft : Array Edge} {g : Option (Nat × Bool)} {x y : Operand} {t e at1 at2 : TypeId}
theorem Y.nepSame {tp te : TypeId} {yt : TypeId} {z : Value} {n by' : Nat} {a : Addr} (hp : P.underlying tp = some (.pointer te)) (hi : TI P te z n by') (hx : ev f x = .pointer (some a)) (hy : ev f y = .pointer (some a)) :
    Y P ⟨d, .binOp .neq tp x y yt, ty, pos, aft, g⟩ f w (.bool false) := by
  obtain ⟨j, hj, _⟩ := hi.info
  have := Lib.run_neq_ptr_same w a hp hj
  simp [Y, execOp, hx, hy, eqGuard, this, Result.andThen]
theorem Y.toUnsafe {src dst t T : TypeId} {z : Value} {n by' b o : Nat} {vs : List Value} (hs : P.underlying src = some (.pointer t)) (hd : P.underlying dst = some .unsafePointer) (hi : TI P t z n by') (hn : n ≠ 0) (hx : ev f x = .pointer (some ⟨b, o, none⟩)) (hB : Blk w b T vs) (ho : o < vs.length) :
    Y P ⟨d, .convert src dst x, ty, pos, aft, g⟩ f w (.pointer (some ⟨b, o, none⟩)) := by
  obtain ⟨j, hj, _, hsz, _⟩ := hi.info
  have hB' : w.heap[b]? = _ := hB
  have hsh : w.shape? b = some (T, vs.length) := by simp [World.shape?, hB']
  have := Lib.run_to_unsafe w ⟨b, o, none⟩ hs hd hj (by rw [hsz]; exact hn) hsh ho
  simp [Y, execOp, hx, this, Result.andThen]
theorem Y.fromUnsafe {src dst u T : TypeId} {z : Value} {n by' b o : Nat} {vs : List Value} (hs : P.underlying src = some .unsafePointer) (hd : P.underlying dst = some (.pointer u)) (hi : TI P u z n by') (hx : ev f x = .pointer (some ⟨b, o, none⟩)) (hB : Blk w b T vs)
    (hl : liesAt P P.depth T (vs.length / P.cellsOf T) o u 1 = true) :
    Y P ⟨d, .convert src dst x, ty, pos, aft, g⟩ f w (.pointer (some ⟨b, o, none⟩)) := by
  obtain ⟨j, hj, _⟩ := hi.info
  have hB' : w.heap[b]? = _ := hB
  have hsh : w.shape? b = some (T, vs.length) := by simp [World.shape?, hB']
  have := Lib.run_from_unsafe w ⟨b, o, none⟩ hs hd hj hsh hl
  simp [Y, execOp, hx, this, Result.andThen]
theorem Y.noEscape {h : FuncId} {fn : Func} {at' : Array TypeId} {v : Value} (hf : P.funcs[h]? = some fn) (h1 : (fn.name == "runtime.NumGoroutine") = false) (h2 : fn.body.isNone = true) (h3 : Extern.findNext fn = none) (h4 : Extern.find fn = some Extern.AbiNoEscape.same) (hx : ev f x = v) :
    Y P ⟨d, .call ⟨.value (.func h), #[x], at'⟩, ty, pos, aft, g⟩ f w v := by
  have := run_callFunc_extern hf h1 h2 h3 h4 #[v] w
  rw [Lib.run_noEscape] at this
  have e : (execOp (ev f) ⟨d, .call ⟨.value (.func h), #[x], at'⟩, ty, pos, aft, g⟩) = callFunc h #[ev f x] := by simp [execOp, resolve, ev, Deferred.ofValue, invoke]
  show (execOp (ev f) _).run P w = _
  rw [e, hx, this]
  rfl
theorem strCells_strv (l : List UInt8) : Lib.strCells ⟨l.toArray⟩ = l.map u8v := by
  simp only [Lib.strCells]
theorem E.appendS {n B : Nat} {xs : List Value} {l : List UInt8} (ht : P.underlying at1 = some (.slice e)) (hu : P.underlying at2 = some .string) (hi : TI P e (.int .u8 0) 1 1) (hs : w.ownsRow B e 1 (ev f x) n xs) (hy : ev f y = strv l) (hl : n + l.length ≤ 140737488355328) (hB : B ≤ w.heap.size) :
    ∃ v w', E P ⟨d, .call ⟨.builtin .append, #[x, y], #[at1, at2]⟩, ty, pos, aft, g⟩ f w v w' ∧ w'.ownsRow B e 1 v (n + l.length) (xs ++ l.map u8v) ∧ Below B w w' ∧ w.grownBy w' (ev f x).ownBlock := by
  obtain ⟨i, hi1, hi2, hi3, hi4⟩ := hi.info
  obtain ⟨v', w', h1, h2, h3, _⟩ := Lib.run_append_own_string (P := P) w B at1 at2 ty e i ht hu hi1 hi2 hi3 hi4 (ev f x) n xs hs ⟨l.toArray⟩ (by rw [ba_size]; unfold maxLen; omega) (by rw [ba_size]; omega) hB
  rw [ba_size, strCells_strv] at h2
  refine ⟨v', w', .inl ?_, h2, below_of_grown h3 hB (fun b hb' => ownsRow_block hs b hb'), h3⟩
  rw [show strv l = Value.string ⟨l.toArray⟩ from rfl] at hy
  simp [execOp, resolve, invoke, builtin, hy, h1]
end
/-- what a builder's own methods keep: all blocks below B; above them all but the builder's own and the rows of bytes -/
def Wr (T8 : TypeId) (B b : Nat) (w w' : World) : Prop := Below B w w' ∧ Lib.OthersKept T8 (some b) w w'
section
variable {T8 : TypeId} {B b : Nat} {w w' w'' : World}
theorem Wr.refl : Wr T8 B b w w := ⟨Below.refl _ _, Lib.OthersKept.refl _ _ _⟩
theorem Wr.trans (h : Wr T8 B b w w') (k : Wr T8 B b w' w'') : Wr T8 B b w w'' := ⟨h.1.trans k.1, h.2.trans k.2⟩
theorem Wr.of_below (h : Below w.heap.size w w') (hB : B ≤ w.heap.size) : Wr T8 B b w w' :=
  ⟨h.mono hB, fun k o hk _ _ => (h.block k (Array.getElem?_eq_some_iff.1 hk).1).trans hk⟩
theorem Wr.of_self (h : w.grownBy w' (some b)) (hB : B ≤ b) (hs : B ≤ w.heap.size) : Wr T8 B b w w' :=
  ⟨below_of_grown h hs (fun k e => by cases e; exact hB), fun k o hk hne _ => (h.block k (Array.getElem?_eq_some_iff.1 hk).1 (fun e => hne e)).trans hk⟩
theorem Wr.of_row {v : Value} {n : Nat} {xs : List Value} (h : w.grownBy w' v.ownBlock) (ho : w.ownsRow B T8 1 v n xs) (hs : B ≤ w.heap.size) : Wr T8 B b w w' :=
  ⟨below_of_grown h hs (fun k e => ownsRow_block ho k e), fun k o hk _ ho8 => (h.block k (Array.getElem?_eq_some_iff.1 hk).1 (fun e => by
    rcases ho.2 with ⟨rfl, _⟩ | ⟨g, cap, cur, rfl, _, hg, _⟩
    · simp [Value.ownBlock] at e
    · simp [Value.ownBlock] at e
      subst e
      rw [hg] at hk
      exact ho8 _ _ (Option.some.inj hk).symm)).trans hk⟩
theorem Wr.blk {c : Nat} {t : TypeId} {vs : List Value} (h : Wr T8 B b w w') (hB : Blk w c t vs) (hne : c ≠ b) (ht : t ≠ T8) : Blk w' c t vs :=
  h.2 c _ hB (fun e => hne (Option.some.inj e)) (fun c fz e => ht (by cases e; rfl))
theorem Wr.map {c : Nat} {m : List (Value × Value)} (h : Wr T8 B b w w') (hB : MapAt w c m) (hne : c ≠ b) : MapAt w' c m := by
  obtain ⟨es, k, h1, h2⟩ := hB
  exact ⟨es, k, h.2 c _ h1 (fun e => hne (Option.some.inj e)) (fun c fz e => by cases e), h2⟩
theorem Wr.keeps {t : TypeId} {vs : List Value} (h : Wr T8 B b w w') (hb : Blk w b t vs) : KeepsOthers w w' :=
  ⟨h.1.size, fun k o hk hc => h.2 k o hk (fun e => by cases e; rw [show w.heap[b]? = _ from hb] at hk; cases hk; simp [Obj.isCells] at hc) (fun c fz e => by subst e; simp [Obj.isCells] at hc)⟩
end
section
variable {P : Program} {f : Fr} {w : World} {R : Value → World → Prop} {e : Exit} {D : Nat}
theorem endQM.plain1 {t : Nat} (he : e = .normal ∨ e = .ret) (h : R (f t) w) : endQM P #[.tmp t] R e f [] w := ⟨he, .inl ⟨rfl, f t, by simp [resS], h⟩⟩
theorem endQM.plain2 {t u : Nat} (he : e = .normal ∨ e = .ret) (h : R (.tuple #[f t, f u]) w) : endQM P #[.tmp t, .tmp u] R e f [] w := ⟨he, .inl ⟨rfl, _, by simp [resS], h⟩⟩
theorem endQM.mark2 {t u : Nat} (he : e = .normal ∨ e = .ret) (hD : w.heap[D]? = some (.deferred (some []))) (h : R (.tuple #[f t, f u]) (w.putObj D (.deferred none))) : endQM P #[.tmp t, .tmp u] R e f [{ target := .collected D, args := #[] }] w :=
  ⟨he, .inr ⟨D, rfl, hD, _, by simp [resS], h⟩⟩
theorem run_loadVar1 {t : TypeId} {ds' : TypeDesc} {p : Addr} {v : Value} (ht : P.underlying t = some ds') (ha : aggD ds' = false) (hc : w.cell? p = some v) : (loadVar t p).run P w = .ok v w := by
  simp [loadVar, run_isAgg ht, ha, load, Sem.run, hc]
theorem endQM.markC {a t : Nat} {ds' : TypeDesc} {b o : Nat} {v : Value} (ht : P.underlying t = some ds') (ha : aggD ds' = false) (he : e = .normal ∨ e = .ret) (hD : w.heap[D]? = some (.deferred (some []))) (hx : f a = .pointer (some ⟨b, o, none⟩)) (hc : (w.putObj D (.deferred none)).cell? ⟨b, o, none⟩ = some v) (h : R v (w.putObj D (.deferred none))) :
    endQM P #[.cell a t] R e f [{ target := .collected D, args := #[] }] w :=
  ⟨he, .inr ⟨D, rfl, hD, v, by simp [resS, hx, asAddr, run_loadVar1 ht ha hc], h⟩⟩
end
/-- a builder: its block, and the bytes that it holds -/
def Bd (T T8 : TypeId) (w : World) (B b : Nat) (l : List UInt8) : Prop :=
  B ≤ b ∧ ∃ p v, (p = .pointer none ∨ p = .pointer (some ⟨b, 0, none⟩)) ∧ Blk w b T [p, v] ∧ w.ownsRow B T8 1 v l.length (l.map u8v) ∧ v.ownBlock ≠ some b
end Go.Cx
