import Derived.Test.YthcppegkpkgnpaaDoorBase4
namespace Go.Cx
set_option linter.unusedVariables false
open Go Go.RowKit
variable {F : Fence} {P : Program} {sz : Nat} {Q : Post} {f : Fr} {ds : List Deferred} {w : World}
/-! ### A range over a function -/
theorem roundIn_any [hF : WideF F] {n m l : Nat} {g : FuncId} {tmps : Array Value} {as body : Code} {R : Ending → World → Prop} (h : RoundIn F n P l g tmps as body w R) : RoundIn F m P l g tmps as body w R :=
  ⟨h.1, fun c cs _ => h.2 c cs (fun d hd => by rw [hF.depth] at hd; cases hd)⟩
/-- A round of the caller's loop, as the iterator meets it. -/
def Yields1 (F : Fence) (P : Program) (l : Nat) (args : List Value) (w : World) (R : Bool → World → Prop) : Prop :=
  ∃ m, YieldAt F m P l args.toArray w fun e W' => ∃ b, e = .returned (.bool b) ∧ R b W'
theorem WL.yield [hF : WideF F] {ops : Array Oper} {K : Fr → List Deferred → World → Prop} {rest : List Oper} {d : Option Tmp} {ty : TypeId} {pos : String} {aft : Array Edge} {g : Option (Nat × Bool)} {x : Operand} {l : Nat} {args : List Operand} {at' : Array TypeId} {R : Bool → World → Prop}
    (hg : gw ops f ⟨d, .call ⟨.value x, args.toArray, at'⟩, ty, pos, aft, g⟩ = true) (hx : ev f x = .func (.yield l) #[] #[]) (hy : Yields1 F P l (args.map (ev f)) w R)
    (h : ∀ b w', R b w' → WL F P sz ops K rest (putd f d (.bool b)) ds w') : WL F P sz ops K (⟨d, .call ⟨.value x, args.toArray, at'⟩, ty, pos, aft, g⟩ :: rest) f ds w := by
  intro hd n a h1 h2 h3
  simp only [List.all_cons, Bool.and_eq_true] at hd
  obtain ⟨m, fn, tmps, as, body, hrun, hround⟩ := hy
  have hex : (execOp (ev f) ⟨d, .call ⟨.value x, args.toArray, at'⟩, ty, pos, aft, g⟩).run P w = .ok (.round l fn tmps as body) w := by
    simp [execOp, resolve, hx, Deferred.ofValue, invoke, hrun]
  unfold wpListIn
  rw [wanted_eq, h2, hg, if_pos rfl]
  refine ⟨fun f' _ => hF.fn f', ?_⟩
  rw [semAt_exec (fun c => by simp), eval_eq, h2, hex]
  refine ⟨fun hh => (by rw [hF.depth] at hh; cases hh), (roundIn_any (m := n - 1) hround).mono ?_⟩
  rintro e w' ⟨b, rfl, r⟩
  refine h b w' r hd.2 n _ (by rw [put_size]; exact h1) ?_ (by rw [put_defers]; exact h3)
  rw [fr_putd a d _ (fun d' e => by have := hd.1; simp only [dstOk, e] at this; rw [h1]; exact Nat.blt_eq.mp this), h2]

def trunc (sz : Nat) (f : Fr) : Fr := fun t => bif Nat.blt t sz then f t else undef
def mkAct (sz : Nat) (f : Fr) : Act := { tmps := Array.ofFn (fun i : Fin sz => f i), defers := [] }
theorem fr_mkAct (sz : Nat) (f : Fr) : fr (mkAct sz f) = trunc sz f := by
  funext t
  simp only [fr, mkAct, trunc, Array.getD_eq_getD_getElem?]
  by_cases h : t < sz
  · have hb : Nat.blt t sz = true := Nat.blt_eq.mpr h
    rw [hb]; simp [h]
  · have hb : Nat.blt t sz = false := by
      cases hh : Nat.blt t sz with
      | false => rfl
      | true => exact absurd (Nat.blt_eq.mp hh) h
    rw [hb]; simp [h]
theorem act_ext {sz : Nat} {a : Act} (h1 : a.tmps.size = sz) (h2 : fr a = f) (h3 : a.defers = []) : a = mkAct sz f := by
  obtain ⟨tmps, defers⟩ := a
  simp only at h1 h3
  subst h3
  unfold mkAct
  congr 1
  apply Array.ext
  · simp [h1]
  · intro i hi1 hi2
    have := congrFun h2 i
    simp only [fr, Array.getD_eq_getD_getElem?, Array.getElem?_eq_getElem hi1, Option.getD_some] at this
    simp [this]
/-- How a round's body may be left. -/
def roundQ {α : Type} (Kp : World → World → Prop) (I : List α → World → Prop) (Ix : Code → List α → World → Prop) (xs : List α) (W : World) : Post := fun e _ _ W' => match e with
  | .normal => KeepsOthers W W' ∧ Kp W W' ∧ I xs W'
  | .ret => KeepsOthers W W' ∧ Ix .ret xs W'
  | .exit id => KeepsOthers W W' ∧ Ix (.exit id) xs W'
  | .goto t => KeepsOthers W W' ∧ Ix (.goto t) xs W'
  | _ => False
def foldSet (ps : List Nat) (vs : List Value) (f : Fr) : Fr := match ps, vs with
  | p :: ps, v :: vs => foldSet ps vs (upd f p v)
  | _, _ => f
theorem fold_set (sz : Nat) : ∀ (ps : List Nat) (vs : List Value) (t : Array Value) (f : Fr), t.size = sz → fr { tmps := t, defers := [] } = f → ps.all (fun p => Nat.blt p sz) = true →
    (((ps.zip vs).foldl (fun t (q : Nat × Value) => t.setIfInBounds q.1 q.2) t).size = sz ∧ fr { tmps := (ps.zip vs).foldl (fun t (q : Nat × Value) => t.setIfInBounds q.1 q.2) t, defers := [] } = foldSet ps vs f)
  | [], _, t, f, h1, h2, _ => by simp [foldSet, h1, h2]
  | p :: ps, [], t, f, h1, h2, _ => by simp [foldSet, h1, h2]
  | p :: ps, v :: vs, t, f, h1, h2, h3 => by
    simp only [List.all_cons, Bool.and_eq_true] at h3
    have := fold_set sz ps vs (t.setIfInBounds p v) (upd f p v) (by simp [h1]) (by
      have := fr_put { tmps := t, defers := [] } p v (by simp only; rw [h1]; exact Nat.blt_eq.mp h3.1)
      rw [h2] at this; exact this) h3.2
    simpa [foldSet] using this
def SeqW {α : Type} (P : Program) (gf : Nat) (lb : List Value) (encs : α → List Value) (Kp : World → World → Prop) (S Sp : List α → Prop) (N : Nat) (w : World) : Prop :=
  ∀ (l : Nat) (J Jx : List α → World → Prop) (W : World), Below w.heap.size w W → AbidesFrom W.heap.size J → AbidesFrom W.heap.size Jx →
    (∀ pre x W1, J pre W1 → pre.length < N → Yields1 Fence.wide P l (encs x) W1 fun b W' => (b = true ∧ J (pre ++ [x]) W' ∧ Kp W1 W') ∨ (b = false ∧ Jx (pre ++ [x]) W')) →
    J [] W → Ret P gf (.func (.yield l) #[] #[] :: lb).toArray W fun _ W' => (∃ xs, S xs ∧ J xs W') ∨ (∃ pre, Sp pre ∧ Jx pre W')
theorem seqStopsK_of {α : Type} {gf : Nat} {lb : List Value} {encs : α → List Value} {Kp : World → World → Prop} {S Sp : List α → Prop} {N n : Nat} (h : SeqW P gf lb encs Kp S Sp N w) :
    SeqStopsK Fence.wide n P gf lb.toArray (fun x => (encs x).toArray) Kp S Sp N w := by
  intro l J Jx W hb hJ hJx hy h0
  have := h l J Jx W hb hJ hJx (fun pre x W1 hj hlen => by
    obtain ⟨fn, tmps, as, body, h1, h2⟩ := hy pre x W1 hj hlen
    refine ⟨n - 1, fn, tmps, as, body, h1, h2.mono ?_⟩
    rintro e W' (⟨rfl, h3, h4⟩ | ⟨rfl, h3⟩)
    · exact ⟨true, rfl, .inl ⟨rfl, h3, h4⟩⟩
    · exact ⟨false, rfl, .inr ⟨rfl, h3⟩⟩) h0
  refine callsIn_wide.2 ?_
  have e : (#[Value.func (.yield l) #[] #[]] ++ lb.toArray) = (Value.func (.yield l) #[] #[] :: lb).toArray := by simp
  rw [e]
  exact Calls.mono this fun e W' ⟨v, he, r⟩ => ⟨⟨v, he⟩, r⟩
theorem WC.rangeFunc {α : Type} {g : Operand} {ps : List Tmp} {as body : Code} {gf : Nat} {lb : List Value} (hg : ev f g = .func (.func gf) #[] lb.toArray) (hgo : GoFn P gf)
    {encs : α → List Value} {Kp : World → World → Prop} {S Sp : List α → Prop} {N : Nat} {w0 : World} (hseq : SeqW P gf lb encs Kp S Sp N w0)
    (hKt : ∀ {A B C : World}, Kp A B → Kp B C → Kp A C) (hKb : ∀ (W : World) (l : Nat) (o o' : Obj), w.heap.size ≤ l → W.heap[l]? = some o → o.isCells = false → o.isWalk = false → Kp W (W.putObj l o')) (hb0 : Below w0.heap.size w0 w) (hps : ∀ x, (encs x).length = ps.length) (hlt : ps.all (fun p => Nat.blt p sz) = true)
    (I : List α → World → Prop) (Ix : Code → List α → World → Prop) (hI : OwnFrom w.heap.size I) (hIx : ∀ c, OwnFrom w.heap.size (Ix c)) (h0 : I [] w) (f₁ : α → Fr → Fr)
    (hassign : ∀ (l : Nat) (x : α) (W : World), WC (Fence.wide.inRound l) P sz as (fun e f' ds' W' => e = .normal ∧ f' = f₁ x f ∧ ds' = [] ∧ W' = W) (foldSet ps (encs x) f) [] W)
    (hbody : ∀ (l : Nat) (pre : List α) (x : α) (W : World), I pre W → pre.length < N → WC (Fence.wide.inRound l) P sz body (roundQ Kp I Ix (pre ++ [x]) W) (trunc sz (f₁ x f)) [] W)
    (hdone : ∀ (D : Nat) (xs : List α) (W : World), w.heap.size ≤ D → S xs → I xs W → W.heap[D]? = some (.deferred (some [])) → Q .normal f ({ target := .collected D, args := #[] } :: ds) W)
    (hstop : ∀ (D : Nat) (c : Code) (pre : List α) (W : World), w.heap.size ≤ D → Sp pre → Ix c pre W → W.heap[D]? = some (.deferred (some [])) → WC Fence.wide P sz c Q f ({ target := .collected D, args := #[] } :: ds) W) :
    WC Fence.wide P sz (.rangeFunc g ps.toArray as body) Q f ds w := by
  intro n a h1 h2 h3 b k cs hro hb hrm
  have main : (Code.rangeFunc g ps.toArray as body).wpIn Fence.wide (n + 3) P (lift sz Q) a w := by
    refine wpIn_rangeFunc_ownF rfl (by omega) (gf := gf) (lb := lb.toArray) (by rw [eval_eq, h2]; exact hg) trivial hgo (seqStopsK_of hseq) (fun h k => hKt h k) hKb hb0 (fun x => by simp [hps x])
      I Ix hI hIx h0 (fun x => mkAct sz (f₁ x f)) ?_ ?_ ?_ ?_
    · intro l x W K hK
      have hf := fold_set sz ps (encs x) a.tmps f h1 (by rw [← h2]; rfl) hlt
      have e : ((ps.toArray.zip (encs x).toArray).foldl (fun t (p, v) => t.setIfInBounds p v) a.tmps) = (ps.zip (encs x)).foldl (fun t (q : Nat × Value) => t.setIfInBounds q.1 q.2) a.tmps := by
        simp [List.zip_toArray]
      rw [e]
      refine wpIn_mono (hassign l x W _ { tmps := _, defers := [] } hf.1 hf.2 rfl) ?_
      rintro e a' W' ⟨p, rfl, hf', hd', rfl⟩
      have := act_ext p hf' hd'
      subst this
      exact hK
    · intro l pre x W hi hlen
      refine wpIn_mono (hbody l pre x W hi hlen _ (mkAct sz (f₁ x f)) (by simp [mkAct]) (fr_mkAct sz _) rfl) ?_
      rintro e a' W' ⟨_, q⟩
      cases e <;> exact q
    · intro D xs W hD hS hi hK
      refine ⟨h1, ?_⟩
      have := hdone D xs W hD hS hi hK
      subst h3
      subst h2
      exact this
    · intro D c pre W hD hS hi hK
      exact hstop D c pre W hD hS hi hK _ { a with defers := { target := .collected D, args := #[] } :: a.defers } h1 h2 (by rw [h3])
  exact main b k cs hro hb (fun d hd => by cases hd)
/-! A function that holds such a loop -/
def endQM (P : Program) (rs : Array ResultVar) (R : Value → World → Prop) : Post := fun e f ds w =>
  (e = .normal ∨ e = .ret) ∧ ((ds = [] ∧ ∃ v, (resS rs f).run P w = .ok v w ∧ R v w) ∨
    ∃ D, ds = [{ target := .collected D, args := #[] }] ∧ w.heap[D]? = some (.deferred (some [])) ∧ ∃ v, (resS rs f).run P (w.putObj D (.deferred none)) = .ok v (w.putObj D (.deferred none)) ∧ R v (w.putObj D (.deferred none)))
theorem endQM.mark1 {R : Value → World → Prop} {t D : Nat} {e : Exit} (he : e = .normal ∨ e = .ret) (hD : w.heap[D]? = some (.deferred (some []))) (h : R (f t) (w.putObj D (.deferred none))) : endQM P #[.tmp t] R e f [{ target := .collected D, args := #[] }] w :=
  ⟨he, .inr ⟨D, rfl, hD, f t, by simp [resS], h⟩⟩
theorem Ret.ofM {g : FuncId} {fn : Func} {c : Code} {l : List Value} {R : Value → World → Prop} {n : Nat} {rs : Array ResultVar} (hf : P.funcs[g]? = some fn) (hb : fn.body = some c) (hn : fn.ntmps = n) (hrs : fn.results = rs) (hl : l.length ≤ n)
    (h : WC Fence.wide P n c (endQM P rs R) (fr0 l) [] w) : Ret P g l.toArray w R := by
  subst hn; subst hrs
  refine callsIn_wide.1 (callsIn_of_wp_marks (n := 0) hf hb trivial ?_)
  refine wpIn_mono (h 0 _ (by simp; omega) (fr_enter l _) rfl) ?_
  rintro e a w' ⟨_, he, hd⟩
  have key : LeavesInM Fence.wide 0 P fn a.tmps (fun e w'' => ∃ v, e = .returned v ∧ R v w'') a.defers .returning w' := by
    rcases hd with ⟨hd, v, hr, hR⟩ | ⟨D, hd, hK, v, hr, hR⟩
    · rw [hd]; exact ⟨v, hr, v, rfl, hR⟩
    · rw [hd]
      exact ⟨by simp, .inl ⟨D, _, rfl, run_takeDeferred hK, ⟨v, hr, v, rfl, hR⟩⟩⟩
  rcases he with rfl | rfl <;> exact key
theorem below_putObj {B D : Nat} {o : Obj} {w0 w : World} (h : Below B w0 w) (hD : B ≤ D) : Below B w0 (w.putObj D o) :=
  ⟨h.os, h.tape, h.output, by simp [World.putObj, h.size], fun k hk => by rw [World.putObj_heap_other (by omega)]; exact h.block k hk⟩
theorem Blk.grownR {w w' : World} {b : Nat} {t : TypeId} {vs : List Value} {row : Option Nat} (h : Blk w b t vs) (hg : w.grownBy w' row) (hne : ∀ r, row = some r → r ≠ b) : Blk w' b t vs :=
  (hg.block b h.lt (fun e => hne b e.symm rfl)).trans h
theorem Blk.ownFrom {β : Type} {B b : Nat} {t : TypeId} (vs : β → List Value) (hB : b < B) : OwnFrom B (fun (s : β) W => Blk W b t (vs s)) :=
  fun _ _ _ _ h hg hr => h.grownR hg (fun r e => by have := (hr r e).1; omega)
theorem keeps_below {w w' : World} (h : Below w.heap.size w w') : KeepsOthers w w' := ⟨h.size, fun k o hk _ => (h.block k (Array.getElem?_eq_some_iff.1 hk).1).trans hk⟩
theorem keeps_grown {w w' : World} {b : Nat} {t : TypeId} {vs : List Value} (h : Blk w b t vs) (hg : w.grownBy w' (some b)) : KeepsOthers w w' :=
  KeepsOthers.of_grownBy hg (fun j o e ho => by
    cases e
    have : o = .cells vs.toArray t (0, 0) := Option.some.inj (ho.symm.trans h)
    subst this; rfl)
end Go.Cx
