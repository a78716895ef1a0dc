/-
  A range over a function that turns no block but its own: what the body makes, maps too, stays.
-/
import Derived.Test.YtgdemkchfemmpaaDoorBase15
namespace Go.Cx
set_option linter.unusedVariables false
open Go Go.RowKit
variable {F : Fence} {P : Program} {sz : Nat} {Q : Post} {f : Fr} {ds : List Deferred} {w : World}
/-- the machinery's own blocks -/
def isRec : Obj → Bool
  | .loop _ => true
  | .deferred _ => true
  | _ => false
/-- what abides new blocks, and a turn of the machinery's own blocks from B on -/
def OwnR {β : Type} (B : Nat) (I : β → World → Prop) : Prop :=
  ∀ s W W' row, I s W → W.grownBy W' row → (∀ r, row = some r → B ≤ r ∧ ∃ o : Obj, W.heap[r]? = some o ∧ isRec o = true) → I s W'
theorem OwnR.and {β : Type} {B : Nat} {I J : β → World → Prop} (h : OwnR B I) (k : OwnR B J) : OwnR B (fun s W => I s W ∧ J s W) :=
  fun s W W' row hs hg hr => ⟨h s W W' row hs.1 hg hr, k s W W' row hs.2 hg hr⟩
theorem OwnR.pure {β : Type} {B : Nat} {I : β → Prop} : OwnR B (fun s _ => I s) := fun _ _ _ _ h _ _ => h
theorem OwnR.below {β : Type} {B n0 : Nat} {w0 : World} (hn : n0 ≤ w0.heap.size) (hB : n0 ≤ B) : OwnR B (fun (_ : β) W => Below n0 w0 W) :=
  fun _ _ _ _ hs hg hr => hs.grown hg (Nat.le_trans hn hs.size) (fun k e => Nat.le_trans hB (hr k e).1)
/-- the block itself is none of the machinery's -/
theorem not_rec {W W' : World} {B b : Nat} {row : Option Nat} {o : Obj} (hb : W.heap[b]? = some o) (ho : isRec o = false) (hg : W.grownBy W' row) (hr : ∀ r, row = some r → B ≤ r ∧ ∃ o : Obj, W.heap[r]? = some o ∧ isRec o = true) : W'.heap[b]? = some o := by
  refine (hg.block b (Array.getElem?_eq_some_iff.1 hb).1 (fun e => ?_)).trans hb
  obtain ⟨_, o', h1, h2⟩ := hr b e.symm
  rw [hb] at h1
  cases h1
  rw [ho] at h2
  cases h2
theorem OwnR.blk {β : Type} {B b : Nat} {t : TypeId} (vs : β → List Value) : OwnR B (fun (s : β) W => Blk W b t (vs s)) := fun _ _ _ _ h hg hr => not_rec h rfl hg hr
theorem OwnR.map {β : Type} {B b : Nat} {m : List (Value × Value)} : OwnR B (fun (_ : β) W => MapAt W b m) := fun _ _ _ _ h hg hr => by
  obtain ⟨es, c, h1, h2⟩ := h
  exact ⟨es, c, not_rec h1 rfl hg hr, h2⟩
theorem OwnR.low {β : Type} {B b : Nat} {o : Obj} (hB : b < B) : OwnR B (fun (_ : β) W => W.heap[b]? = some o) := fun _ W W' row h hg hr =>
  (hg.block b (Array.getElem?_eq_some_iff.1 h).1 (fun e => by have := (hr b e.symm).1; omega)).trans h
theorem OwnR.put {β : Type} {B l : Nat} {I : β → World → Prop} (h : OwnR B I) {s : β} {W : World} {o : Obj} (o' : Obj) (hs : I s W) (hB : B ≤ l) (hl : W.heap[l]? = some o) (ho : isRec o = true) : I s (W.putObj l o') :=
  h s W _ (some l) hs ⟨rfl, rfl, rfl, by simp [World.putObj], fun k _ hne => World.putObj_heap_other (fun e => hne (by rw [e]))⟩ (fun r e => by cases e; exact ⟨hB, o, hl, ho⟩)
theorem OwnR.new {β : Type} {B : Nat} {I : β → World → Prop} (h : OwnR B I) {s : β} {W : World} (o : Obj) (hs : I s W) : I s (W.alloc o) := h s W _ none hs (World.grownBy_alloc W o none) (fun r e => by cases e)
theorem OwnR.bd {β : Type} {T T8 : TypeId} {B0 B b : Nat} (l : β → List UInt8) : OwnR B0 (fun (s : β) W => Bd T T8 W B b (l s)) := fun s W W' row h hg hr => by
  obtain ⟨h1, p, v, hp, hB, ho, hne⟩ := h
  refine ⟨h1, p, v, hp, not_rec hB rfl hg hr, ho.kept hg ?_, hne⟩
  rcases ho.2 with ⟨rfl, _⟩ | ⟨g, cap, cur, rfl, _, hgg, _⟩
  · exact .inl rfl
  · refine .inr (fun e => ?_)
    obtain ⟨_, o', h2, h3⟩ := hr g (by rw [← e]; rfl)
    rw [hgg] at h2
    cases h2
    cases h3
/-- an iterator that turns no block, from whose call on the rounds' worlds go -/
def SeqN {α : Type} (P : Program) (gf : Nat) (lb : List Value) (encs : α → List Value) (Kp : World → World → Prop) (S Sp : List α → Prop) (N : Nat) (w : World) : Prop :=
  ∀ (l : Nat) (J Jx : List α → World → Prop) (W : World), Below w.heap.size w W → (∀ s A B, J s A → A.grownBy B none → J s B) → (∀ s A B, Jx s A → A.grownBy B none → Jx s B) →
    (∀ pre x W1, J pre W1 → pre.length < N → Yields1 Fence.wide P l (encs x) W1 fun b W' => (b = true ∧ J (pre ++ [x]) W' ∧ Kp W1 W') ∨ (b = false ∧ Jx (pre ++ [x]) W')) →
    J [] W → Ret P gf (.func (.yield l) #[] #[] :: lb).toArray W fun _ W' => (∃ xs, S xs ∧ J xs W') ∨ (∃ pre, Sp pre ∧ Jx pre W')
/-- the machinery's blocks: the record, and the rounds' deferred calls -/
structure Held (rec : LoopState → Option Code → Loop) (D : Nat) (st : LoopState) (pe : Option Code) (W : World) : Prop where
  l : W.heap[D + 1]? = some (.loop (rec st pe))
  d : W.heap[D]? = some (.deferred (some []))
section
variable {rec : LoopState → Option Code → Loop} {D : Nat} {st st' : LoopState} {pe pe' : Option Code} {W W' : World}
theorem Held.none (h : Held rec D st pe W) (hg : W.grownBy W' none) : Held rec D st pe W' :=
  ⟨(hg.block _ (Array.getElem?_eq_some_iff.1 h.l).1 (fun e => by cases e)).trans h.l, (hg.block _ (Array.getElem?_eq_some_iff.1 h.d).1 (fun e => by cases e)).trans h.d⟩
theorem Held.put (h : Held rec D st pe W) : Held rec D st' pe' (W.putObj (D + 1) (.loop (rec st' pe'))) :=
  ⟨World.putObj_heap_same (Array.getElem?_eq_some_iff.1 h.l).1, (World.putObj_heap_other (by omega)).trans h.d⟩
theorem Held.keeps (h : Held rec D st pe W) (hk : KeepsOthers W W') : Held rec D st pe W' := ⟨hk.same _ _ h.l rfl, hk.same _ _ h.d rfl⟩
end
theorem WC.rangeFuncN {α : Type} {g : Operand} {ps : List Tmp} {as body : Code} {gf : Nat} {lb : List Value} (hg : ev f g = .func (.func gf) #[] lb.toArray) (hgo : GoFn P gf)
    {encs : α → List Value} {Kp : World → World → Prop} {S Sp : List α → Prop} {N : Nat} {w0 : World} (hseq : SeqN P gf lb encs Kp S Sp N w0)
    (hKt : ∀ {A B C : World}, Kp A B → Kp B C → Kp A C) (hKb : ∀ (W : World) (l : Nat) (o' : Obj), w.heap.size ≤ l → Kp W (W.putObj l o')) (hb0 : Below w0.heap.size w0 w) (hps : ∀ x, (encs x).length = ps.length) (hlt : ps.all (fun p => Nat.blt p sz) = true)
    (I : List α → World → Prop) (Ix : Code → List α → World → Prop) (hI : OwnR w.heap.size I) (hIx : ∀ c, OwnR w.heap.size (Ix c)) (h0 : I [] w) (f₁ : α → Fr → Fr)
    (hassign : ∀ (l : Nat) (x : α) (W : World), WC (Fence.wide.inRound l) P sz as (fun e f' ds' W' => e = .normal ∧ f' = f₁ x f ∧ ds' = [] ∧ W' = W) (foldSet ps (encs x) f) [] W)
    (hbody : ∀ (l : Nat) (pre : List α) (x : α) (W : World), I pre W → pre.length < N → WC (Fence.wide.inRound l) P sz body (roundQ Kp I Ix (pre ++ [x]) W) (trunc sz (f₁ x f)) [] W)
    (hdone : ∀ (D : Nat) (xs : List α) (W : World), w.heap.size ≤ D → S xs → I xs W → W.heap[D]? = some (.deferred (some [])) → Q .normal f ({ target := .collected D, args := #[] } :: ds) W)
    (hstop : ∀ (D : Nat) (c : Code) (pre : List α) (W : World), w.heap.size ≤ D → Sp pre → Ix c pre W → W.heap[D]? = some (.deferred (some [])) → WC Fence.wide P sz c Q f ({ target := .collected D, args := #[] } :: ds) W) :
    WC Fence.wide P sz (.rangeFunc g ps.toArray as body) Q f ds w := by
  intro n a h1 h2 h3 b k cs hro hb hrm
  have main : (Code.rangeFunc g ps.toArray as body).wpIn Fence.wide (n + 3) P (lift sz Q) a w := by
    refine wpIn_rangeFunc fun fn hfn => ?_
    have hdef : ∃ rec : LoopState → Option Code → Loop, rec = fun st pe => { state := st, pending := pe, fn := fn, tmps := a.tmps, params := ps.toArray, assign := as, body := body, defers := w.heap.size } := ⟨_, rfl⟩
    obtain ⟨rec, hrec⟩ := hdef
    have hW : ∃ W1, (w.alloc (.deferred (some []))).alloc (.loop (rec .ready none)) = W1 := ⟨_, rfl⟩
    obtain ⟨W1, hW1⟩ := hW
    have hH1 : Held rec w.heap.size .ready none W1 := by
      subst hW1
      refine ⟨?_, (Below.heap_alloc _ _ _ (by simp)).trans (World.alloc_heap_new w _)⟩
      have := World.alloc_heap_new (w.alloc (.deferred (some []))) (.loop (rec .ready none))
      rwa [World.size_alloc] at this
    have hI1 : I [] W1 := by subst hW1; exact hI.new _ (hI.new _ h0)
    have hb1 : Below w0.heap.size w0 W1 := by
      subst hW1
      exact hb0.trans ((((Below.refl _ w).alloc (Nat.le_refl _) _).alloc (by simp) _).mono hb0.size)
    have hev : a.eval g = .func (.func gf) #[] lb.toArray := by rw [eval_eq, h2]; exact hg
    refine ⟨w.heap.size + 1, [{ target := .collected w.heap.size, args := #[] }], W1, { target := .fn (.func gf) lb.toArray, args := #[.func (.yield (w.heap.size + 1)) #[] #[]] }, W1, gf,
      #[.func (.yield (w.heap.size + 1)) #[] #[]] ++ lb.toArray, W1, ?_, ?_, fun f' hf' => trivial, ?_, fun _ => by omega, ?_⟩
    · rw [← hW1, hrec]; exact run_enterLoop_outer _ _ _ _ _
    · simp only [resolve, hev]
      simp [go_sem]
    · simp [invoke, go_sem, hgo _ _]
    · have hy := hseq (w.heap.size + 1) (fun pre W => I pre W ∧ Held rec w.heap.size .ready none W) (fun pre W => ∃ c, Ix c pre W ∧ Held rec w.heap.size .done (some c) W) W1 hb1
        (fun s A B hs hg' => ⟨hI s A B none hs.1 hg' (fun r e => by cases e), hs.2.none hg'⟩)
        (fun s A B ⟨c, hc, hh⟩ hg' => ⟨c, hIx c s A B none hc hg' (fun r e => by cases e), hh.none hg'⟩) ?_ ⟨hI1, hH1⟩
      · have e : (#[Value.func (.yield (w.heap.size + 1)) #[] #[]] ++ lb.toArray) = (Value.func (.yield (w.heap.size + 1)) #[] #[] :: lb).toArray := by simp
        rw [e]
        refine callsIn_wide.2 (Calls.mono hy ?_)
        rintro e2 W2 ⟨v, rfl, hcase⟩
        rcases hcase with ⟨xs, hS, hi, hh⟩ | ⟨pre, hSp, c, hi, hh⟩
        · have hr := run_endLoop (P := P) hh.l (by rw [hrec]; simp)
          rw [hrec] at hr
          refine ⟨none, _, hr, h1, ?_⟩
          have := hdone _ xs _ (Nat.le_refl _) hS (hI.put (.loop { rec .ready none with state := .exhausted }) hi (by omega) hh.l rfl) ((World.putObj_heap_other (by omega)).trans hh.d)
          subst h3
          subst h2
          rw [hrec] at this
          exact this
        · have hr := run_endLoop (P := P) hh.l (by rw [hrec]; simp)
          rw [hrec] at hr
          refine ⟨some c, _, hr, ?_⟩
          have := hstop _ c pre _ (Nat.le_refl _) hSp ((hIx c).put (.loop { rec .done (some c) with state := .exhausted }) hi (by omega) hh.l rfl) ((World.putObj_heap_other (by omega)).trans hh.d)
          rw [hrec] at this
          exact this _ { a with defers := { target := .collected w.heap.size, args := #[] } :: a.defers } h1 h2 (by rw [h3])
      · rintro pre x W ⟨hi, hh⟩ hlen
        have hlt0 : w.heap.size + 1 < W.heap.size := (Array.getElem?_eq_some_iff.1 hh.l).1
        have hyl := run_yield (P := P) (args := (encs x).toArray) hh.l (by rw [hrec]; simp [hps x])
        rw [hrec] at hyl
        refine ⟨n + 2, fn, _, as, body, hyl, roundIn_of_wpIn hfn ?_⟩
        have hf := fold_set sz ps (encs x) a.tmps f h1 (by rw [← h2]; rfl) hlt
        have e : ((ps.toArray.zip (encs x).toArray).foldl (fun t (p, v) => t.setIfInBounds p v) a.tmps) = (ps.zip (encs x)).foldl (fun t (q : Nat × Value) => t.setIfInBounds q.1 q.2) a.tmps := by
          simp [List.zip_toArray]
        rw [e]
        refine wpIn_mono (hassign (w.heap.size + 1) x W _ { tmps := _, defers := [] } hf.1 hf.2 rfl) ?_
        rintro e1 a1 W9 ⟨p1, rfl, hf1, hd1, rfl⟩
        have ha1 := act_ext p1 hf1 hd1
        subst ha1
        refine ⟨_, run_beginRound hh.l (by rw [hrec]), ?_⟩
        have hb2 : Held rec w.heap.size .busy none (W9.putObj (w.heap.size + 1) (.loop { rec .ready none with state := .busy })) := by
          have := hh.put (st' := .busy) (pe' := none)
          rw [hrec] at this ⊢
          exact this
        have hi2 : I pre (W9.putObj (w.heap.size + 1) (.loop { rec .ready none with state := .busy })) := hI.put _ hi (by omega) hh.l rfl
        have hk2 : Kp W9 (W9.putObj (w.heap.size + 1) (.loop { rec .ready none with state := .busy })) := hKb _ _ _ (by omega)
        refine wpIn_mono (hbody (w.heap.size + 1) pre x _ hi2 hlen _ (mkAct sz (f₁ x f)) (by simp [mkAct]) (fr_mkAct sz _) rfl) ?_
        have fin : ∀ (jump : Option Code) (W3 : World), KeepsOthers (W9.putObj (w.heap.size + 1) (.loop { rec .ready none with state := .busy })) W3 →
            ∃ W4, (Instr.endRound (w.heap.size + 1) jump).run P W3 = .ok (.bool jump.isNone) W4 ∧ Held rec w.heap.size (if jump.isNone then .ready else .done) jump W4 ∧ (∀ {J : List α → World → Prop} {s : List α}, OwnR w.heap.size J → J s W3 → J s W4) ∧ Kp W3 W4 := fun jump W3 hk => by
          have h3' := hb2.keeps hk
          have hr := run_endRound (P := P) jump h3'.l
          refine ⟨_, hr, ?_, fun hJ hs => hJ.put _ hs (by omega) h3'.l rfl, hKb _ _ _ (by omega)⟩
          have := h3'.put (st' := if jump.isNone then .ready else .done) (pe' := jump)
          rw [hrec] at this ⊢
          exact this
        rintro e2 a2 W3 ⟨_, q⟩
        cases e2 with
        | normal =>
          obtain ⟨q1, q2, q3⟩ := q
          obtain ⟨W4, r1, r2, r3, r4⟩ := fin none W3 q1
          exact ⟨_, W4, r1, true, rfl, .inl ⟨rfl, ⟨r3 hI q3, r2⟩, hKt (hKt hk2 q2) r4⟩⟩
        | ret =>
          obtain ⟨q1, q2⟩ := q
          obtain ⟨W4, r1, r2, r3, r4⟩ := fin (some .ret) W3 q1
          exact ⟨_, W4, r1, false, rfl, .inr ⟨rfl, .ret, r3 (hIx _) q2, r2⟩⟩
        | exit id =>
          obtain ⟨q1, q2⟩ := q
          obtain ⟨W4, r1, r2, r3, r4⟩ := fin (some (.exit id)) W3 q1
          exact ⟨_, W4, r1, false, rfl, .inr ⟨rfl, .exit id, r3 (hIx _) q2, r2⟩⟩
        | goto t =>
          obtain ⟨q1, q2⟩ := q
          obtain ⟨W4, r1, r2, r3, r4⟩ := fin (some (.goto t)) W3 q1
          exact ⟨_, W4, r1, false, rfl, .inr ⟨rfl, .goto t, r3 (hIx _) q2, r2⟩⟩
        | panic ch => exact q.elim
        | outgrown => exact q.elim
  exact main b k cs hro hb (fun d hd => by cases hd)
end Go.Cx
