import Derived.WalkKit
import Derived.Deep.QuietTactic
import Derived.RangeFuncNested
import Derived.RangeFuncBound
import Derived.RangeFuncCalls
import Derived.RangeFuncLeaves
import Derived.OrdersIn
namespace Go.Cx
set_option linter.unusedVariables false
open Go Go.RowKit

/-- A frame as a function of slots. -/
abbrev Fr := Nat → Value
def upd (f : Fr) (d : Nat) (v : Value) : Fr := fun t => bif Nat.beq t d then v else f t
def putd (f : Fr) (o : Option Tmp) (v : Value) : Fr := match o with | some d => upd f d v | none => f
def ev (f : Fr) : Operand → Value
  | .tmp t => f t
  | .const v => v
  | .global g => .pointer (some ⟨g, 0, none⟩)
  | .func g => .func (.func g) #[] #[]
def fr (a : Act) : Fr := fun t => a.tmps.getD t undef
theorem eval_eq (a : Act) : a.eval = ev (fr a) := by
  funext x; cases x <;> rfl
theorem fr_put (a : Act) (d : Nat) (v : Value) (h : d < a.tmps.size) : fr (a.put (some d) v) = upd (fr a) d v := by
  funext t
  simp only [fr, Act.put, upd]
  by_cases e : t = d
  · subst e
    have hb : Nat.beq t t = true := Nat.beq_refl t
    rw [hb]
    simp [Array.getD, h]
  · have hb : Nat.beq t d = false := by
      cases hh : Nat.beq t d with
      | false => rfl
      | true => exact absurd (Nat.eq_of_beq_eq_true hh) e
    rw [hb]
    simp only [cond_false]
    simp only [Array.getD_eq_getD_getElem?, Array.getElem?_setIfInBounds]
    rw [if_neg (fun hh => e hh.symm)]
theorem put_size (a : Act) (o : Option Tmp) (v : Value) : (a.put o v).tmps.size = a.tmps.size := by
  cases o <;> simp [Act.put]
theorem put_defers (a : Act) (o : Option Tmp) (v : Value) : (a.put o v).defers = a.defers := by
  cases o <;> rfl
theorem fr_putd (a : Act) (o : Option Tmp) (v : Value) (h : ∀ d, o = some d → d < a.tmps.size) : fr (a.put o v) = putd (fr a) o v := by
  cases o with
  | none => rfl
  | some d => exact fr_put a d v (h d rfl)

/-- Is an operation wanted, by the frame? -/
def gw (ops : Array Oper) (f : Fr) (o : Oper) : Bool :=
  match o.guard with
  | none => true
  | some (j, want) =>
    match (ops[j]?).bind (·.dst) with
    | some d => (match f d with | .bool b => some b | _ => none) == some want
    | none => false
theorem wanted_eq (ops : Array Oper) (a : Act) (o : Oper) : Region.wanted o (yielded ops a.tmps) = gw ops (fr a) o := by
  unfold Region.wanted gw yielded
  cases o.guard with
  | none => rfl
  | some p =>
    obtain ⟨j, want⟩ := p
    simp only []
    cases h : (ops[j]?).bind (·.dst) with
    | none => simp
    | some d =>
      simp only [Option.bind_some, fr, Array.getD_eq_getD_getElem?]
      cases h2 : a.tmps[d]? with
      | none => simp [undef]
      | some v => cases v <;> simp

class WideF (F : Fence) : Prop where
  fn : ∀ f, F.fn f
  depth : F.depth = none
  alive : F.alive = false
instance wideF : WideF Fence.wide := ⟨fun _ => trivial, rfl, rfl⟩
instance WideF.inRound {F : Fence} [h : WideF F] (l : Nat) : WideF (F.inRound l) := ⟨h.fn, h.depth, h.alive⟩
theorem WideF.fenced {F : Fence} (h : WideF F) (P : Program) (m : Machine) : m.fenced P F := by
  intro g _
  refine ⟨fun h' => ?_, Or.inl (h.fn _), fun f _ => h.fn f, fun d hd => ?_⟩
  · rw [h.alive] at h'; cases h'
  · rw [h.depth] at hd; cases hd

abbrev Post := Exit → Fr → List Deferred → World → Prop
def thenQ (K : Fr → List Deferred → World → Prop) (Q : Post) : Post
  | .normal, f, ds, w => K f ds w
  | e, f, ds, w => Q e f ds w
def inBlockQ (id : Nat) (Q : Post) : Post
  | .exit id', f, ds, w => if id' = id then Q .normal f ds w else Q (.exit id') f ds w
  | e, f, ds, w => Q e f ds w
def lift (sz : Nat) (Q : Post) : Exit → Act → World → Prop := fun e a w => a.tmps.size = sz ∧ Q e (fr a) a.defers w
def WC (F : Fence) (P : Program) (sz : Nat) (c : Code) (Q : Post) (f : Fr) (ds : List Deferred) (w : World) : Prop :=
  ∀ n a, a.tmps.size = sz → fr a = f → a.defers = ds → c.wpIn F n P (lift sz Q) a w
def dstOk (sz : Nat) (o : Oper) : Bool := match o.dst with | some d => Nat.blt d sz | none => true
def normQ (K : Fr → List Deferred → World → Prop) : Post := fun e f ds w => e = .normal ∧ K f ds w
def WL (F : Fence) (P : Program) (sz : Nat) (ops : Array Oper) (K : Fr → List Deferred → World → Prop) (l : List Oper) (f : Fr) (ds : List Deferred) (w : World) : Prop :=
  l.all (dstOk sz) = true → ∀ n a, a.tmps.size = sz → fr a = f → a.defers = ds → wpListIn F n P ops (lift sz (normQ K)) l a w

section
variable {F : Fence} {P : Program} {sz : Nat} {Q : Post} {f : Fr} {ds : List Deferred} {w : World}

theorem WC.mono {c : Code} {Q' : Post} (h : WC F P sz c Q f ds w) (hq : ∀ e f ds w, Q e f ds w → Q' e f ds w) : WC F P sz c Q' f ds w :=
  fun n a h1 h2 h3 => wpIn_mono (h n a h1 h2 h3) fun e _ w ⟨p, q⟩ => ⟨p, hq _ _ _ _ q⟩
theorem WC.seq {x y : Code} (h : WC F P sz x (thenQ (fun f ds w => WC F P sz y Q f ds w) Q) f ds w) : WC F P sz (.seq x y) Q f ds w := by
  intro n a h1 h2 h3
  refine wpIn_seq (wpIn_mono (h n a h1 h2 h3) ?_)
  rintro e a' w' ⟨p, q⟩
  cases e <;> first | exact ⟨p, q⟩ | exact q n a' p rfl rfl
theorem WC.skip (h : Q .normal f ds w) : WC F P sz .skip Q f ds w := by
  intro n a h1 h2 h3; subst h2; subst h3; exact wpIn_skip ⟨h1, h⟩
theorem WC.label {l : Nat} (h : Q .normal f ds w) : WC F P sz (.label l) Q f ds w := by
  intro n a h1 h2 h3; subst h2; subst h3; exact wpIn_label ⟨h1, h⟩
theorem WC.exit {id : Nat} (h : Q (.exit id) f ds w) : WC F P sz (.exit id) Q f ds w := by
  intro n a h1 h2 h3; subst h2; subst h3; exact wpIn_exit ⟨h1, h⟩
theorem WC.ret (h : Q .ret f ds w) : WC F P sz .ret Q f ds w := by
  intro n a h1 h2 h3; subst h2; subst h3; exact wpIn_ret ⟨h1, h⟩
theorem WC.cond {c : Operand} {x y : Code} {b : Bool} (hc : ev f c = .bool b) (ht : b = true → WC F P sz x Q f ds w) (hf : b = false → WC F P sz y Q f ds w) :
    WC F P sz (.cond c x y) Q f ds w := by
  intro n a h1 h2 h3
  refine wpIn_cond_split (t := b) (by rw [eval_eq, h2]; exact hc) (fun h => ht h n a h1 h2 h3) (fun h => hf h n a h1 h2 h3)
theorem WC.condT {c : Operand} {x y : Code} (hc : ev f c = .bool true) (ht : WC F P sz x Q f ds w) : WC F P sz (.cond c x y) Q f ds w :=
  WC.cond hc (fun _ => ht) (fun h => by cases h)
theorem WC.condF {c : Operand} {x y : Code} (hc : ev f c = .bool false) (ht : WC F P sz y Q f ds w) : WC F P sz (.cond c x y) Q f ds w :=
  WC.cond hc (fun h => by cases h) (fun _ => ht)
theorem WC.condD {c : Operand} {x y : Code} {p : Prop} [Decidable p] (hc : ev f c = .bool (decide p)) (ht : p → WC F P sz x Q f ds w) (hf : ¬ p → WC F P sz y Q f ds w) : WC F P sz (.cond c x y) Q f ds w :=
  WC.cond hc (fun h => ht (of_decide_eq_true h)) (fun h => hf (of_decide_eq_false h))
theorem WC.block {id : Nat} {c : Code} (h : WC F P sz c (inBlockQ id Q) f ds w) : WC F P sz (.block id c) Q f ds w := by
  intro n a h1 h2 h3
  refine wpIn_block (wpIn_mono (h n a h1 h2 h3) ?_)
  rintro e a' w' ⟨p, q⟩
  cases e <;> first | exact ⟨p, q⟩ | skip
  rename_i id'
  simp only [Exit.inBlock, inBlockQ] at q ⊢
  split at q <;> (rename_i hid; simp only [hid, if_true, if_false]) <;> exact ⟨p, q⟩
/-- A loop: a ghost 's' that every round lowers. -/
theorem WC.loop {S : Type} {c : Code} (μ : S → Nat) (I : S → Fr → List Deferred → World → Prop) (s : S) (h0 : I s f ds w)
    (hr : ∀ s f ds w, I s f ds w → WC F P sz c (thenQ (fun f' ds' w' => ∃ s', μ s' < μ s ∧ I s' f' ds' w') Q) f ds w) : WC F P sz (.loop c) Q f ds w := by
  intro n a h1 h2 h3 b k cs hro hb hrm
  have key : ∀ m s (a : Act) w, μ s = m → a.tmps.size = sz → I s (fr a) a.defers w →
      ∃ e a' w', lift sz Q e a' w' ∧ ArrivesIn (Machine.fenced P F) P (lone (b.atR a (.code c :: .inLoop c :: k)) cs w) b k cs e a' w' := by
    intro m
    induction m using Nat.strongRecOn with
    | _ m ih =>
      intro s a w hm hsz hI
      obtain ⟨e, a₁, w₁, hq, harr⟩ := hr s _ _ w hI n a hsz rfl rfl b (.inLoop c :: k) cs hro hb hrm
      cases e with
      | normal =>
        obtain ⟨p, s', hlt, hI'⟩ := hq
        obtain ⟨e₂, a₂, w₂, hq₂, harr₂⟩ := ih (μ s') (by omega) s' a₁ w₁ rfl p hI'
        exact ⟨e₂, a₂, w₂, hq₂, .of_steps (StepsIn.trans harr (.one (fenced_calm hb hrm rfl) stepR_inLoop)) harr₂⟩
      | exit id => exact ⟨_, a₁, w₁, hq, .pass (x := .inLoop c) rfl (fun _ _ => .inl (by simp)) harr⟩
      | goto l => exact ⟨_, a₁, w₁, hq, .pass (x := .inLoop c) rfl (fun _ _ => .inl (by simp)) harr⟩
      | ret => exact ⟨_, a₁, w₁, hq, .pass (x := .inLoop c) rfl (fun _ _ => .inl (by simp)) harr⟩
      | panic ch => exact ⟨_, a₁, w₁, hq, .pass (x := .inLoop c) rfl (fun _ _ => .inl (by simp)) harr⟩
      | outgrown => exact ⟨_, a₁, w₁, hq, .pass (x := .inLoop c) rfl (fun _ _ => .inl (by simp)) harr⟩
  subst h2; subst h3
  obtain ⟨e, a', w', hq, harr⟩ := key _ s a w rfl h1 h0
  exact ⟨e, a', w', hq, .of_steps (.one (fenced_calm hb hrm rfl) stepR_loop) harr⟩
theorem WC.region {id : Nat} {l : List Oper} (hd : l.all (dstOk sz) = true) (h : WL F P sz l.toArray (fun f ds w => Q .normal f ds w) l f ds w) :
    WC F P sz (.region id l.toArray false) Q f ds w := by
  intro n a h1 h2 h3
  refine wpIn_mono (wpIn_region_lit (h hd n a h1 h2 h3)) ?_
  rintro e a' w' ⟨p, rfl, q⟩
  exact ⟨p, q⟩
theorem WL.nil {ops : Array Oper} {K : Fr → List Deferred → World → Prop} (h : K f ds w) : WL F P sz ops K [] f ds w := by
  intro _ n a h1 h2 h3; subst h2; subst h3; exact wpListIn_nil ⟨h1, rfl, h⟩

theorem WC.seqR {id : Nat} {l : List Oper} {y : Code} (hd : l.all (dstOk sz) = true) (h : WL F P sz l.toArray (fun f ds w => WC F P sz y Q f ds w) l f ds w) : WC F P sz (.seq (.region id l.toArray false) y) Q f ds w :=
  WC.seq (WC.region hd h)
theorem thenQ.normal {K : Fr → List Deferred → World → Prop} (h : K f ds w) : thenQ K Q .normal f ds w := h
theorem thenQ.exit {K : Fr → List Deferred → World → Prop} {id : Nat} (h : Q (.exit id) f ds w) : thenQ K Q (.exit id) f ds w := h
theorem thenQ.ret {K : Fr → List Deferred → World → Prop} (h : Q .ret f ds w) : thenQ K Q .ret f ds w := h
theorem inBlockQ.normal {id : Nat} (h : Q .normal f ds w) : inBlockQ id Q .normal f ds w := h
theorem inBlockQ.ret {id : Nat} (h : Q .ret f ds w) : inBlockQ id Q .ret f ds w := h
theorem inBlockQ.hit {id : Nat} (h : Q .normal f ds w) : inBlockQ id Q (.exit id) f ds w := by simp only [inBlockQ, if_true]; exact h
theorem inBlockQ.miss {id id' : Nat} (hne : Nat.beq id' id = false) (h : Q (.exit id') f ds w) : inBlockQ id Q (.exit id') f ds w := by
  have : id' ≠ id := Nat.ne_of_beq_eq_false hne
  simp only [inBlockQ, if_neg this]; exact h

/-- Operation o, in frame f and world w, yields v, and leaves the world alone. -/
def Y (P : Program) (o : Oper) (f : Fr) (w : World) (v : Value) : Prop := (execOp (ev f) o).run P w = .ok (.value v) w
/-- Operation o leads from world w to w' and yields v. -/
def E (P : Program) (o : Oper) (f : Fr) (w : World) (v : Value) (w' : World) : Prop :=
  (execOp (ev f) o).run P w = .ok (.value v) w' ∨ ((execOp (ev f) o).run P w = .ok .skip w' ∧ v = undef ∧ ∀ c, o.op ≠ .defer c)
theorem semAt_exec {ro : Option Nat} {ρ : Operand → Value} {o : Oper} (h : ∀ c, o.op ≠ .defer c) : o.semAt ro ρ = execOp ρ o := Oper.semAt_eq ro ρ o h
theorem not_defer_of_value {P : Program} {ρ : Operand → Value} {o : Oper} {w w' : World} {v : Value} (h : (execOp ρ o).run P w = .ok (.value v) w') : ∀ c, o.op ≠ .defer c := by
  intro c hc
  unfold execOp at h
  simp only [hc, Sem.run_bind] at h
  cases hr : (resolve ρ c o.type).run P w <;> simp [hr, Result.andThen] at h
theorem not_defer_of_enter {P : Program} {ρ : Operand → Value} {o : Oper} {w w' : World} {g : FuncId} {args : Array Value} (h : (execOp ρ o).run P w = .ok (.enter g args) w') : ∀ c, o.op ≠ .defer c := by
  intro c hc
  unfold execOp at h
  simp only [hc, Sem.run_bind] at h
  cases hr : (resolve ρ c o.type).run P w <;> simp [hr, Result.andThen] at h
theorem WL.e [hF : WideF F] {ops : Array Oper} {K : Fr → List Deferred → World → Prop} {o : Oper} {rest : List Oper} {v : Value} {w' : World} (hg : gw ops f o = true) (he : E P o f w v w')
    (h : WL F P sz ops K rest (putd f o.dst v) ds w') : WL F P sz ops K (o :: rest) f ds w := by
  intro hd n a h1 h2 h3
  simp only [List.all_cons, Bool.and_eq_true] at hd
  unfold wpListIn
  rw [wanted_eq, h2, hg, if_pos rfl]
  have hnd : ∀ c, o.op ≠ .defer c := by
    rcases he with he | ⟨_, _, he⟩
    · exact not_defer_of_value he
    · exact he
  refine ⟨fun f' _ => hF.fn f', ?_⟩
  rw [semAt_exec hnd, eval_eq, h2]
  have hput : ∀ u, fr (a.put o.dst u) = putd f o.dst u := by
    intro u
    rw [fr_putd a o.dst u (fun d e => by have := hd.1; simp only [dstOk, e] at this; rw [h1]; exact Nat.blt_eq.mp this), h2]
  rcases he with he | ⟨he, hv, _⟩
  · rw [he]
    exact h hd.2 n _ (by rw [put_size]; exact h1) (hput v) (by rw [put_defers]; exact h3)
  · rw [he]; subst hv
    exact h hd.2 n _ (by rw [put_size]; exact h1) (hput _) (by rw [put_defers]; exact h3)
theorem WL.y [hF : WideF F] {ops : Array Oper} {K : Fr → List Deferred → World → Prop} {o : Oper} {rest : List Oper} {v : Value} (hg : gw ops f o = true) (he : Y P o f w v)
    (h : WL F P sz ops K rest (putd f o.dst v) ds w) : WL F P sz ops K (o :: rest) f ds w := WL.e hg (.inl he) h
theorem WL.off [hF : WideF F] {ops : Array Oper} {K : Fr → List Deferred → World → Prop} {o : Oper} {rest : List Oper} (hg : gw ops f o = false)
    (h : WL F P sz ops K rest (putd f o.dst undef) ds w) : WL F P sz ops K (o :: rest) f ds w := by
  intro hd n a h1 h2 h3
  simp only [List.all_cons, Bool.and_eq_true] at hd
  unfold wpListIn
  rw [wanted_eq, h2, hg, if_neg (by simp)]
  refine ⟨fun f' _ => hF.fn f', ?_⟩
  refine h hd.2 n _ (by rw [put_size]; exact h1) ?_ (by rw [put_defers]; exact h3)
  rw [fr_putd a o.dst _ (fun d e => by have := hd.1; simp only [dstOk, e] at this; rw [h1]; exact Nat.blt_eq.mp this), h2]

/-- A call returns, and R holds of what it returns and of the world behind. -/
def Ret (P : Program) (g : FuncId) (args : Array Value) (w : World) (R : Value → World → Prop) : Prop :=
  Calls P g args w fun e w' => ∃ v, e = .returned v ∧ R v w'
theorem Ret.mono {g : FuncId} {args : Array Value} {R R' : Value → World → Prop} (h : Ret P g args w R) (hr : ∀ v w', R v w' → R' v w') : Ret P g args w R' :=
  Calls.mono h fun _ _ ⟨v, e, r⟩ => ⟨v, e, hr _ _ r⟩
theorem Ret.yes {g : FuncId} {args : Array Value} {p : Prop} [Decidable p] {R : World → Prop} (h : Ret P g args w fun v w' => v = .bool (decide p) ∧ R w') (hp : p) : Ret P g args w fun v w' => v = .bool true ∧ R w' :=
  h.mono fun v w' ⟨a, b⟩ => ⟨by rw [a, decide_eq_true hp], b⟩
theorem Ret.no {g : FuncId} {args : Array Value} {p : Prop} [Decidable p] {R : World → Prop} (h : Ret P g args w fun v w' => v = .bool (decide p) ∧ R w') (hp : ¬ p) : Ret P g args w fun v w' => v = .bool false ∧ R w' :=
  h.mono fun v w' ⟨a, b⟩ => ⟨by rw [a, decide_eq_false hp], b⟩
theorem callsIn_of_calls (hF : WideF F) {n : Nat} {g : FuncId} {args : Array Value} {R : Ending → World → Prop} (h : Calls P g args w R) : CallsIn F n P g args w R := by
  refine ⟨hF.fn g, fun cs _ => ?_⟩
  obtain ⟨e, w', fr', r, s, x⟩ := h cs
  refine ⟨e, w', fr', r, ?_, x⟩
  cases e with
  | outgrown => exact s
  | returned v => exact (StepsIn.of_steps s).mono fun m _ => hF.fenced P m
  | panicked ch => exact (StepsIn.of_steps s).mono fun m _ => hF.fenced P m
/-- An operation that is a call of a Go function. -/
def C (P : Program) (o : Oper) (f : Fr) (w : World) (g : FuncId) (args : Array Value) : Prop := (execOp (ev f) o).run P w = .ok (.enter g args) w
theorem WL.call [hF : WideF F] {ops : Array Oper} {K : Fr → List Deferred → World → Prop} {o : Oper} {rest : List Oper} {g : FuncId} {args : Array Value} {R : Value → World → Prop}
    (hg : gw ops f o = true) (hc : C P o f w g args) (hr : Ret P g args w R)
    (h : ∀ v w', R v w' → WL F P sz ops K rest (putd f o.dst v) ds w') : WL F P sz ops K (o :: rest) f ds w := by
  intro hd n a h1 h2 h3
  simp only [List.all_cons, Bool.and_eq_true] at hd
  unfold wpListIn
  rw [wanted_eq, h2, hg, if_pos rfl]
  refine ⟨fun f' _ => hF.fn f', ?_⟩
  rw [semAt_exec (not_defer_of_enter hc), eval_eq, h2, hc]
  refine ⟨fun hh => (by rw [hF.depth] at hh; cases hh), callsIn_of_calls hF (Calls.mono hr ?_)⟩
  rintro e w' ⟨v, rfl, r⟩
  refine h v w' r hd.2 n _ (by rw [put_size]; exact h1) ?_ (by rw [put_defers]; exact h3)
  rw [fr_putd a o.dst _ (fun d e => by have := hd.1; simp only [dstOk, e] at this; rw [h1]; exact Nat.blt_eq.mp this), h2]

/-! ### Regions that draw their order, all of whose operations are quiet -/
/-- The same memory; the count of draws may differ. -/
structure Same (w w' : World) : Prop where
  heap : w'.heap = w.heap
  os : w'.os = w.os
  tape : w'.tape = w.tape
  output : w'.output = w.output
theorem Same.refl (w : World) : Same w w := ⟨rfl, rfl, rfl, rfl⟩
theorem Same.trans {a b c : World} (h : Same a b) (k : Same b c) : Same a c := ⟨k.heap.trans h.heap, k.os.trans h.os, k.tape.trans h.tape, k.output.trans h.output⟩
theorem Same.symm {a b : World} (h : Same a b) : Same b a := ⟨h.heap.symm, h.os.symm, h.tape.symm, h.output.symm⟩
theorem Same.below {a b : World} (B : Nat) (h : Same a b) : Below B a b := ⟨h.os, h.tape, h.output, by rw [h.heap]; exact Nat.le_refl _, fun _ _ => by rw [h.heap]⟩
theorem same_drawn (w : World) (n : Nat) : Same w { w with drawn := n } := ⟨rfl, rfl, rfl, rfl⟩
theorem getD_set_true' {listed : Array Bool} {i j : Nat} (h : listed.getD j false = true) : (listed.setIfInBounds i true).getD j false = true := by
  simp only [Array.getD_eq_getD_getElem?, Array.getElem?_setIfInBounds] at h ⊢
  by_cases e : i = j
  · subst e
    rw [if_pos rfl]
    split
    · rfl
    · rename_i hh; rw [Array.getElem?_eq_none (by omega)] at h; simp at h
  · rw [if_neg e]; exact h
theorem getD_replicate_false' (m j : Nat) : (Array.replicate m false).getD j false = false := by
  rcases Nat.lt_or_ge j m with h | h
  · simp [h]
  · simp [h]
/-! ### Regions that draw their order: a class S of worlds is carried along; operations that yield one value in every world of S are taken first -/
/-- One operation, carried out: it yields, or it is a call that returns; it never panics. -/
def go (P : Program) (o : Oper) (a : Act) (w : World) (K : Act → World → Prop) : Result Next → Prop
  | .ok (.value v) w' => K (a.put o.dst v) w'
  | .ok .skip w' => (∀ c, o.op ≠ .defer c) ∧ K (a.put o.dst undef) w'
  | .ok (.enter g args) w' => Calls P g args w' (fun e w'' => ∃ v, e = .returned v ∧ K (a.put o.dst v) w'')
  | _ => False
def opX (P : Program) (ops : Array Oper) (i : Nat) (K : Act → World → Prop) (a : Act) (w : World) : Prop :=
  match ops[i]? with
  | none => K a w
  | some o => if Region.wanted o (yielded ops a.tmps) then go P o a w K ((execOp a.eval o).run P w) else K (a.put o.dst undef) w
theorem go_mono {o : Oper} {a : Act} {K K' : Act → World → Prop} (h : ∀ a w, K a w → K' a w) {r : Result Next} (hh : go P o a w K r) : go P o a w K' r := by
  unfold go at *
  cases r with
  | halt x w' => exact hh
  | ok nx w' =>
    cases nx <;> first | exact h _ _ hh | exact ⟨hh.1, h _ _ hh.2⟩ | exact Calls.mono hh (fun e w'' ⟨v, e1, k⟩ => ⟨v, e1, h _ _ k⟩) | exact hh
theorem opX_mono {ops : Array Oper} {i : Nat} {a : Act} {K K' : Act → World → Prop} (h : ∀ a w, K a w → K' a w) (hh : opX P ops i K a w) : opX P ops i K' a w := by
  unfold opX at *
  split
  · rename_i ho; simp only [ho] at hh; exact h _ _ hh
  · rename_i o ho
    simp only [ho] at hh
    split
    · rename_i hw; simp only [hw, if_true] at hh; exact go_mono h hh
    · rename_i hw; simp only [hw] at hh; exact h _ _ hh
theorem wpOpIn_of_opX (hF : WideF F) {n : Nat} {ops : Array Oper} {i : Nat} {a : Act} {K : Act → World → Prop} {Q' : Exit → Act → World → Prop} (hh : opX P ops i K a w) : wpOpIn F n P ops Q' i K a w := by
  unfold opX at hh
  unfold wpOpIn
  split
  · rename_i ho; simp only [ho] at hh; exact hh
  · rename_i o ho
    simp only [ho] at hh
    split
    · rename_i hw; simp only [hw, if_true] at hh
      refine ⟨fun f' _ => hF.fn f', ?_⟩
      have hnd : ∀ c, o.op ≠ .defer c := by
        intro c hc
        unfold execOp at hh
        simp only [hc, Sem.run_bind] at hh
        cases hr : (resolve a.eval c o.type).run P w <;> simp [hr, Result.andThen, go] at hh
      rw [semAt_exec hnd]
      generalize (execOp a.eval o).run P w = r at *
      cases r with
      | halt x w' => exact hh.elim
      | ok nx w' =>
        cases nx <;> simp only [go] at hh <;> simp only [Oper.uponIn]
        case value v => exact hh
        case skip => exact hh.2
        case enter g args =>
          refine ⟨fun hh => (by rw [hF.depth] at hh; cases hh), callsIn_of_calls hF (hh.mono fun e w'' ⟨v, he, k⟩ => ?_)⟩
          subst he; exact k
    · rename_i hw; simp only [hw] at hh; exact ⟨fun f' _ => hF.fn f', hh⟩
/-- In state 'a', in every world of the class, operation 'o' yields 'v' and leaves the world alone. -/
def YV (P : Program) (ops : Array Oper) (Cl : World → Prop) (o : Oper) (v : Value) (a : Act) : Prop :=
  (Region.wanted o (yielded ops a.tmps) = true ∧ ∀ w, Cl w → (execOp a.eval o).run P w = .ok (.value v) w) ∨
  (Region.wanted o (yielded ops a.tmps) = false ∧ v = undef)
theorem YV.of_same {ops : Array Oper} {Cl : World → Prop} {o : Oper} {v : Value} {a a' : Act} (hy : YV P ops Cl o v a) (he : execOp a'.eval o = execOp a.eval o)
    (hw : Region.wanted o (yielded ops a'.tmps) = Region.wanted o (yielded ops a.tmps)) : YV P ops Cl o v a' := by
  unfold YV at *
  rw [he, hw]
  exact hy
theorem YV.opX {ops : Array Oper} {Cl : World → Prop} {i : Nat} {o : Oper} {v : Value} {a : Act} (hi : ops[i]? = some o) (hy : YV P ops Cl o v a) (hw : Cl w) {K : Act → World → Prop} (h : K (a.put o.dst v) w) : opX P ops i K a w := by
  unfold Cx.opX
  simp only [hi]
  rcases hy with ⟨h1, h2⟩ | ⟨h1, h2⟩
  · rw [if_pos h1, h2 w hw]; exact h
  · rw [if_neg (by simp [h1])]; subst h2; exact h
/-- What an operation asks is not what another one leaves: 'oi' may be taken first. -/
theorem opX_put {ops : Array Oper} {Cl : World → Prop} {j : Nat} {oi oj : Oper} {v : Value} (hj : ops[j]? = some oj) (hap : oi.apart ops oj = true)
    (hsi : ∀ cs b, oi.op ≠ .select cs b) (hsj : ∀ cs b, oj.op ≠ .select cs b) {K : Act → World → Prop} {a : Act}
    (hy : YV P ops Cl oi v a) (h : opX P ops j K (a.put oi.dst v) w) :
    opX P ops j (fun a' w' => YV P ops Cl oi v a' ∧ K (a'.put oi.dst v) w') a w := by
  obtain ⟨h1, h2, h3⟩ := Oper.apart_spec hap
  have keep : ∀ (a : Act), YV P ops Cl oi v a → ∀ u, YV P ops Cl oi v (a.put oj.dst u) := fun a hy u =>
    hy.of_same (execOp_put oi hsi a oj.dst u h3) (wanted_put oi a oj.dst u h3)
  unfold opX at *
  simp only [hj] at *
  rw [wanted_put oj a oi.dst v h1] at h
  split
  · rename_i hw
    simp only [hw, if_true] at h
    rw [execOp_put oj hsj a oi.dst v h1] at h
    generalize (execOp a.eval oj).run P w = r at *
    unfold go at *
    cases r with
    | halt x w' => exact h
    | ok nx w' =>
      cases nx <;> simp only at h ⊢
      case value u => exact ⟨keep a hy _, by rw [← Act.put_comm a v u h2]; exact h⟩
      case skip => exact ⟨h.1, keep a hy _, by rw [← Act.put_comm a v undef h2]; exact h.2⟩
      case enter g args =>
        exact h.mono fun e w'' ⟨u, he, k⟩ => ⟨u, he, keep a hy _, by rw [← Act.put_comm a v u h2]; exact k⟩
  · rename_i hw
    simp only [hw] at h
    exact ⟨keep a hy _, by rw [← Act.put_comm a v undef h2]; exact h⟩
def AnyS (P : Program) (md : Region.Mode) (ops : Array Oper) (S : World → Prop) (T : Nat → Bool) (Q : Act → World → Prop) : Nat → Array Bool → Act → World → Prop
  | 0, listed, a, w => Region.ready md ops listed = [] ∧ Q a w
  | fuel + 1, listed, a, w => (Region.ready md ops listed = [] → Q a w) ∧
      ∀ i ∈ Region.ready md ops listed, opX P ops i (fun a' w' => (T i = true ∨ (S w → S w')) ∧ AnyS P md ops S T Q fuel (listed.setIfInBounds i true) a' w') a w
theorem wpAnyIn_of_anyS (hF : WideF F) {n : Nat} {md : Region.Mode} {ops : Array Oper} {S : World → Prop} {T : Nat → Bool} {Q : Act → World → Prop} {Q' : Exit → Act → World → Prop} (hQ : ∀ a w, Q a w → Q' .normal a w) :
    ∀ (fuel : Nat) (listed : Array Bool) (a : Act) (w : World), AnyS P md ops S T Q fuel listed a w → wpAnyIn F n P md ops Q' fuel listed a w
  | 0, _, _, _, h => ⟨h.1, hQ _ _ h.2⟩
  | fuel + 1, _, _, _, h => ⟨fun h0 => hQ _ _ (h.1 h0), fun i hi => wpOpIn_of_opX hF (opX_mono (fun a' w' h' => wpAnyIn_of_anyS hF hQ fuel _ a' w' h'.2) (h.2 i hi))⟩
/-- Is h waited for by t, through others? -/
def anc (md : Region.Mode) (ops : Array Oper) (h : Nat) : Nat → Nat → Bool
  | 0, _ => false
  | fuel + 1, t => match ops[t]? with
    | some o => o.after.any fun e => Region.binds md e && (e.on == h || anc md ops h fuel e.on)
    | none => false
structure ClosedL (md : Region.Mode) (ops : Array Oper) (listed : Array Bool) : Prop where
  size : listed.size = ops.size
  closed : ∀ j oj, ops[j]? = some oj → listed.getD j false = true → ∀ e ∈ oj.after, Region.binds md e = true → listed.getD e.on false = true
theorem ClosedL.set {md : Region.Mode} {ops : Array Oper} {i : Nat} {listed : Array Bool} (inv : ClosedL md ops listed) (hi : i ∈ Region.ready md ops listed) : ClosedL md ops (listed.setIfInBounds i true) := by
  obtain ⟨_, oi, hoi, hall⟩ := mem_ready.1 hi
  refine ⟨by simp [inv.size], fun j oj hj hl e he hb => ?_⟩
  by_cases hij : i = j
  · subst hij
    have : oj = oi := Option.some.inj (hj.symm.trans hoi)
    subst this
    exact getD_set_true' (hall e he hb)
  · rw [getD_set_ne false hij] at hl
    exact getD_set_true' (inv.closed j oj hj hl e he hb)
theorem anc_listed {md : Region.Mode} {ops : Array Oper} {listed : Array Bool} (inv : ClosedL md ops listed) {h : Nat} : ∀ (fuel t : Nat), anc md ops h fuel t = true →
    (∀ o, ops[t]? = some o → ∀ e ∈ o.after, Region.binds md e = true → listed.getD e.on false = true) → listed.getD h false = true
  | 0, _, ha, _ => by simp [anc] at ha
  | fuel + 1, t, ha, ht => by
    unfold anc at ha
    split at ha
    · rename_i o ho
      rw [Array.any_eq_true'] at ha
      obtain ⟨e, he, hb⟩ := ha
      simp only [Bool.and_eq_true, Bool.or_eq_true, beq_iff_eq] at hb
      have hl := ht o ho e he hb.1
      rcases hb.2 with h1 | h1
      · rw [← h1]; exact hl
      · exact anc_listed inv fuel e.on h1 (fun o' ho' e' he' hb' => inv.closed e.on o' ho' hl e' he' hb')
    · cases ha
/-- (the tail T waits for all of H) -/
def tailOk (md : Region.Mode) (ops : Array Oper) (T : Nat → Bool) (i : Nat) : Bool := (List.range ops.size).all fun t => !T t || anc md ops i ops.size t
theorem anyS_first {md : Region.Mode} {ops : Array Oper} {S Cl : World → Prop} {T : Nat → Bool} {Q : Act → World → Prop} {i : Nat} {oi : Oper} {v : Value} (hi : ops[i]? = some oi)
    (hsel : ∀ (j : Nat) (o : Oper) cs b, ops[j]? = some o → o.op ≠ .select cs b) (hCl : (∀ w, Cl w) ∨ (Cl = S ∧ tailOk md ops T i = true)) :
    ∀ (fuel : Nat) (listed : Array Bool) (a : Act) (w : World), ClosedL md ops listed →
      (∀ j oj, ops[j]? = some oj → j ≠ i → listed.getD j true = false → (∀ e ∈ oj.after, Region.binds md e = true → e.on ≠ i) → oi.apart ops oj = true) →
      i ∈ Region.ready md ops listed → YV P ops Cl oi v a → Cl w →
      AnyS P md ops S T Q fuel (listed.setIfInBounds i true) (a.put oi.dst v) w → AnyS P md ops S T Q (fuel + 1) listed a w := by
  intro fuel
  induction fuel with
  | zero =>
    intro listed a w _ _ hr hy hw H
    refine ⟨fun h => (by rw [h] at hr; cases hr), fun j hj => ?_⟩
    by_cases hji : j = i
    · subst hji; exact hy.opX hi hw ⟨.inr id, H⟩
    · have := ready_mono hj hji
      rw [H.1] at this
      cases this
  | succ fuel ih =>
    intro listed a w inv hfree hr hy hw H
    refine ⟨fun h => (by rw [h] at hr; cases hr), fun j hj => ?_⟩
    by_cases hji : j = i
    · subst hji; exact hy.opX hi hw ⟨.inr id, H⟩
    · have h1 := H.2 j (ready_mono hj hji)
      obtain ⟨hjun, oj, hoj, hall⟩ := mem_ready.1 hj
      have hiun := (mem_ready.1 hr).1
      have hiF : listed.getD i false ≠ true := by
        intro h0
        rcases Nat.lt_or_ge i listed.size with h' | h'
        · simp [h'] at h0 hiun; rw [hiun] at h0; cases h0
        · simp [Array.getElem?_eq_none h'] at h0
      have hnot : ∀ e ∈ oj.after, Region.binds md e = true → e.on ≠ i := fun e he hb heq => by
        have h1 := hall e he hb
        rw [heq] at h1
        exact hiF h1
      have h2 := opX_put hoj (hfree j oj hoj hji hjun hnot) (fun cs b => hsel i oi cs b hi) (fun cs b => hsel j oj cs b hoj) hy h1
      have hfree' : ∀ k ok, ops[k]? = some ok → k ≠ i → (listed.setIfInBounds j true).getD k true = false →
          (∀ e ∈ ok.after, Region.binds md e = true → e.on ≠ i) → oi.apart ops ok = true := fun k ok hk hki hun hno => by
        refine hfree k ok hk hki ?_ hno
        by_cases hjk : j = k
        · subst hjk; exact hjun
        · rw [getD_set_ne true hjk] at hun; exact hun
      refine opX_mono (fun a' w' h3 => ?_) h2
      obtain ⟨hy', hT, h4⟩ := h3
      refine ⟨hT, ih (listed.setIfInBounds j true) a' w' (inv.set hj) hfree' (ready_mono hr (Ne.symm hji)) hy' ?_ ?_⟩
      · rcases hCl with hCl | ⟨rfl, htail⟩
        · exact hCl w'
        · rcases hT with hT | hT
          · exfalso
            have hjlt : j < ops.size := (Array.getElem?_eq_some_iff.1 hoj).1
            have h5 := List.all_eq_true.1 htail j (List.mem_range.2 hjlt)
            simp only [hT, Bool.not_true, Bool.false_or] at h5
            exact hiF (anc_listed inv ops.size j h5 (fun o' ho' e' he' hb' => by
              have : o' = oj := Option.some.inj (ho'.symm.trans hoj)
              subst this
              exact hall e' he' hb'))
          · exact hT hw
      · rw [Array.setIfInBounds_comm _ _ hji]
        exact h4
/-- How the walk meets the next operation: 'held': it yields one value in every world of S; 'any': in whatever world; 'seq': it alone may come up. -/
inductive Md where
  | held | any | seq
def stepB (md : Region.Mode) (ops : Array Oper) (T : Nat → Bool) (listed : Array Bool) (i : Nat) : Md → Bool
  | .held => (Region.ready md ops listed).contains i && Region.free md ops listed i && tailOk md ops T i
  | .any => (Region.ready md ops listed).contains i && Region.free md ops listed i
  | .seq => decide (Region.ready md ops listed = [i])
def pathB (md : Region.Mode) (ops : Array Oper) (T : Nat → Bool) : List (Nat × Md) → Array Bool → Bool
  | [], listed => (Region.ready md ops listed).isEmpty
  | (i, m) :: l, listed => stepB md ops T listed i m && pathB md ops T l (listed.setIfInBounds i true)
/-- The walk along a path. -/
def RL (P : Program) (sz : Nat) (ops : Array Oper) (S : World → Prop) (T : Nat → Bool) (K : Fr → List Deferred → World → Prop) : List (Nat × Md) → Fr → List Deferred → World → Prop
  | [], f, ds, w => K f ds w
  | (i, m) :: l, f, ds, w => ∀ o, ops[i]? = some o → match m with
    | .held => S w ∧ ∃ v, ((gw ops f o = true ∧ ∀ w', S w' → (execOp (ev f) o).run P w' = .ok (.value v) w') ∨ (gw ops f o = false ∧ v = undef)) ∧ RL P sz ops S T K l (putd f o.dst v) ds w
    | .any => ∃ v, ((gw ops f o = true ∧ ∀ w', (execOp (ev f) o).run P w' = .ok (.value v) w') ∨ (gw ops f o = false ∧ v = undef)) ∧ RL P sz ops S T K l (putd f o.dst v) ds w
    | .seq => gw ops f o = true ∧ ((∃ v w', E P o f w v w' ∧ (T i = true ∨ (S w → S w')) ∧ RL P sz ops S T K l (putd f o.dst v) ds w') ∨
        (∃ g args R, C P o f w g args ∧ Ret P g args w R ∧ ∀ v w', R v w' → (T i = true ∨ (S w → S w')) ∧ RL P sz ops S T K l (putd f o.dst v) ds w'))
theorem anyS_of_path {md : Region.Mode} {ops : Array Oper} {S : World → Prop} {T : Nat → Bool} {K : Fr → List Deferred → World → Prop} (hs : Region.noSelect ops = true) (hd : ops.all (dstOk sz) = true) :
    ∀ (l : List (Nat × Md)) (listed : Array Bool) (a : Act) (w : World), a.tmps.size = sz → a.defers = ds → ClosedL md ops listed → pathB md ops T l listed = true → (∀ i m, (i, m) ∈ l → i < ops.size) → RL P sz ops S T K l (fr a) ds w →
      AnyS P md ops S T (fun a w => a.tmps.size = sz ∧ K (fr a) a.defers w) l.length listed a w
  | [], listed, a, w, h1, h3, _, hB, _, h => ⟨by simpa [pathB] using hB, h1, by rw [h3]; exact h⟩
  | (i, m) :: l, listed, a, w, h1, h3, inv, hB, hlt, h => by
    have hilt : i < ops.size := hlt i m (by simp)
    have hi : ops[i]? = some ops[i] := by simp [hilt]
    have h := h _ hi
    have hdi : ∀ u, fr (a.put (ops[i]).dst u) = putd (fr a) (ops[i]).dst u := by
      intro u
      refine fr_putd a _ u (fun d e => ?_)
      have := Array.all_eq_true.1 hd i hilt
      simp only [dstOk, e] at this
      rw [h1]; exact Nat.blt_eq.mp this
    simp only [pathB, Bool.and_eq_true] at hB
    obtain ⟨hst, hB'⟩ := hB
    have hlt' : ∀ i' m', (i', m') ∈ l → i' < ops.size := fun i' m' hm => hlt i' m' (List.mem_cons_of_mem _ hm)
    cases m with
    | held =>
      simp only [stepB, Bool.and_eq_true, List.contains_eq_mem, decide_eq_true_eq] at hst
      obtain ⟨⟨hr, hf⟩, ht⟩ := hst
      obtain ⟨hS, v, hy, hrest⟩ := h
      refine anyS_first hi (Region.noSelect_spec hs) (Cl := S) (.inr ⟨rfl, ht⟩) l.length listed a w inv (Region.free_spec hi hf) hr (v := v) ?_ hS ?_
      · unfold YV; rw [wanted_eq, eval_eq]; exact hy
      · exact anyS_of_path hs hd l _ _ w (by rw [put_size]; exact h1) (by rw [put_defers]; exact h3) (inv.set hr) hB' hlt' (by rw [hdi]; exact hrest)
    | any =>
      simp only [stepB, Bool.and_eq_true, List.contains_eq_mem, decide_eq_true_eq] at hst
      obtain ⟨hr, hf⟩ := hst
      obtain ⟨v, hy, hrest⟩ := h
      refine anyS_first hi (Region.noSelect_spec hs) (Cl := fun _ => True) (.inl fun _ => trivial) l.length listed a w inv (Region.free_spec hi hf) hr (v := v) ?_ trivial ?_
      · unfold YV; rw [wanted_eq, eval_eq]
        rcases hy with hy | hy
        · exact .inl ⟨hy.1, fun w' _ => hy.2 w'⟩
        · exact .inr hy
      · exact anyS_of_path hs hd l _ _ w (by rw [put_size]; exact h1) (by rw [put_defers]; exact h3) (inv.set hr) hB' hlt' (by rw [hdi]; exact hrest)
    | seq =>
      simp only [stepB, decide_eq_true_eq] at hst
      have hr : i ∈ Region.ready md ops listed := by rw [hst]; simp
      refine ⟨fun h0 => (by rw [hst] at h0; cases h0), fun j hj => ?_⟩
      rw [hst] at hj
      obtain rfl : j = i := by simpa using hj
      obtain ⟨hg, h⟩ := h
      unfold opX
      simp only [hi]
      rw [wanted_eq, if_pos hg, eval_eq]
      rcases h with ⟨v, w', he, hT, hrest⟩ | ⟨g, args, R, hc, hret, hrest⟩
      · rcases he with he | ⟨he, hv, hnd⟩
        · rw [he]
          exact ⟨hT, anyS_of_path hs hd l _ _ w' (by rw [put_size]; exact h1) (by rw [put_defers]; exact h3) (inv.set hr) hB' hlt' (by rw [hdi]; exact hrest)⟩
        · rw [he]; subst hv
          exact ⟨hnd, hT, anyS_of_path hs hd l _ _ w' (by rw [put_size]; exact h1) (by rw [put_defers]; exact h3) (inv.set hr) hB' hlt' (by rw [hdi]; exact hrest)⟩
      · rw [hc]
        refine Calls.mono hret ?_
        rintro e w' ⟨v, rfl, hR⟩
        obtain ⟨hT, hrest⟩ := hrest v w' hR
        exact ⟨v, rfl, hT, anyS_of_path hs hd l _ _ w' (by rw [put_size]; exact h1) (by rw [put_defers]; exact h3) (inv.set hr) hB' hlt' (by rw [hdi]; exact hrest)⟩
theorem WC.regionS [hF : WideF F] {id : Nat} {l : List Oper} (S : World → Prop) (T : Nat → Bool) (π : List (Nat × Md)) (hm : P.follows .mixedOrders = true)
    (hB : (Region.noSelect l.toArray && l.toArray.all (dstOk sz) && decide (π.length = l.length) && π.all (fun p => Nat.blt p.1 l.length) && pathB .any l.toArray T π (Array.replicate l.length false)) = true)
    (h : RL P sz l.toArray S T (fun f ds w => Q .normal f ds w) π f ds { w with drawn := w.drawn + 1 }) : WC F P sz (.region id l.toArray true) Q f ds w := by
  intro n a h1 h2 h3
  simp only [Bool.and_eq_true, decide_eq_true_eq] at hB
  obtain ⟨⟨⟨⟨hs, hd⟩, hlen⟩, hlt⟩, hp⟩ := hB
  subst h2
  have := anyS_of_path (P := P) (md := .any) (S := S) (T := T) hs hd π (Array.replicate l.length false) a { w with drawn := w.drawn + 1 } h1 h3
    ⟨by simp, fun j oj _ hl => (by rw [getD_replicate_false'] at hl; cases hl)⟩ hp (fun i m hm' => by have := List.all_eq_true.1 hlt _ hm'; simpa using this) h
  rw [hlen] at this
  refine wpIn_region_any hm ?_
  have h4 := wpAnyIn_of_anyS hF (n := n) (Q' := lift sz Q) (fun a w h => h) _ _ _ _ this
  simpa using h4

theorem WC.regionB [hF : WideF F] {id : Nat} {l : List Oper} (T : Nat → Bool) (π : List (Nat × Md)) (hm : P.follows .mixedOrders = true)
    (hB : (Region.noSelect l.toArray && l.toArray.all (dstOk sz) && decide (π.length = l.length) && π.all (fun p => Nat.blt p.1 l.length) && pathB .any l.toArray T π (Array.replicate l.length false)) = true)
    (h : ∀ w', Below w.heap.size w w' → w'.heap = w.heap → RL P sz l.toArray (Below w.heap.size w) T (fun f ds w => Q .normal f ds w) π f ds w') : WC F P sz (.region id l.toArray true) Q f ds w :=
  WC.regionS _ T π hm hB (h _ ⟨rfl, rfl, rfl, Nat.le_refl _, fun _ _ => rfl⟩ rfl)
section
variable {ops : Array Oper} {S : World → Prop} {T : Nat → Bool} {K : Fr → List Deferred → World → Prop} {l : List (Nat × Md)} {i : Nat} {o : Oper} {v : Value}
theorem RL.nil (h : K f ds w) : RL P sz ops S T K [] f ds w := h
theorem RL.held (ho : ops[i]? = some o) (hg : gw ops f o = true) (hS : S w) (hy : ∀ w', S w' → Y P o f w' v) (h : RL P sz ops S T K l (putd f o.dst v) ds w) : RL P sz ops S T K ((i, .held) :: l) f ds w := by
  intro o' ho'
  have : o' = o := Option.some.inj (ho'.symm.trans ho)
  subst this
  exact ⟨hS, v, .inl ⟨hg, hy⟩, h⟩
theorem RL.any (ho : ops[i]? = some o) (hg : gw ops f o = true) (hy : ∀ w', Y P o f w' v) (h : RL P sz ops S T K l (putd f o.dst v) ds w) : RL P sz ops S T K ((i, .any) :: l) f ds w := by
  intro o' ho'
  have : o' = o := Option.some.inj (ho'.symm.trans ho)
  subst this
  exact ⟨v, .inl ⟨hg, hy⟩, h⟩
theorem RL.off (ho : ops[i]? = some o) (hg : gw ops f o = false) (h : RL P sz ops S T K l (putd f o.dst undef) ds w) : RL P sz ops S T K ((i, .any) :: l) f ds w := by
  intro o' ho'
  have : o' = o := Option.some.inj (ho'.symm.trans ho)
  subst this
  exact ⟨undef, .inr ⟨hg, rfl⟩, h⟩
theorem RL.y (ho : ops[i]? = some o) (hg : gw ops f o = true) (hy : Y P o f w v) (h : RL P sz ops S T K l (putd f o.dst v) ds w) : RL P sz ops S T K ((i, .seq) :: l) f ds w := by
  intro o' ho'
  have : o' = o := Option.some.inj (ho'.symm.trans ho)
  subst this
  exact ⟨hg, .inl ⟨v, w, .inl hy, .inr id, h⟩⟩
theorem RL.e {w' : World} (ho : ops[i]? = some o) (hg : gw ops f o = true) (he : E P o f w v w') (hT : T i = true ∨ (S w → S w')) (h : RL P sz ops S T K l (putd f o.dst v) ds w') : RL P sz ops S T K ((i, .seq) :: l) f ds w := by
  intro o' ho'
  have : o' = o := Option.some.inj (ho'.symm.trans ho)
  subst this
  exact ⟨hg, .inl ⟨v, w', he, hT, h⟩⟩
theorem RL.call {g : FuncId} {args : Array Value} {R : Value → World → Prop} (ho : ops[i]? = some o) (hg : gw ops f o = true) (hc : C P o f w g args) (hr : Ret P g args w R)
    (h : ∀ v w', R v w' → (T i = true ∨ (S w → S w')) ∧ RL P sz ops S T K l (putd f o.dst v) ds w') : RL P sz ops S T K ((i, .seq) :: l) f ds w := by
  intro o' ho'
  have : o' = o := Option.some.inj (ho'.symm.trans ho)
  subst this
  exact ⟨hg, .inr ⟨g, args, R, hc, hr, h⟩⟩
end

/-! ### Frames of which some slots are known -/
def ov (J : Fr) : List (Nat × Value) → Fr
  | [] => J
  | p :: l => upd (ov J l) p.1 p.2
def Ov (f : Fr) : List (Nat × Value) → Prop
  | [] => True
  | p :: l => f p.1 = p.2 ∧ Ov f l
theorem ov_mk : ∀ {l : List (Nat × Value)} {f : Fr}, Ov f l → f = ov f l
  | [], _, _ => rfl
  | p :: l, f, h => by
    have ih : f = ov f l := ov_mk (l := l) h.2
    funext t
    show f t = upd (ov f l) p.1 p.2 t
    unfold upd
    cases hb : Nat.beq t p.1 with
    | true => rw [Nat.eq_of_beq_eq_true hb]; exact h.1
    | false => rw [← ih]; rfl
theorem int_eq {k : IntKind} {a b : Int} (h : a = b) : Value.int k a = Value.int k b := by rw [h]
/-! ### A function's body -/
def fr0 : List Value → Fr
  | [], _ => undef
  | v :: _, 0 => v
  | _ :: l, t + 1 => fr0 l t
theorem fr0_eq (l : List Value) (t : Nat) : fr0 l t = l.getD t undef := by
  induction l generalizing t with
  | nil => simp [fr0]
  | cons v l ih => cases t with
    | zero => rfl
    | succ t => rw [fr0, ih]; simp
theorem fr_enter (l : List Value) (k : Nat) : fr { tmps := l.toArray ++ Array.replicate k undef, defers := [] } = fr0 l := by
  funext t
  rw [fr0_eq]
  simp only [fr, Array.getD_eq_getD_getElem?, List.getD_eq_getElem?_getD, Array.getElem?_append, Array.getElem?_replicate, List.size_toArray, List.getElem?_toArray]
  split
  · rfl
  · rename_i h
    rw [List.getElem?_eq_none (by omega)]
    split <;> rfl
def resS (rs : Array ResultVar) (f : Fr) : Sem Value := do
  let vs ← rs.mapM fun
    | .tmp t => pure (f t)
    | .cell a t => do loadVar t (← asAddr (f a))
  pure (if h : vs.size = 1 then vs[0] else .tuple vs)
def endQ (P : Program) (rs : Array ResultVar) (R : Value → World → Prop) : Post := fun e f ds w =>
  (e = .normal ∨ e = .ret) ∧ ds = [] ∧ ∃ v, (resS rs f).run P w = .ok v w ∧ R v w
theorem endQ.one {R : Value → World → Prop} {t : Nat} {e : Exit} (he : e = .normal ∨ e = .ret) (h : R (f t) w) : endQ P #[.tmp t] R e f [] w :=
  ⟨he, rfl, f t, by simp [resS], h⟩
theorem endQ.zero {R : Value → World → Prop} {e : Exit} (he : e = .normal ∨ e = .ret) (h : R (.tuple #[]) w) : endQ P #[] R e f [] w :=
  ⟨he, rfl, _, by simp [resS], h⟩
theorem endQ.two {R : Value → World → Prop} {t u : Nat} {e : Exit} (he : e = .normal ∨ e = .ret) (h : R (.tuple #[f t, f u]) w) : endQ P #[.tmp t, .tmp u] R e f [] w :=
  ⟨he, rfl, _, by simp [resS], h⟩
theorem endQ.three {R : Value → World → Prop} {t u x : Nat} {e : Exit} (he : e = .normal ∨ e = .ret) (h : R (.tuple #[f t, f u, f x]) w) : endQ P #[.tmp t, .tmp u, .tmp x] R e f [] w :=
  ⟨he, rfl, _, by simp [resS], h⟩
theorem WL.yex [hF : WideF F] {ops : Array Oper} {K : Fr → List Deferred → World → Prop} {o : Oper} {rest : List Oper} {Φ : Value → Prop} (hg : gw ops f o = true) (he : ∃ v, (∀ w', Y P o f w' v) ∧ Φ v)
    (h : ∀ v, Φ v → WL F P sz ops K rest (putd f o.dst v) ds w) : WL F P sz ops K (o :: rest) f ds w :=
  let ⟨v, h1, h2⟩ := he
  WL.y hg (h1 w) (h v h2)
theorem WL.eex [hF : WideF F] {ops : Array Oper} {K : Fr → List Deferred → World → Prop} {o : Oper} {rest : List Oper} {Φ : Value → World → Prop} (hg : gw ops f o = true) (he : ∃ v w', E P o f w v w' ∧ Φ v w')
    (h : ∀ v w', Φ v w' → WL F P sz ops K rest (putd f o.dst v) ds w') : WL F P sz ops K (o :: rest) f ds w :=
  let ⟨v, w', h1, h2⟩ := he
  WL.e hg h1 (h v w' h2)
section
variable {ops : Array Oper} {S : World → Prop} {T : Nat → Bool} {K : Fr → List Deferred → World → Prop} {l : List (Nat × Md)} {i : Nat} {o : Oper}
theorem RL.yex {Φ : Value → Prop} (ho : ops[i]? = some o) (hg : gw ops f o = true) (hy : ∃ v, (∀ w', Y P o f w' v) ∧ Φ v) (h : ∀ v, Φ v → RL P sz ops S T K l (putd f o.dst v) ds w) : RL P sz ops S T K ((i, .any) :: l) f ds w :=
  let ⟨v, h1, h2⟩ := hy
  RL.any ho hg h1 (h v h2)
theorem RL.eex {Φ : Value → World → Prop} (ho : ops[i]? = some o) (hg : gw ops f o = true) (he : ∃ v w', E P o f w v w' ∧ Φ v w') (hT : ∀ v w', Φ v w' → T i = true ∨ (S w → S w')) (h : ∀ v w', Φ v w' → RL P sz ops S T K l (putd f o.dst v) ds w') : RL P sz ops S T K ((i, .seq) :: l) f ds w :=
  let ⟨v, w', h1, h2⟩ := he
  RL.e ho hg h1 (hT v w' h2) (h v w' h2)
end
theorem Ret.of {g : FuncId} {fn : Func} {c : Code} {l : List Value} {R : Value → World → Prop} {n : Nat} {rs : Array ResultVar} (hf : P.funcs[g]? = some fn) (hb : fn.body = some c) (hn : fn.ntmps = n) (hrs : fn.results = rs) (hl : l.length ≤ n)
    (h : WC Fence.wide P n c (endQ P rs R) (fr0 l) [] w) : Ret P g l.toArray w R := by
  subst hn; subst hrs
  refine callsIn_wide.1 (callsIn_of_wp (n := 0) hf hb trivial ?_)
  refine wpIn_mono (h 0 _ (by simp; omega) (fr_enter l _) rfl) ?_
  rintro e a w' ⟨_, he, hd, v, hr, hR⟩
  rcases he with rfl | rfl <;> exact ⟨hd, v, hr, v, rfl, hR⟩
end
end Go.Cx
