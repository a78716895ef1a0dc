/-
  Regions that draw their order, where two effects may come up in either order: a tree of walks.
-/
import Derived.Test.YthcppegkpkgnpaaDoorBase9
namespace Go.Cx
set_option linter.unusedVariables false
open Go Go.RowKit
inductive Pt where
  | nil
  | one (i : Nat) (m : Md) (r : Pt)
  | two (i j : Nat) (l r : Pt)
def Pt.deep : Pt → Nat → Bool
  | .nil, n => Nat.beq n 0
  | .one _ _ r, n + 1 => r.deep n
  | .two _ _ l r, n + 1 => l.deep n && r.deep n
  | _, 0 => false
def Pt.within (n : Nat) : Pt → Bool
  | .nil => true
  | .one i _ r => Nat.blt i n && r.within n
  | .two i j l r => Nat.blt i n && Nat.blt j n && l.within n && r.within n
def pathT (md : Region.Mode) (ops : Array Oper) (T : Nat → Bool) : Pt → Array Bool → Bool
  | .nil, listed => (Region.ready md ops listed).isEmpty
  | .one i m r, listed => stepB md ops T listed i m && pathT md ops T r (listed.setIfInBounds i true)
  | .two i j l r, listed => decide (Region.ready md ops listed = [i, j]) && pathT md ops T l (listed.setIfInBounds i true) && pathT md ops T r (listed.setIfInBounds j true)
def SeqStep (P : Program) (ops : Array Oper) (S : World → Prop) (T : Nat → Bool) (i : Nat) (X : Fr → World → Prop) (f : Fr) (w : World) : Prop :=
  ∀ o, ops[i]? = some o → gw ops f o = true ∧ ((∃ v w', E P o f w v w' ∧ (T i = true ∨ (S w → S w')) ∧ X (putd f o.dst v) w') ∨
        (∃ g args R, C P o f w g args ∧ Ret P g args w R ∧ ∀ v w', R v w' → (T i = true ∨ (S w → S w')) ∧ X (putd f o.dst v) w'))
def RT (P : Program) (sz : Nat) (ops : Array Oper) (S : World → Prop) (T : Nat → Bool) (K : Fr → List Deferred → World → Prop) : Pt → Fr → List Deferred → World → Prop
  | .nil, f, ds, w => K f ds w
  | .one i m r, f, ds, w => match m with
    | .held => ∀ o, ops[i]? = some o → S w ∧ ∃ v, ((gw ops f o = true ∧ ∀ w', S w' → (execOp (ev f) o).run P w' = .ok (.value v) w') ∨ (gw ops f o = false ∧ v = undef)) ∧ RT P sz ops S T K r (putd f o.dst v) ds w
    | .any => ∀ o, ops[i]? = some o → ∃ v, ((gw ops f o = true ∧ ∀ w', (execOp (ev f) o).run P w' = .ok (.value v) w') ∨ (gw ops f o = false ∧ v = undef)) ∧ RT P sz ops S T K r (putd f o.dst v) ds w
    | .seq => SeqStep P ops S T i (fun f w => RT P sz ops S T K r f ds w) f w
  | .two i j l r, f, ds, w => SeqStep P ops S T i (fun f w => RT P sz ops S T K l f ds w) f w ∧ SeqStep P ops S T j (fun f w => RT P sz ops S T K r f ds w) f w
section
variable {F : Fence} {P : Program} {sz : Nat} {Q : Post} {f : Fr} {ds : List Deferred} {w : World}
theorem opX_of_seqStep {ops : Array Oper} {S : World → Prop} {T : Nat → Bool} {i : Nat} {X : Fr → World → Prop} {a : Act} {Y : Act → World → Prop} (hd : ops.all (dstOk sz) = true) (hlt : i < ops.size) (h1 : a.tmps.size = sz)
    (h : SeqStep P ops S T i X (fr a) w) (hY : ∀ (a' : Act) w', a'.tmps.size = sz → a'.defers = a.defers → X (fr a') w' → Y a' w') :
    opX P ops i (fun a' w' => (T i = true ∨ (S w → S w')) ∧ Y a' w') a w := by
  have hi : ops[i]? = some ops[i] := by simp [hlt]
  obtain ⟨hg, h⟩ := h _ hi
  have hdi : ∀ u, fr (a.put (ops[i]).dst u) = putd (fr a) (ops[i]).dst u := by
    intro u
    refine fr_putd a _ u (fun d e => ?_)
    have := Array.all_eq_true.1 hd i hlt
    simp only [dstOk, e] at this
    rw [h1]; exact Nat.blt_eq.mp this
  unfold opX
  simp only [hi]
  rw [wanted_eq, if_pos hg, eval_eq]
  rcases h with ⟨v, w', he, hT, hrest⟩ | ⟨g, args, R, hc, hret, hrest⟩
  · rcases he with he | ⟨he, hv, hnd⟩
    · rw [he]
      exact ⟨hT, hY _ _ (by rw [put_size]; exact h1) (by rw [put_defers]) (by rw [hdi]; exact hrest)⟩
    · rw [he]; subst hv
      exact ⟨hnd, hT, hY _ _ (by rw [put_size]; exact h1) (by rw [put_defers]) (by rw [hdi]; exact hrest)⟩
  · rw [hc]
    refine Calls.mono hret ?_
    rintro e w' ⟨v, rfl, hR⟩
    obtain ⟨hT, hrest⟩ := hrest v w' hR
    exact ⟨v, rfl, hT, hY _ _ (by rw [put_size]; exact h1) (by rw [put_defers]) (by rw [hdi]; exact hrest)⟩
theorem anyS_of_tree {md : Region.Mode} {ops : Array Oper} {S : World → Prop} {T : Nat → Bool} {K : Fr → List Deferred → World → Prop} (hs : Region.noSelect ops = true) (hd : ops.all (dstOk sz) = true) :
    ∀ (n : Nat) (p : Pt) (listed : Array Bool) (a : Act) (w : World), p.deep n = true → p.within ops.size = true → a.tmps.size = sz → a.defers = ds → ClosedL md ops listed → pathT md ops T p listed = true → RT P sz ops S T K p (fr a) ds w →
      AnyS P md ops S T (fun a w => a.tmps.size = sz ∧ K (fr a) a.defers w) n listed a w
  | 0, .nil, listed, a, w, _, _, h1, h3, _, hB, h => ⟨by simpa [pathT] using hB, h1, by rw [h3]; exact h⟩
  | n + 1, .nil, _, _, _, hn, _, _, _, _, _, _ => by simp [Pt.deep] at hn
  | 0, .one .., _, _, _, hn, _, _, _, _, _, _ => by simp [Pt.deep] at hn
  | 0, .two .., _, _, _, hn, _, _, _, _, _, _ => by simp [Pt.deep] at hn
  | n + 1, .one i m r, listed, a, w, hn, hw, h1, h3, inv, hB, h => by
    simp only [Pt.deep] at hn
    simp only [Pt.within, Bool.and_eq_true] at hw
    have hilt : i < ops.size := by simpa using hw.1
    have hi : ops[i]? = some ops[i] := by simp [hilt]
    have hdi : ∀ u, fr (a.put (ops[i]).dst u) = putd (fr a) (ops[i]).dst u := by
      intro u
      refine fr_putd a _ u (fun d e => ?_)
      have := Array.all_eq_true.1 hd i hilt
      simp only [dstOk, e] at this
      rw [h1]; exact Nat.blt_eq.mp this
    simp only [pathT, Bool.and_eq_true] at hB
    obtain ⟨hst, hB'⟩ := hB
    cases m with
    | held =>
      simp only [stepB, Bool.and_eq_true, List.contains_eq_mem, decide_eq_true_eq] at hst
      obtain ⟨⟨hr, hf⟩, ht⟩ := hst
      obtain ⟨hS, v, hy, hrest⟩ := h _ hi
      refine anyS_first hi (Region.noSelect_spec hs) (Cl := S) (.inr ⟨rfl, ht⟩) n listed a w inv (Region.free_spec hi hf) hr (v := v) ?_ hS ?_
      · unfold YV; rw [wanted_eq, eval_eq]; exact hy
      · exact anyS_of_tree hs hd n r _ _ w hn hw.2 (by rw [put_size]; exact h1) (by rw [put_defers]; exact h3) (inv.set hr) hB' (by rw [hdi]; exact hrest)
    | any =>
      simp only [stepB, Bool.and_eq_true, List.contains_eq_mem, decide_eq_true_eq] at hst
      obtain ⟨hr, hf⟩ := hst
      obtain ⟨v, hy, hrest⟩ := h _ hi
      refine anyS_first hi (Region.noSelect_spec hs) (Cl := fun _ => True) (.inl fun _ => trivial) n listed a w inv (Region.free_spec hi hf) hr (v := v) ?_ trivial ?_
      · unfold YV; rw [wanted_eq, eval_eq]
        rcases hy with hy | hy
        · exact .inl ⟨hy.1, fun w' _ => hy.2 w'⟩
        · exact .inr hy
      · exact anyS_of_tree hs hd n r _ _ w hn hw.2 (by rw [put_size]; exact h1) (by rw [put_defers]; exact h3) (inv.set hr) hB' (by rw [hdi]; exact hrest)
    | seq =>
      simp only [stepB, decide_eq_true_eq] at hst
      have hr : i ∈ Region.ready md ops listed := by rw [hst]; simp
      refine ⟨fun h0 => (by rw [hst] at h0; cases h0), fun j hj => ?_⟩
      rw [hst] at hj
      obtain rfl : j = i := by simpa using hj
      exact opX_of_seqStep (X := fun f w => RT P sz ops S T K r f ds w) hd hilt h1 h (fun a' w' h5 h6 h7 => anyS_of_tree hs hd n r _ _ w' hn hw.2 h5 (h6.trans h3) (inv.set hr) hB' h7)
  | n + 1, .two i j l r, listed, a, w, hn, hw, h1, h3, inv, hB, h => by
    simp only [Pt.deep, Bool.and_eq_true] at hn
    simp only [Pt.within, Bool.and_eq_true] at hw
    have hil : i < ops.size := by simpa using hw.1.1.1
    have hjl : j < ops.size := by simpa using hw.1.1.2
    simp only [pathT, Bool.and_eq_true, decide_eq_true_eq] at hB
    obtain ⟨⟨hst, hBl⟩, hBr⟩ := hB
    have hri : i ∈ Region.ready md ops listed := by rw [hst]; simp
    have hrj : j ∈ Region.ready md ops listed := by rw [hst]; simp
    refine ⟨fun h0 => (by rw [hst] at h0; cases h0), fun q hq => ?_⟩
    rw [hst] at hq
    have : q = i ∨ q = j := by simpa using hq
    rcases this with rfl | rfl
    · exact opX_of_seqStep hd hil h1 h.1 (fun a' w' h5 h6 h7 => anyS_of_tree hs hd n l _ _ w' hn.1 hw.1.2 h5 (h6.trans h3) (inv.set hri) hBl h7)
    · exact opX_of_seqStep hd hjl h1 h.2 (fun a' w' h5 h6 h7 => anyS_of_tree hs hd n r _ _ w' hn.2 hw.2 h5 (h6.trans h3) (inv.set hrj) hBr h7)
theorem WC.regionTS [hF : WideF F] {id : Nat} {l : List Oper} (S : World → Prop) (T : Nat → Bool) (p : Pt) (hm : P.follows .mixedOrders = true)
    (hB : (Region.noSelect l.toArray && l.toArray.all (dstOk sz) && p.deep l.length && p.within l.length && pathT .any l.toArray T p (Array.replicate l.length false)) = true)
    (h : RT P sz l.toArray S T (fun f ds w => Q .normal f ds w) p f ds { w with drawn := w.drawn + 1 }) : WC F P sz (.region id l.toArray true) Q f ds w := by
  intro n a h1 h2 h3
  simp only [Bool.and_eq_true] at hB
  obtain ⟨⟨⟨⟨hs, hd⟩, hlen⟩, hlt⟩, hp⟩ := hB
  subst h2
  have := anyS_of_tree (P := P) (md := .any) (S := S) (T := T) hs hd l.length p (Array.replicate l.length false) a { w with drawn := w.drawn + 1 } hlen (by simpa using hlt) h1 h3
    ⟨by simp, fun j oj _ hl => (by rw [getD_replicate_false'] at hl; cases hl)⟩ hp h
  refine wpIn_region_any hm ?_
  have h4 := wpAnyIn_of_anyS hF (n := n) (Q' := lift sz Q) (fun a w h => h) _ _ _ _ this
  simpa using h4
theorem WC.regionTB [hF : WideF F] {id : Nat} {l : List Oper} (T : Nat → Bool) (p : Pt) (hm : P.follows .mixedOrders = true)
    (hB : (Region.noSelect l.toArray && l.toArray.all (dstOk sz) && p.deep l.length && p.within l.length && pathT .any l.toArray T p (Array.replicate l.length false)) = true)
    (h : ∀ w', Below w.heap.size w w' → w'.heap = w.heap → RT P sz l.toArray (Below w.heap.size w) T (fun f ds w => Q .normal f ds w) p f ds w') : WC F P sz (.region id l.toArray true) Q f ds w :=
  WC.regionTS _ T p hm hB (h _ ⟨rfl, rfl, rfl, Nat.le_refl _, fun _ _ => rfl⟩ rfl)
theorem WC.regionTK [hF : WideF F] {id : Nat} {l : List Oper} (M : Nat → Prop) (T : Nat → Bool) (p : Pt) (hm : P.follows .mixedOrders = true)
    (hB : (Region.noSelect l.toArray && l.toArray.all (dstOk sz) && p.deep l.length && p.within l.length && pathT .any l.toArray T p (Array.replicate l.length false)) = true)
    (h : ∀ w', Below w.heap.size w w' → w'.heap = w.heap → RT P sz l.toArray (Kept M w') T (fun f ds w => Q .normal f ds w) p f ds w') : WC F P sz (.region id l.toArray true) Q f ds w :=
  WC.regionTS (Kept M { w with drawn := w.drawn + 1 }) T p hm hB (h _ ⟨rfl, rfl, rfl, Nat.le_refl _, fun _ _ => rfl⟩ rfl)
section
variable {ops : Array Oper} {S : World → Prop} {T : Nat → Bool} {K : Fr → List Deferred → World → Prop} {l : Pt} {i : Nat} {o : Oper} {v : Value}
theorem RT.nil (h : K f ds w) : RT P sz ops S T K .nil f ds w := h
theorem RT.held (ho : ops[i]? = some o) (hg : gw ops f o = true) (hS : S w) (hy : ∀ w', S w' → Y P o f w' v) (h : RT P sz ops S T K l (putd f o.dst v) ds w) : RT P sz ops S T K (.one i .held l) f ds w := by
  intro o' ho'
  have : o' = o := Option.some.inj (ho'.symm.trans ho)
  subst this
  exact ⟨hS, v, .inl ⟨hg, hy⟩, h⟩
theorem RT.any (ho : ops[i]? = some o) (hg : gw ops f o = true) (hy : ∀ w', Y P o f w' v) (h : RT P sz ops S T K l (putd f o.dst v) ds w) : RT P sz ops S T K (.one i .any l) f ds w := by
  intro o' ho'
  have : o' = o := Option.some.inj (ho'.symm.trans ho)
  subst this
  exact ⟨v, .inl ⟨hg, hy⟩, h⟩
theorem RT.off (ho : ops[i]? = some o) (hg : gw ops f o = false) (h : RT P sz ops S T K l (putd f o.dst undef) ds w) : RT P sz ops S T K (.one i .any l) f ds w := by
  intro o' ho'
  have : o' = o := Option.some.inj (ho'.symm.trans ho)
  subst this
  exact ⟨undef, .inr ⟨hg, rfl⟩, h⟩
theorem RT.offH (ho : ops[i]? = some o) (hg : gw ops f o = false) (hS : S w) (h : RT P sz ops S T K l (putd f o.dst undef) ds w) : RT P sz ops S T K (.one i .held l) f ds w := by
  intro o' ho'
  have : o' = o := Option.some.inj (ho'.symm.trans ho)
  subst this
  exact ⟨hS, undef, .inr ⟨hg, rfl⟩, h⟩
theorem RL.offH {l : List (Nat × Md)} (ho : ops[i]? = some o) (hg : gw ops f o = false) (hS : S w) (h : RL P sz ops S T K l (putd f o.dst undef) ds w) : RL P sz ops S T K ((i, .held) :: l) f ds w := by
  intro o' ho'
  have : o' = o := Option.some.inj (ho'.symm.trans ho)
  subst this
  exact ⟨hS, undef, .inr ⟨hg, rfl⟩, h⟩
theorem SeqStep.e {X : Fr → World → Prop} {w' : World} (ho : ops[i]? = some o) (hg : gw ops f o = true) (he : E P o f w v w') (hT : T i = true ∨ (S w → S w')) (h : X (putd f o.dst v) w') : SeqStep P ops S T i X f w := by
  intro o' ho'
  have : o' = o := Option.some.inj (ho'.symm.trans ho)
  subst this
  exact ⟨hg, .inl ⟨v, w', he, hT, h⟩⟩
theorem SeqStep.call {X : Fr → World → Prop} {g : FuncId} {args : Array Value} {R : Value → World → Prop} (ho : ops[i]? = some o) (hg : gw ops f o = true) (hc : C P o f w g args) (hr : Ret P g args w R)
    (h : ∀ v w', R v w' → (T i = true ∨ (S w → S w')) ∧ X (putd f o.dst v) w') : SeqStep P ops S T i X f w := by
  intro o' ho'
  have : o' = o := Option.some.inj (ho'.symm.trans ho)
  subst this
  exact ⟨hg, .inr ⟨g, args, R, hc, hr, h⟩⟩
theorem RT.y (ho : ops[i]? = some o) (hg : gw ops f o = true) (hy : Y P o f w v) (h : RT P sz ops S T K l (putd f o.dst v) ds w) : RT P sz ops S T K (.one i .seq l) f ds w := SeqStep.e (X := fun f w => RT P sz ops S T K l f ds w) ho hg (.inl hy) (.inr id) h
theorem RT.e {w' : World} (ho : ops[i]? = some o) (hg : gw ops f o = true) (he : E P o f w v w') (hT : T i = true ∨ (S w → S w')) (h : RT P sz ops S T K l (putd f o.dst v) ds w') : RT P sz ops S T K (.one i .seq l) f ds w := SeqStep.e (X := fun f w => RT P sz ops S T K l f ds w) ho hg he hT h
theorem RT.call {g : FuncId} {args : Array Value} {R : Value → World → Prop} (ho : ops[i]? = some o) (hg : gw ops f o = true) (hc : C P o f w g args) (hr : Ret P g args w R)
    (h : ∀ v w', R v w' → (T i = true ∨ (S w → S w')) ∧ RT P sz ops S T K l (putd f o.dst v) ds w') : RT P sz ops S T K (.one i .seq l) f ds w := SeqStep.call (X := fun f w => RT P sz ops S T K l f ds w) ho hg hc hr h
theorem RT.yex {Φ : Value → Prop} (ho : ops[i]? = some o) (hg : gw ops f o = true) (hy : ∃ v, (∀ w', Y P o f w' v) ∧ Φ v) (h : ∀ v, Φ v → RT P sz ops S T K l (putd f o.dst v) ds w) : RT P sz ops S T K (.one i .any l) f ds w :=
  let ⟨v, h1, h2⟩ := hy
  RT.any ho hg h1 (h v h2)
theorem RT.eex {Φ : Value → World → Prop} (ho : ops[i]? = some o) (hg : gw ops f o = true) (he : ∃ v w', E P o f w v w' ∧ Φ v w') (hT : ∀ v w', Φ v w' → T i = true ∨ (S w → S w')) (h : ∀ v w', Φ v w' → RT P sz ops S T K l (putd f o.dst v) ds w') : RT P sz ops S T K (.one i .seq l) f ds w :=
  let ⟨v, w', h1, h2⟩ := he
  RT.e ho hg h1 (hT v w' h2) (h v w' h2)
/-- one of two is taken: as if it were the only one -/
theorem RT.two {j : Nat} {r : Pt} (h1 : RT P sz ops S T K (.one i .seq l) f ds w) (h2 : RT P sz ops S T K (.one j .seq r) f ds w) : RT P sz ops S T K (.two i j l r) f ds w := ⟨h1, h2⟩
end
end
end Go.Cx
