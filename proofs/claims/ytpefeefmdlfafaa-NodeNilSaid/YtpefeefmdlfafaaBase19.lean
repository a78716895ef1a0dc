/-
  Regions that draw: a check by masks.
-/
import Derived.Test.YtpefeefmdlfafaaBase11
namespace Go.Proofs.Ytpefeefmdlfafaa
open Go Go.RowKit Go.Cx
set_option linter.unusedVariables false
set_option maxHeartbeats 1000000
/-- a set of numbers as a mask -/
def msk (l : List Nat) : Nat := l.foldr (fun e m => m ||| (1 <<< e)) 0
theorem msk_bit (l : List Nat) (k : Nat) : (msk l).testBit k = true ↔ k ∈ l := by
  induction l with
  | nil => simp [msk]
  | cons a l ih =>
    have e : msk (a :: l) = msk l ||| (1 <<< a) := rfl
    rw [e, Nat.testBit_or, Bool.or_eq_true, ih, List.mem_cons]
    have h2 : (1 <<< a).testBit k = true ↔ k = a := by
      rw [Nat.one_shiftLeft, Nat.testBit_two_pow, decide_eq_true_iff]; exact eq_comm
    rw [h2]; exact or_comm
theorem land_sub {a m : Nat} : Nat.beq (Nat.land a m) a = true ↔ ∀ k, a.testBit k = true → m.testBit k = true := by
  rw [Nat.beq_eq]
  constructor
  · intro h k hk
    have h' : a &&& m = a := h
    have := congrArg (fun x => x.testBit k) h'
    simp only [Nat.testBit_and, hk, Bool.true_and] at this
    exact this
  · intro h
    show a &&& m = a
    apply Nat.eq_of_testBit_eq
    intro k
    rw [Nat.testBit_and]
    cases hk : a.testBit k with
    | false => rfl
    | true => rw [h k hk]; rfl
theorem land_none {a b : Nat} (h : Nat.beq (Nat.land a b) 0 = true) (k : Nat) (h1 : a.testBit k = true) (h2 : b.testBit k = true) : False := by
  have h' : a &&& b = 0 := Nat.eq_of_beq_eq_true h
  have := congrArg (fun x => x.testBit k) h'
  simp [Nat.testBit_and, h1, h2] at this
def amL (o : Oper) : List Nat := (o.after.toList.filter (fun e => Region.binds .any e)).map (·.on)
def dmL (o : Oper) : List Nat := o.dst.toList
/-- an operation: for which ones it waits, where it puts, at which slots it looks -/
def rowM (ops : Array Oper) (o : Oper) : Nat × Nat × Nat := (msk (amL o), msk (dmL o), msk (o.looksAt ops))
/-- (no classes in it: quick for the kernel) -/
def tb (m j : Nat) : Bool := Nat.beq (Nat.land 1 (Nat.shiftRight m j)) 1
theorem tb_eq (m j : Nat) : tb m j = m.testBit j := by
  have e : (m >>> j) &&& 1 = (m >>> j) % 2 := Nat.and_one_is_mod _
  have e2 : 1 &&& (m >>> j) = (m >>> j) % 2 := by rw [Nat.and_comm]; exact e
  have hb : tb m j = Nat.beq (1 &&& (m >>> j)) 1 := rfl
  rw [hb, e2, Nat.testBit, e2]
  rcases Nat.mod_two_eq_zero_or_one (m >>> j) with h | h <;> rw [h] <;> rfl
def allR (p : Nat → Nat → Nat → Nat → Bool) : Nat → List (Nat × Nat × Nat) → Bool
  | _, [] => true
  | j, (a, d, l) :: t => p j a d l && allR p (j + 1) t
def rdyM (m j a : Nat) : Bool := bif tb m j then false else Nat.beq (Nat.land a m) a
theorem rdyM_eq (m j a : Nat) : rdyM m j a = (!m.testBit j && Nat.beq (Nat.land a m) a) := by
  unfold rdyM; rw [tb_eq]; cases m.testBit j <;> rfl
def stepM (tab : List (Nat × Nat × Nat)) (m i : Nat) : Md → Bool
  | .seq => (match tab[i]? with | some (a, _, _) => rdyM m i a | none => false) && allR (fun j a _ _ => Nat.beq j i || !rdyM m j a) 0 tab
  | _ => match tab[i]? with
    | some (a, d, l) => rdyM m i a && allR (fun j a' d' l' => Nat.beq j i || tb m j || tb a' i || (Nat.beq (Nat.land d l') 0 && Nat.beq (Nat.land d d') 0 && Nat.beq (Nat.land d' l) 0)) 0 tab
    | none => false
def pathM (tab : List (Nat × Nat × Nat)) : List (Nat × Md) → List Nat → Bool
  | [], [m] => allR (fun j a _ _ => !rdyM m j a) 0 tab
  | (i, md) :: l, m :: m' :: ms => stepM tab m i md && Nat.beq m' (Nat.lor m (Nat.shiftLeft 1 i)) && pathM tab l (m' :: ms)
  | _, _ => false
theorem allR_get {p : Nat → Nat → Nat → Nat → Bool} : ∀ (t : List (Nat × Nat × Nat)) (j : Nat), allR p j t = true → ∀ k a d l, t[k]? = some (a, d, l) → p (j + k) a d l = true
  | [], _, _, k, a, d, l, h => by simp at h
  | (a0, d0, l0) :: t, j, h, k, a, d, l, hk => by
    rw [allR, Bool.and_eq_true] at h
    cases k with
    | zero => simp at hk; obtain ⟨rfl, rfl, rfl⟩ := hk; exact h.1
    | succ k =>
      have := allR_get t (j + 1) h.2 k a d l (by simpa using hk)
      rw [show j + 1 + k = j + (k + 1) by omega] at this
      exact this
structure RelM (ops : Array Oper) (listed : Array Bool) (m : Nat) : Prop where
  size : listed.size = ops.size
  bit : ∀ j, listed.getD j false = m.testBit j
theorem RelM.bit' {ops : Array Oper} {listed : Array Bool} {m j : Nat} (h : RelM ops listed m) (hj : j < ops.size) : listed.getD j true = m.testBit j := by
  rw [← h.bit j]
  have : j < listed.size := by rw [h.size]; exact hj
  simp [Array.getD, this]
theorem RelM.set {ops : Array Oper} {listed : Array Bool} {m i : Nat} (h : RelM ops listed m) (hi : i < ops.size) : RelM ops (listed.setIfInBounds i true) (m ||| (1 <<< i)) := by
  refine ⟨by rw [Array.size_setIfInBounds]; exact h.size, fun j => ?_⟩
  have hil : i < listed.size := by rw [h.size]; exact hi
  rw [Nat.testBit_or, Nat.one_shiftLeft, Nat.testBit_two_pow, ← h.bit j]
  by_cases e : i = j
  · subst e
    simp [Array.getD, hil]
  · rw [decide_eq_false e, Bool.or_false, getD_set_ne false e]
theorem rdy_iff {ops : Array Oper} {listed : Array Bool} {m j : Nat} {o : Oper} (h : RelM ops listed m) (ho : ops[j]? = some o) : rdyM m j (msk (amL o)) = true ↔ j ∈ Region.ready .any ops listed := by
  have hj : j < ops.size := (Array.getElem?_eq_some_iff.1 ho).1
  rw [mem_ready, rdyM_eq, Bool.and_eq_true, land_sub, h.bit' hj, Bool.not_eq_true']
  constructor
  · rintro ⟨h1, h2⟩
    refine ⟨h1, o, ho, fun e he hb => ?_⟩
    rw [h.bit]
    exact h2 _ ((msk_bit _ _).2 (List.mem_map.2 ⟨e, List.mem_filter.2 ⟨by simpa using he, hb⟩, rfl⟩))
  · rintro ⟨h1, o', ho', h2⟩
    have : o' = o := Option.some.inj (ho'.symm.trans ho)
    subst this
    refine ⟨h1, fun k hk => ?_⟩
    obtain ⟨e, he, rfl⟩ := List.mem_map.1 ((msk_bit _ _).1 hk)
    obtain ⟨he1, he2⟩ := List.mem_filter.1 he
    rw [← h.bit]
    exact h2 e (by simpa using he1) he2
theorem row_get {ops : Array Oper} {j : Nat} {o : Oper} (ho : ops[j]? = some o) : (ops.toList.map (rowM ops))[j]? = some (rowM ops o) := by
  rw [List.getElem?_map, Array.getElem?_toList, ho]; rfl
theorem row_none {ops : Array Oper} {j : Nat} (ho : ops[j]? = none) : (ops.toList.map (rowM ops))[j]? = none := by
  rw [List.getElem?_map, Array.getElem?_toList, ho]; rfl
theorem apart_of {ops : Array Oper} {x y : Oper} (h1 : Nat.beq (Nat.land (msk (dmL x)) (msk (y.looksAt ops))) 0 = true) (h2 : Nat.beq (Nat.land (msk (dmL x)) (msk (dmL y))) 0 = true) (h3 : Nat.beq (Nat.land (msk (dmL y)) (msk (x.looksAt ops))) 0 = true) : x.apart ops y = true := by
  have b : ∀ {o : Oper} {d : Nat}, o.dst = some d → (msk (dmL o)).testBit d = true := fun h => (msk_bit _ _).2 (by rw [dmL, h]; simp)
  unfold Oper.apart
  rw [Bool.and_eq_true]
  constructor
  · cases hd : x.dst with
    | none => rfl
    | some d =>
      simp only [Bool.and_eq_true, Bool.not_eq_true', bne_iff_ne, ne_eq]
      refine ⟨?_, fun e => land_none h2 d (b hd) (b e)⟩
      cases hc : (y.looksAt ops).contains d with
      | false => rfl
      | true => exact (land_none h1 d (b hd) ((msk_bit _ _).2 (List.contains_iff_mem.1 hc))).elim
  · cases hd : y.dst with
    | none => rfl
    | some d =>
      show (!(x.looksAt ops).contains d) = true
      cases hc : (x.looksAt ops).contains d with
      | false => rfl
      | true => exact (land_none h3 d (b hd) ((msk_bit _ _).2 (List.contains_iff_mem.1 hc))).elim
theorem free_of {ops : Array Oper} {listed : Array Bool} {m i : Nat} {oi : Oper} (h : RelM ops listed m) (ho : ops[i]? = some oi) (hc : allR (fun j a' d' l' => Nat.beq j i || tb m j || tb a' i || (Nat.beq (Nat.land (msk (dmL oi)) l') 0 && Nat.beq (Nat.land (msk (dmL oi)) d') 0 && Nat.beq (Nat.land d' (msk (oi.looksAt ops))) 0)) 0 (ops.toList.map (rowM ops)) = true) : Region.free .any ops listed i = true := by
  simp only [Region.free, ho, List.all_eq_true, List.mem_range]
  intro j hj
  have hoj : ops[j]? = some ops[j] := Array.getElem?_eq_getElem hj
  have := allR_get _ _ hc j _ _ _ (row_get hoj)
  simp only [Nat.zero_add, Bool.or_eq_true, Bool.and_eq_true, tb_eq] at this
  simp only [hoj, Bool.or_eq_true, h.bit' hj]
  rcases this with ((h1 | h1) | h1) | h1
  · exact .inl (.inl (by rw [beq_iff_eq]; exact Nat.eq_of_beq_eq_true h1))
  · exact .inl (.inr h1)
  · right; left
    obtain ⟨e, he, hon⟩ := List.mem_map.1 ((msk_bit _ _).1 h1)
    obtain ⟨he1, he2⟩ := List.mem_filter.1 he
    rw [Array.any_eq_true']
    exact ⟨e, by simpa using he1, by rw [he2, hon]; simp⟩
  · right; right
    exact apart_of h1.1.1 h1.1.2 h1.2
theorem seq_of {ops : Array Oper} {listed : Array Bool} {m i : Nat} {oi : Oper} (h : RelM ops listed m) (ho : ops[i]? = some oi) (h1 : rdyM m i (msk (amL oi)) = true) (hc : allR (fun j a _ _ => Nat.beq j i || !rdyM m j a) 0 (ops.toList.map (rowM ops)) = true) : Region.ready .any ops listed = [i] := by
  have hi := (rdy_iff h ho).1 h1
  have hnd : (Region.ready .any ops listed).Nodup := List.Pairwise.filter _ List.nodup_range
  have hall : ∀ j ∈ Region.ready .any ops listed, j = i := by
    intro j hj
    obtain ⟨h2, o, hoj, h3⟩ := mem_ready.1 hj
    have := allR_get _ _ hc j _ _ _ (row_get hoj)
    simp only [Nat.zero_add, Bool.or_eq_true, Bool.not_eq_true'] at this
    rcases this with e | e
    · exact Nat.eq_of_beq_eq_true e
    · have h4 := (rdy_iff h hoj).2 hj
      rw [h4] at e; cases e
  generalize Region.ready .any ops listed = r at hi hnd hall
  match r, hi, hnd, hall with
  | [], hi, _, _ => simp at hi
  | [a], _, _, hall => rw [hall a (by simp)]
  | a :: b :: t, _, hnd, hall =>
    have e1 := hall a (by simp)
    have e2 := hall b (by simp)
    simp only [List.nodup_cons, List.mem_cons, not_or] at hnd
    exact absurd (e1.trans e2.symm) hnd.1.1
theorem path_of {ops : Array Oper} : ∀ (π : List (Nat × Md)) (ms : List Nat) (m : Nat) (listed : Array Bool), RelM ops listed m → pathM (ops.toList.map (rowM ops)) π (m :: ms) = true → pathB .any ops (fun _ => false) π listed = true
  | [], [], m, listed, h, hp => by
    rw [pathM] at hp
    rw [pathB]
    cases hr : Region.ready .any ops listed with
    | nil => rfl
    | cons j t =>
      have hj : j ∈ Region.ready .any ops listed := by rw [hr]; simp
      obtain ⟨h2, o, hoj, h3⟩ := mem_ready.1 hj
      have := allR_get _ _ hp j _ _ _ (row_get hoj)
      rw [Nat.zero_add, (rdy_iff h hoj).2 hj] at this
      cases this
  | [], _ :: _, m, listed, h, hp => by simp [pathM] at hp
  | (i, md) :: l, [], m, listed, h, hp => by simp [pathM] at hp
  | (i, md) :: l, m' :: ms, m, listed, h, hp => by
    rw [pathM, Bool.and_eq_true, Bool.and_eq_true] at hp
    obtain ⟨⟨h1, h2⟩, h3⟩ := hp
    have h2 := Nat.eq_of_beq_eq_true h2
    subst h2
    cases ho : ops[i]? with
    | none =>
      exfalso
      cases md <;> simp [stepM, row_none ho] at h1
    | some oi =>
      have hi : i < ops.size := (Array.getElem?_eq_some_iff.1 ho).1
      rw [pathB, Bool.and_eq_true]
      refine ⟨?_, path_of l ms _ _ (h.set hi) h3⟩
      have hgen : (rdyM m i (msk (amL oi)) && allR (fun j a' d' l' => Nat.beq j i || tb m j || tb a' i || (Nat.beq (Nat.land (msk (dmL oi)) l') 0 && Nat.beq (Nat.land (msk (dmL oi)) d') 0 && Nat.beq (Nat.land d' (msk (oi.looksAt ops))) 0)) 0 (ops.toList.map (rowM ops))) = true → ((Region.ready .any ops listed).contains i && Region.free .any ops listed i) = true := by
        intro h1
        rw [Bool.and_eq_true] at h1 ⊢
        exact ⟨List.contains_iff_mem.2 ((rdy_iff h ho).1 h1.1), free_of h ho h1.2⟩
      cases md with
      | held =>
        simp only [stepM, row_get ho, rowM] at h1
        rw [stepB, hgen h1, Bool.true_and]
        simp [tailOk]
      | any =>
        simp only [stepM, row_get ho, rowM] at h1
        rw [stepB, hgen h1]
      | seq =>
        simp only [stepM, row_get ho, rowM, Bool.and_eq_true] at h1
        rw [stepB, decide_eq_true_iff]
        exact seq_of h ho h1.1 h1.2
section
variable {F : Fence} {P : Program} {sz : Nat} {Q : Post} {f : Fr} {ds : List Deferred} {w : World}
/-- a region that draws, checked by masks: S is kept throughout -/
theorem WC.regionN [hF : WideF F] {id : Nat} {l : List Oper} (tab : List (Nat × Nat × Nat)) (ms : List Nat) (π : List (Nat × Md)) (hm : P.follows .mixedOrders = true)
    (h1 : (Region.noSelect l.toArray && l.toArray.all (dstOk sz) && decide (π.length = l.length) && π.all (fun p => Nat.blt p.1 l.length)) = true)
    (h2 : l.map (rowM l.toArray) = tab) (h3 : pathM tab π (0 :: ms) = true)
    (h : ∀ w', Below w.heap.size w w' → w'.heap = w.heap → RL P sz l.toArray (Below w.heap.size w) (fun _ => false) (fun f ds w => Q .normal f ds w) π f ds w') : WC F P sz (.region id l.toArray true) Q f ds w := by
  subst h2
  refine WC.regionB (fun _ => false) π hm ?_ h
  rw [Bool.and_eq_true]
  exact ⟨h1, path_of π ms 0 _ ⟨by simp, fun j => by simp [Array.getD]⟩ h3⟩
end
end Go.Proofs.Ytpefeefmdlfafaa
