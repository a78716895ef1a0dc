/-
  Members by their keys: the object of members, in plain; value.Object's closure: walk.
-/
import Derived.Test.YthcppegkpkgnpaaDoorVal24
import Derived.Test.YthcppegkpkgnpaaDoorVal25
import Derived.Test.YthcppegkpkgnpaaDoorShelf2
import Derived.Shelf.SlSortFuncK.WholeK
import Derived.Shelf.GgSortFunc.Tiny
import Derived.Sort.Walk0
namespace Go.Proofs.YthcppegkpkgnpaaDoor
open Go Go.RowKit Go.Cx
set_option linter.unusedVariables false
set_option maxHeartbeats 8000000
open Go.Sort
abbrev KV := List UInt8 × V
theorem slt_lt (a b : List UInt8) : slt a b = ltStr a b := bytesLess_eq a b
theorem slt_iff {a b : List UInt8} : slt a b = true ↔ a < b := by rw [slt_lt]; simp [ltStr]
theorem key_lt {a b : List UInt8} (h1 : ¬ a < b) (h2 : a ≠ b) : b < a := by
  by_cases h : b < a
  · exact h
  · exact absurd (List.le_antisymm (List.not_lt.1 h) (List.not_lt.1 h1)) h2
/-- a member set into an ascending row: none where its key is there -/
def insO (p : KV) : List KV → Option (List KV)
  | [] => some [p]
  | q :: qs => if q.1 < p.1 then (insO p qs).map (q :: ·) else if q.1 = p.1 then none else some (p :: q :: qs)
/-- how many of an ascending row lie under a key -/
def cntK (k : List UInt8) : List KV → Nat
  | [] => 0
  | q :: qs => if q.1 < k then cntK k qs + 1 else 0
theorem cntK_le (c : List UInt8) : ∀ ks, cntK c ks ≤ ks.length
  | [] => Nat.le_refl _
  | k :: ks => by
    unfold cntK
    have := cntK_le c ks
    split <;> simp <;> omega
theorem cntK_lt (c : List UInt8) : ∀ (ks : List KV) (i : Nat) (h : i < ks.length), i < cntK c ks → ks[i].1 < c
  | [], i, h, _ => by simp at h
  | k :: ks, i, h, h2 => by
    unfold cntK at h2
    split at h2
    · cases i with
      | zero => assumption
      | succ i => exact cntK_lt c ks i (by simpa using h) (by omega)
    · omega
theorem cntK_ge (c : List UInt8) : ∀ (ks : List KV) (h : cntK c ks < ks.length), ¬ ks[cntK c ks].1 < c
  | [], h => by simp at h
  | k :: ks, h => by
    by_cases e : k.1 < c
    · have e2 : cntK c (k :: ks) = cntK c ks + 1 := by rw [cntK, if_pos e]
      have h3 : cntK c ks < ks.length := by rw [e2] at h; simpa using h
      have := cntK_ge c ks h3
      simp only [e2, List.getElem_cons_succ]
      exact this
    · have e2 : cntK c (k :: ks) = 0 := by rw [cntK, if_neg e]
      simp only [e2, List.getElem_cons_zero]
      exact e
theorem cntK_eq {c : List UInt8} {ks : List KV} {i : Nat} (hi : i ≤ ks.length) (h1 : ∀ j (h : j < ks.length), j < i → ks[j].1 < c) (h2 : ∀ h : i < ks.length, ¬ ks[i].1 < c) : i = cntK c ks := by
  have h3 := cntK_le c ks
  rcases Nat.lt_trichotomy i (cntK c ks) with h | h | h
  · exact absurd (cntK_lt c ks i (by omega) h) (h2 (by omega))
  · exact h
  · exact absurd (h1 _ (by omega) h) (cntK_ge c ks (by omega))
theorem insO_has (p : KV) : ∀ (ks : List KV) (h : cntK p.1 ks < ks.length), ks[cntK p.1 ks].1 = p.1 → insO p ks = none
  | [], h, _ => by simp at h
  | k :: ks, h, e3 => by
    by_cases e : k.1 < p.1
    · have e2 : cntK p.1 (k :: ks) = cntK p.1 ks + 1 := by rw [cntK, if_pos e]
      have h3 : cntK p.1 ks < ks.length := by rw [e2] at h; simpa using h
      simp only [e2, List.getElem_cons_succ] at e3
      rw [insO, if_pos e, insO_has p ks h3 e3]
      rfl
    · have e2 : cntK p.1 (k :: ks) = 0 := by rw [cntK, if_neg e]
      simp only [e2, List.getElem_cons_zero] at e3
      rw [insO, if_neg e, if_pos e3]
theorem insO_new (p : KV) : ∀ (ks : List KV), (∀ h : cntK p.1 ks < ks.length, ks[cntK p.1 ks].1 ≠ p.1) → insO p ks = some ((ks.take (cntK p.1 ks) ++ [p]) ++ ks.drop (cntK p.1 ks))
  | [], _ => rfl
  | k :: ks, h => by
    by_cases e : k.1 < p.1
    · have e2 : cntK p.1 (k :: ks) = cntK p.1 ks + 1 := by rw [cntK, if_pos e]
      have := insO_new p ks (fun h3 => by
        have h4 := h (by rw [e2]; simpa using h3)
        simp only [e2, List.getElem_cons_succ] at h4
        exact h4)
      rw [insO, if_pos e, this, e2]
      simp
    · have e2 : cntK p.1 (k :: ks) = 0 := by rw [cntK, if_neg e]
      have h4 := h (by rw [e2]; simp)
      simp only [e2, List.getElem_cons_zero] at h4
      rw [insO, if_neg e, if_neg h4, e2]
      simp
def Asc (qs : List KV) : Prop := qs.Pairwise (fun a b => a.1 < b.1)
theorem insO_some {p : KV} : ∀ {qs rs : List KV}, insO p qs = some rs → Asc qs → Asc rs ∧ rs.Perm (p :: qs)
  | [], rs, h, _ => by
    unfold insO at h
    cases h
    exact ⟨List.pairwise_singleton _ _, List.Perm.refl _⟩
  | q :: qs, rs, h, ha => by
    unfold Asc at ha
    rw [List.pairwise_cons] at ha
    unfold insO at h
    split at h
    · next e =>
      have hqq := Option.map_eq_some_iff.1 h
      obtain ⟨rs', h1, rfl⟩ := hqq
      have hqq := insO_some h1 ha.2
      obtain ⟨h2, h3⟩ := hqq
      refine ⟨List.pairwise_cons.2 ⟨fun x hx => ?_, h2⟩, (List.Perm.cons q h3).trans (List.Perm.swap p q qs)⟩
      rcases List.mem_cons.1 (h3.mem_iff.1 hx) with rfl | hx
      · exact e
      · exact ha.1 x hx
    · split at h
      · cases h
      · next e1 e2 =>
        cases h
        have hpq := key_lt e1 e2
        refine ⟨List.pairwise_cons.2 ⟨fun x hx => ?_, List.pairwise_cons.2 ha⟩, List.Perm.refl _⟩
        rcases List.mem_cons.1 hx with rfl | hx
        · exact hpq
        · exact List.lt_trans hpq (ha.1 x hx)
theorem insO_none {p : KV} : ∀ {qs : List KV}, insO p qs = none → p.1 ∈ qs.map Prod.fst
  | [], h => by cases h
  | q :: qs, h => by
    unfold insO at h
    split at h
    · exact List.mem_cons_of_mem _ (insO_none (Option.map_eq_none_iff.1 h))
    · split at h
      · next e => rw [List.map_cons, e]; exact List.mem_cons_self
      · cases h
/-- the members, ascending: none where a key comes twice -/
def rObj (ps : List KV) : Option (List KV) := ps.foldl (fun o p => o.bind (insO p)) (some [])
theorem rObj_snoc (ps : List KV) (p : KV) : rObj (ps ++ [p]) = (rObj ps).bind (insO p) := by simp [rObj, List.foldl_append]
theorem snoc_indO {P : List KV → Prop} (h0 : P []) (h : ∀ L n, P L → P (L ++ [n])) (L : List KV) : P L := by
  rw [← L.reverse_reverse]
  induction L.reverse with
  | nil => exact h0
  | cons n l ih => rw [List.reverse_cons]; exact h _ n ih
theorem rObj_some (ps : List KV) : ∀ qs, rObj ps = some qs → Asc qs ∧ qs.Perm ps := by
  refine snoc_indO (P := fun ps => ∀ qs, rObj ps = some qs → Asc qs ∧ qs.Perm ps) (fun qs h => ?_) (fun ps p ih qs h => ?_) ps
  · cases h
    exact ⟨List.Pairwise.nil, List.Perm.refl _⟩
  · rw [rObj_snoc] at h
    have hqq := Option.bind_eq_some_iff.1 h
    obtain ⟨rs, h1, h2⟩ := hqq
    have hqq := ih rs h1
    obtain ⟨h3, h4⟩ := hqq
    have hqq := insO_some h2 h3
    obtain ⟨h5, h6⟩ := hqq
    exact ⟨h5, (h6.trans (List.Perm.cons p h4)).trans (List.perm_append_singleton p ps).symm⟩
theorem rObj_none (ps : List KV) : rObj ps = none → ¬ (ps.map Prod.fst).Nodup := by
  refine snoc_indO (P := fun ps => rObj ps = none → ¬ (ps.map Prod.fst).Nodup) (fun h => by cases h) (fun ps p ih h hn => ?_) ps
  rw [List.map_append, List.nodup_append] at hn
  rw [rObj_snoc] at h
  cases e : rObj ps with
  | none => exact ih e hn.1
  | some qs =>
    rw [e] at h
    have h1 := insO_none (show insO p qs = none from h)
    have h2 : p.1 ∈ ps.map Prod.fst := ((rObj_some ps qs e).2.map Prod.fst).mem_iff.1 h1
    exact hn.2.2 p.1 h2 p.1 (by simp) rfl
theorem Asc.nodup {qs : List KV} (h : Asc qs) : (qs.map Prod.fst).Nodup := by
  unfold List.Nodup
  rw [List.pairwise_map]
  exact h.imp (fun {a b} e e2 => by rw [e2] at e; exact List.lt_irrefl _ e)
/-- what is ascending is the one -/
theorem rObj_of {ps qs : List KV} (h : Asc qs) (hp : qs.Perm ps) : rObj ps = some qs := by
  cases e : rObj ps with
  | none => exact absurd ((hp.map Prod.fst).nodup_iff.1 h.nodup) (rObj_none ps e)
  | some rs =>
    have hqq := rObj_some ps rs e
    obtain ⟨h1, h2⟩ := hqq
    congr 1
    refine List.Perm.eq_of_pairwise (le := fun (a b : KV) => a.1 < b.1) (fun a b _ _ h3 h4 => ?_) h1 h (h2.trans hp.symm)
    exact absurd h4 (List.lt_asymm h3)
theorem rObj_dup {ps : List KV} (h : ¬ (ps.map Prod.fst).Nodup) : rObj ps = none := by
  cases e : rObj ps with
  | none => rfl
  | some rs =>
    have hqq := rObj_some ps rs e
    obtain ⟨h1, h2⟩ := hqq
    exact absurd ((h2.map Prod.fst).nodup_iff.1 h1.nodup) h
/-- a member in memory: its key, its value's cells, its value -/
structure MR where
  key : List UInt8
  c : VC
  v : V
  one : ∀ u ∈ c.c, One u = true
instance : Inhabited MR := ⟨⟨[], ⟨[.int .i64 0, .int .i64 0, .int .i64 0, .int .i64 0, .int .i64 0, .int .i64 0], rfl⟩, V.nil, by decide⟩⟩
def mr (m : MR) : List Value := strv m.key :: m.c.c
def pr (m : MR) : KV := (m.key, m.v)
theorem mr_len (m : MR) : (mr m).length = 7 := by simp [mr, m.c.h]
def ltM (a b : MR) : Bool := slt a.key b.key
theorem swo_ltM : SWO ltM where
  irrefl x := by unfold ltM; rw [slt_lt]; exact swo_ltStr.irrefl _
  trans x y z h1 h2 := by unfold ltM at *; rw [slt_lt] at *; exact swo_ltStr.trans _ _ _ h1 h2
  ntrans x y z h1 h2 := by unfold ltM at *; rw [slt_lt] at *; exact swo_ltStr.ntrans _ _ _ h1 h2
/-- members, sorted by their keys -/
theorem sorted_get {l : List MR} {n : Nat} (hn : n = l.length) (h : SortedIn ltM 0 n l.toArray) : ∀ i j (hi : i < l.length) (hj : j < l.length), i < j → ¬ l[j].key < l[i].key := by
  intro i j hi hj hij hlt
  have h1 := h i j (Nat.zero_le _) hij (by omega)
  rw [getElem!_pos l.toArray j (by simpa using hj), getElem!_pos l.toArray i (by simpa using hi)] at h1
  unfold ltM at h1
  rw [List.getElem_toArray, List.getElem_toArray, slt_iff.2 hlt] at h1
  cases h1
/-- where no two beside one another are alike, no two are -/
theorem asc_of {l : List MR} (h : ∀ i j (hi : i < l.length) (hj : j < l.length), i < j → ¬ l[j].key < l[i].key) (h2 : ∀ i (hi : i + 1 < l.length), l[i + 1].key ≠ l[i].key) : Asc (l.map pr) := by
  have key : ∀ d i (hi : i + (d + 1) < l.length), l[i].key < l[i + (d + 1)].key := by
    intro d
    induction d with
    | zero => intro i hi; exact key_lt (h i (i + 1) (by omega) hi (by omega)) (h2 i hi)
    | succ d ih =>
      intro i hi
      have h3 := ih i (by omega)
      have h4 := key_lt (h (i + (d + 1)) (i + (d + 1) + 1) (by omega) hi (by omega)) (h2 (i + (d + 1)) hi)
      exact List.lt_trans h3 h4
  unfold Asc
  rw [List.pairwise_map, List.pairwise_iff_getElem]
  intro i j hi hj hij
  obtain ⟨d, rfl⟩ : ∃ d, j = i + (d + 1) := ⟨j - i - 1, by omega⟩
  exact key d i hj
theorem regionD {F : Fence} [hF : WideF F] {P : Program} {sz : Nat} {Q : Post} {f : Fr} {ds : List Deferred} {w : World} {id : Nat} {l : List Oper} (T : Nat → Bool) (π : List (Nat × Md)) (hm : P.follows .mixedOrders = true)
    (hB : (Region.noSelect l.toArray && l.toArray.all (dstOk sz) && decide (π.length = l.length) && π.all (fun p => Nat.blt p.1 l.length) && pathB .any l.toArray T π (Array.replicate l.length false)) = true)
    (h : ∀ w', w' = w.drew → w'.heap = w.heap → RL P sz l.toArray (fun x => x = w.drew) T (fun f ds w => Q .normal f ds w) π f ds w') : WC F P sz (.region id l.toArray true) Q f ds w :=
  WC.regionS _ T π hm hB (h _ rfl rfl)
theorem cell_drew {w w' : World} {p : Addr} {v : Value} (h : w.cell? p = some v) (e : w' = w.drew) : w'.cell? p = some v := by subst e; exact h
/-- members in memory: a row -/
theorem mem_mr {w : World} {b o j : Nat} {l : List MR} (h : j < l.length) (hc : Cells w b o (((l.flatMap mr).drop ((j : Int).toNat * 7)).take 7)) : Cells w b o (mr l[j]) := by
  rw [Int.toNat_natCast, flat_at mr_len _ j h] at hc
  exact hc
theorem objless_ret {w : World} {Bs : Nat} {s : Value} {l : List MR} (i j : Nat) (hB : Blk w Bs 22 [s]) (hs : SlK w 7 s l.length (l.flatMap mr)) (hi : i < l.length) (hj : j < l.length) : Ret Tryd.prog 33 [.int .i64 (i : Int), .int .i64 (j : Int), .pointer (some ⟨Bs, 0, none⟩)].toArray w fun v w' => v = .bool (slt l[i].key l[j].key) ∧ w' = w.drew := by
  have hc0 := hB.cell 0
  refine Ret.of (n := 17) (rs := #[.tmp 5]) Tryd.func33 rfl rfl rfl (by simp) ?_
  refine WC.seqR rfl ?_
  refine WL.y rfl (Y.assign) ?_
  refine WL.nil ?_
  refine WC.seq ?_
  refine regionD (fun _ => false) [(0, .held), (1, .any), (2, .any), (3, .any), (4, .held), (5, .held), (6, .any), (7, .any), (8, .any), (9, .held), (10, .any), (11, .any)] mixed (by kernel_rfl) (fun wS hS hheap => ?_)
  refine RL.held rfl rfl hS (fun _ hb9 => Y.load1 Tryd.underlying22 rfl rfl (cell_drew hc0 hb9)) ?_
  refine RL.any rfl rfl (fun _ => Y.move) ?_
  refine RL.yex rfl rfl (Y.idx Tryd.underlying22 ti38 (by decide) (hs) rfl (by omega) (by omega)) ?_
  rintro _ ⟨b8, o8, rfl, hc8⟩
  refine RL.any rfl rfl (fun _ => Y.fieldAddr fi38f0 ti9 (by decide) rfl (rfl) _) ?_
  refine RL.held rfl rfl hS (fun _ hb9 => Y.load1 Tryd.underlying9 rfl rfl (cell_drew (Cells.hd (mem_mr hi hc8)) hb9)) ?_
  refine RL.held rfl rfl hS (fun _ hb9 => Y.load1 Tryd.underlying22 rfl rfl (cell_drew hc0 hb9)) ?_
  refine RL.any rfl rfl (fun _ => Y.move) ?_
  refine RL.yex rfl rfl (Y.idx Tryd.underlying22 ti38 (by decide) (hs) rfl (by omega) (by omega)) ?_
  rintro _ ⟨b13, o13, rfl, hc13⟩
  refine RL.any rfl rfl (fun _ => Y.fieldAddr fi38f0 ti9 (by decide) rfl (rfl) _) ?_
  refine RL.held rfl rfl hS (fun _ hb9 => Y.load1 Tryd.underlying9 rfl rfl (cell_drew (Cells.hd (mem_mr hj hc13)) hb9)) ?_
  refine RL.any rfl rfl (fun _ => Y.ltS rfl rfl) ?_
  refine RL.any rfl rfl (fun _ => Y.assign) ?_
  refine RL.nil (thenQ.normal ?_)
  refine WC.ret (endQ.one (.inr rfl) ?_)
  exact ⟨rfl, hS⟩
end Go.Proofs.YthcppegkpkgnpaaDoor
