/-
  Clients of the table, and of the document's; law20: same: walks.
-/
import Derived.Test.YtlhhognabmnlmaaTab19
import Derived.Test.YtlhhognabmnlmaaTab16
namespace Go.Proofs.Ytlhhognabmnlmaa
open Go Go.RowKit Go.Cx
set_option linter.unusedVariables false
set_option maxHeartbeats 8000000
set_option maxRecDepth 20000
/-- a number set into an ascending row -/
def insU (c : Int) : List Int → List Int
  | [] => [c]
  | k :: ks => if k < c then k :: insU c ks else if k = c then k :: ks else c :: k :: ks
/-- how many of an ascending row lie under -/
def cntU (c : Int) : List Int → Nat
  | [] => 0
  | k :: ks => if k < c then cntU c ks + 1 else 0
theorem cntU_le (c : Int) : ∀ ks, cntU c ks ≤ ks.length
  | [] => Nat.le_refl _
  | k :: ks => by
    unfold cntU
    have := cntU_le c ks
    split <;> simp <;> omega
theorem cntU_lt (c : Int) : ∀ (ks : List Int) (i : Nat) (h : i < ks.length), i < cntU c ks → ks[i] < c
  | [], i, h, _ => by simp at h
  | k :: ks, i, h, h2 => by
    unfold cntU at h2
    split at h2
    · cases i with
      | zero => assumption
      | succ i => exact cntU_lt c ks i (by simpa using h) (by omega)
    · omega
theorem cntU_ge (c : Int) : ∀ (ks : List Int) (h : cntU c ks < ks.length), ¬ ks[cntU c ks] < c
  | [], h => by simp at h
  | k :: ks, h => by
    by_cases e : k < c
    · have e2 : cntU c (k :: ks) = cntU c ks + 1 := by rw [cntU, if_pos e]
      have h3 : cntU c ks < ks.length := by rw [e2] at h; simpa using h
      have := cntU_ge c ks h3
      simp only [e2, List.getElem_cons_succ]
      exact this
    · have e2 : cntU c (k :: ks) = 0 := by rw [cntU, if_neg e]
      simp only [e2, List.getElem_cons_zero]
      exact e
theorem cntU_eq {c : Int} {ks : List Int} {i : Nat} (hi : i ≤ ks.length) (h1 : ∀ j (h : j < ks.length), j < i → ks[j] < c) (h2 : ∀ h : i < ks.length, ¬ ks[i] < c) : i = cntU c ks := by
  have h3 := cntU_le c ks
  rcases Nat.lt_trichotomy i (cntU c ks) with h | h | h
  · exact absurd (cntU_lt c ks i (by omega) h) (h2 (by omega))
  · exact h
  · exact absurd (h1 _ (by omega) h) (cntU_ge c ks (by omega))
theorem insU_has (c : Int) : ∀ (ks : List Int) (h : cntU c ks < ks.length), ks[cntU c ks] = c → insU c ks = ks
  | [], h, _ => by simp at h
  | k :: ks, h, e3 => by
    by_cases e : k < c
    · have e2 : cntU c (k :: ks) = cntU c ks + 1 := by rw [cntU, if_pos e]
      have h3 : cntU c ks < ks.length := by rw [e2] at h; simpa using h
      simp only [e2, List.getElem_cons_succ] at e3
      rw [insU, if_pos e, insU_has c ks h3 e3]
    · have e2 : cntU c (k :: ks) = 0 := by rw [cntU, if_neg e]
      simp only [e2, List.getElem_cons_zero] at e3
      rw [insU, if_neg e, if_pos e3]
theorem insU_new (c : Int) : ∀ (ks : List Int), (∀ h : cntU c ks < ks.length, ks[cntU c ks] ≠ c) → insU c ks = (ks.take (cntU c ks) ++ [c]) ++ ks.drop (cntU c ks)
  | [], _ => rfl
  | k :: ks, h => by
    by_cases e : k < c
    · have e2 : cntU c (k :: ks) = cntU c ks + 1 := by rw [cntU, if_pos e]
      have := insU_new c ks (fun h3 => by
        have h4 := h (by rw [e2]; simpa using h3)
        simp only [e2, List.getElem_cons_succ] at h4
        exact h4)
      rw [insU, if_pos e, this, e2]
      simp
    · have e2 : cntU c (k :: ks) = 0 := by rw [cntU, if_neg e]
      have h4 := h (by rw [e2]; simp)
      simp only [e2, List.getElem_cons_zero] at h4
      rw [insU, if_neg e, if_neg h4, e2]
      simp
theorem insU_mem (c x : Int) : ∀ ks, x ∈ insU c ks ↔ x = c ∨ x ∈ ks
  | [] => by simp [insU]
  | k :: ks => by
    unfold insU
    split
    · rw [List.mem_cons, insU_mem c x ks, List.mem_cons]
      exact ⟨fun h => h.elim (fun h => .inr (.inl h)) (fun h => h.elim .inl (fun h => .inr (.inr h))), fun h => h.elim (fun h => .inr (.inl h)) (fun h => h.elim .inl (fun h => .inr (.inr h)))⟩
    · split
      · next e => exact ⟨fun h => .inr h, fun h => h.elim (fun h => by rw [h, ← e]; simp) id⟩
      · simp
theorem insU_asc (c : Int) : ∀ ks : List Int, ks.Pairwise (fun a b => a < b) → (insU c ks).Pairwise (fun a b => a < b)
  | [], _ => by simp [insU]
  | k :: ks, h => by
    rw [List.pairwise_cons] at h
    unfold insU
    split
    · next e =>
      rw [List.pairwise_cons]
      refine ⟨fun x hx => ?_, insU_asc c ks h.2⟩
      rcases (insU_mem c x ks).1 hx with rfl | hx
      · exact e
      · exact h.1 x hx
    · split
      · exact List.pairwise_cons.2 h
      · next e1 e2 =>
        rw [List.pairwise_cons]
        refine ⟨fun x hx => ?_, List.pairwise_cons.2 h⟩
        rcases List.mem_cons.1 hx with rfl | hx
        · omega
        · have := h.1 x hx
          omega
theorem insU_len (c : Int) : ∀ ks, (insU c ks).length ≤ ks.length + 1
  | [] => Nat.le_refl _
  | k :: ks => by
    unfold insU
    have := insU_len c ks
    split
    · simp; omega
    · split <;> simp
/-- the clients, ascending -/
def cliL (L : List Nt) : List Int := L.foldl (fun ks n => insU n.c ks) []
theorem cliL_snoc (L : List Nt) (n : Nt) : cliL (L ++ [n]) = insU n.c (cliL L) := by simp [cliL, List.foldl_append]
theorem snoc_ind20 {P : List Nt → Prop} (h0 : P []) (h : ∀ L n, P L → P (L ++ [n])) (L : List Nt) : P L := by
  rw [← L.reverse_reverse]
  induction L.reverse with
  | nil => exact h0
  | cons n l ih => rw [List.reverse_cons]; exact h _ n ih
theorem cliL_len (L : List Nt) : (cliL L).length ≤ L.length := by
  refine snoc_ind20 (P := fun L => (cliL L).length ≤ L.length) (Nat.le_refl _) (fun L n ih => ?_) L
  rw [cliL_snoc]
  have := insU_len n.c (cliL L)
  rw [List.length_append]
  simp
  omega
theorem cliL_asc (L : List Nt) : (cliL L).Pairwise (fun a b => a < b) := by
  refine snoc_ind20 (P := fun L => (cliL L).Pairwise (fun a b => a < b)) List.Pairwise.nil (fun L n ih => ?_) L
  rw [cliL_snoc]
  exact insU_asc _ _ ih
theorem cliL_mem (c : Int) (L : List Nt) : c ∈ cliL L ↔ ofC c L ≠ [] := by
  refine snoc_ind20 (P := fun L => c ∈ cliL L ↔ ofC c L ≠ []) (by simp [cliL, ofC]) (fun L n ih => ?_) L
  rw [cliL_snoc, insU_mem, ih, ofC_append]
  by_cases e : n.c = c
  · simp [e]
  · rw [if_neg e, List.append_nil]
    exact ⟨fun h => h.elim (fun h => absurd h.symm e) id, .inr⟩
theorem asc_eq : ∀ {xs ys : List Int}, xs.Pairwise (fun a b => a < b) → ys.Pairwise (fun a b => a < b) → (∀ c, c ∈ xs ↔ c ∈ ys) → xs = ys
  | [], [], _, _, _ => rfl
  | [], y :: ys, _, _, h => by have := (h y).2 (by simp); simp at this
  | x :: xs, [], _, _, h => by have := (h x).1 (by simp); simp at this
  | x :: xs, y :: ys, h1, h2, h => by
    rw [List.pairwise_cons] at h1 h2
    have e : x = y := by
      have hx := (h x).1 (by simp)
      have hy := (h y).2 (by simp)
      rcases List.mem_cons.1 hx with e | hx
      · exact e
      · rcases List.mem_cons.1 hy with e | hy
        · exact e.symm
        · have := h1.1 y hy
          have := h2.1 x hx
          omega
    subst e
    rw [asc_eq h1.2 h2.2 (fun c => ⟨fun hc => ?_, fun hc => ?_⟩)]
    · have := h1.1 c hc
      rcases List.mem_cons.1 ((h c).1 (List.mem_cons_of_mem _ hc)) with e | hc
      · omega
      · exact hc
    · have := h2.1 c hc
      rcases List.mem_cons.1 ((h c).2 (List.mem_cons_of_mem _ hc)) with e | hc
      · omega
      · exact hc
theorem mget_mem20 (c : Int) : ∀ m : List (Int × Value), (∃ u, mget c m = some u) ↔ c ∈ m.map Prod.fst
  | [] => by simp [mget]
  | p :: m => by
    unfold mget
    by_cases e : c = p.1
    · simp [e]
    · rw [if_neg e, mget_mem20 c m, List.map_cons, List.mem_cons]
      exact ⟨.inr, fun h => h.elim (fun h => absurd h e) id⟩
theorem kus_one (xs : List Int) : ∀ u ∈ xs.map ku, One u = true := by
  intro u hu
  have hqq := List.mem_map.1 hu
  obtain ⟨x, _, rfl⟩ := hqq
  rfl
/-- a row of these numbers handed over -/
def CliR (ks : List Int) (w : World) (v : Value) (w' : World) : Prop := SlK w' 1 v ks.length (ks.map ku) ∧ Below w.heap.size w w'
theorem clients_ret {w : World} {M : Nat → Prop} {b : Nat} {L : List Nt} {fl : Int} (h : TabW w M b L fl) (hL : L.length ≤ 50000) : Ret Try.prog 15 [.pointer (some ⟨b, 0, none⟩)].toArray w (CliR (cliL L) w) := by
  obtain ⟨mb, m, ov, hT⟩ := h
  have hN := hT.notes
  have hmem : ∀ c, c ∈ m.map Prod.fst ↔ c ∈ cliL L := by
    intro c
    rw [cliL_mem, ← mget_mem20]
    constructor
    · rintro ⟨u, hu⟩
      exact (hN.has c u hu).1
    · intro h
      cases e : mget c m with
      | some u => exact ⟨u, rfl⟩
      | none => exact absurd (hN.no c e) h
  have hml : m.length ≤ 50000 := by
    have h1 : (m.map Prod.fst).length ≤ (cliL L).length := by
      refine List.Nodup.length_le_of_subset hN.nd ?_
      intro c hc
      exact (hmem c).1 hc
    rw [List.length_map] at h1
    have := cliL_len L
    omega
  cases mb with
  | none =>
    have hm0 : m = [] := hN.map
    subst hm0
    have e : cliL L = [] := List.eq_nil_iff_forall_not_mem.2 (fun c hc => by have := (hmem c).2 hc; simp at this)
    rw [e]
    refine (clients_zero w b _ _ _ hT.blk).mono fun v w' ⟨h1, h2⟩ => ⟨?_, h2⟩
    rw [h1]
    exact SlK.nil
  | some mb =>
    have hmN : MapN ku w mb m := hN.map.2
    refine Ret.of (n := 11) (rs := #[.tmp 2]) Try.func15 rfl rfl rfl (by simp) ?_
    refine WC.seqR rfl ?_
    refine WL.y rfl (Y.assign) ?_
    refine WL.nil ?_
    refine WC.seq ?_
    refine WC.seqR rfl ?_
    refine WL.y rfl (Y.move) ?_
    refine WL.y rfl (Y.eqpn Try.underlying23 rfl rfl) ?_
    refine WL.nil ?_
    refine WC.condF (rfl) ?_
    refine WC.skip (thenQ.normal ?_)
    refine WC.seqR rfl ?_
    refine WL.y rfl (Y.move) ?_
    refine WL.y rfl (Y.nilCheck rfl) ?_
    refine WL.y rfl (Y.fieldAddr fi27f0 ti24 (by decide) rfl (rfl) _) ?_
    refine WL.y rfl (Y.load1 Try.underlying24 rfl rfl (hT.blk.cell 0)) ?_
    refine WL.call rfl (C.func go30) (keys_ret w (some mb)) ?_
    rintro _ w9 ⟨rfl, hB9, hb9x⟩
    refine WL.call rfl (C.func go29) (sorted_ret w.heap.size mb m w9 hB9 (hmN.bel hb9x) hml hN.nd) ?_
    rintro v10 w10 ⟨ks, h1, h2, h3, hb10⟩
    refine WL.y rfl (Y.assign) ?_
    refine WL.nil ?_
    refine WC.ret (endQ.one (.inr rfl) ?_)
    have e : ks = cliL L := asc_eq h1 (cliL_asc L) (fun c => (h2 c).trans (hmem c))
    subst e
    exact ⟨h3, Below.step hb9x hb10⟩
theorem same_ret {w : World} {v1 v2 : Value} (ks : List Int) (h1 : SlK w 1 v1 ks.length (ks.map ku)) (h2 : SlK w 1 v2 ks.length (ks.map ku)) (hl : ks.length ≤ 50000) : Ret Try.prog 21 [v1, v2].toArray w fun v w' => v = .bool true ∧ Below w.heap.size w w' := by
  refine Ret.of (n := 26) (rs := #[.tmp 4]) Try.func21 rfl rfl rfl (by simp) ?_
  refine WC.seqR rfl ?_
  refine WL.y rfl (Y.assign) ?_
  refine WL.nil ?_
  refine WC.seq ?_
  refine WC.seqR rfl ?_
  refine WL.y rfl (Y.move) ?_
  refine WL.y rfl (Y.lenSl Try.underlying37 (h1) _) ?_
  refine WL.y rfl (Y.move) ?_
  refine WL.y rfl (Y.lenSl Try.underlying37 (h2) _) ?_
  refine WL.y rfl (Y.dF (Y.nei rfl rfl) (by omega)) ?_
  refine WL.nil ?_
  refine WC.condF (rfl) ?_
  refine WC.skip (thenQ.normal ?_)
  refine WC.seq ?_
  refine WC.seqR rfl ?_
  refine WL.y rfl (Y.assign) ?_
  refine WL.nil ?_
  refine WC.block ?_
  refine WC.loop (fun j => ks.length - j) (fun j f ds w' => j ≤ ks.length ∧ ds = [] ∧ Below w.heap.size w w' ∧ ∃ J, f = Go.Cx.ov J [(0, v1), (1, v2), (5, .int .i64 (j : Int))]) 0 ?_ ?_
  · exact ⟨Nat.zero_le _, rfl, Below.refl _ _, _, ov_mk ⟨rfl, rfl, rfl, trivial⟩⟩
  · rintro j _ _ wL ⟨hj, rfl, kL, J, rfl⟩
    have hL1 := h1.bel kL
    have hL2 := h2.bel kL
    refine WC.seq ?_
    refine WC.seqR rfl ?_
    refine WL.y rfl (Y.move) ?_
    refine WL.y rfl (Y.move) ?_
    refine WL.y rfl (Y.lenSl Try.underlying37 (hL1) _) ?_
    refine WL.y rfl (Y.lss rfl rfl) ?_
    refine WL.nil ?_
    refine WC.condD rfl (fun h0 => ?_) (fun h0 => ?_)
    · have hjl : j < ks.length := by omega
      have hg : (ks.map ku)[j]? = some (ku ks[j]) := by rw [List.getElem?_map, List.getElem?_eq_getElem hjl]; rfl
      refine WC.skip (thenQ.normal ?_)
      refine WC.seq ?_
      refine WC.block ?_
      refine WC.seq ?_
      refine WC.regionB (fun _ => false) [(0, .any), (1, .any), (2, .any), (3, .held), (4, .any), (5, .any), (6, .any), (7, .held), (8, .any)] mixed (by kernel_rfl) (fun wS hS hheap => ?_)
      refine RL.any rfl rfl (fun _ => Y.move) ?_
      refine RL.any rfl rfl (fun _ => Y.move) ?_
      refine RL.yex rfl rfl (Y.idx Try.underlying37 ti22 (by decide) (hL1) rfl (by omega) (by omega)) ?_
      rintro _ ⟨b19, o19, rfl, hc19⟩
      refine RL.held rfl rfl hS (fun _ hb9 => Y.load1 Try.underlying22 rfl rfl (cell_bel (elemI (by omega) hg hc19) hb9)) ?_
      refine RL.any rfl rfl (fun _ => Y.move) ?_
      refine RL.any rfl rfl (fun _ => Y.move) ?_
      refine RL.yex rfl rfl (Y.idx Try.underlying37 ti22 (by decide) (hL2) rfl (by omega) (by omega)) ?_
      rintro _ ⟨b23, o23, rfl, hc23⟩
      refine RL.held rfl rfl hS (fun _ hb9 => Y.load1 Try.underlying22 rfl rfl (cell_bel (elemI (by omega) hg hc23) hb9)) ?_
      refine RL.any rfl rfl (fun _ => Y.dF (Y.nei rfl rfl) (by simp)) ?_
      refine RL.nil (thenQ.normal ?_)
      refine WC.condF (rfl) ?_
      refine WC.skip (inBlockQ.normal (thenQ.normal ?_))
      refine WC.region rfl ?_
      refine WL.y rfl (Y.move) ?_
      refine WL.y rfl (Y.add64 rfl rfl (by omega)) ?_
      refine WL.y rfl (Y.assign) ?_
      refine WL.nil (thenQ.normal ?_)
      exact ⟨j + 1, by omega, by omega, rfl, Below.step kL hS, _, ov_mk ⟨rfl, rfl, rfl, trivial⟩⟩
    · refine WC.exit (thenQ.exit (thenQ.exit (inBlockQ.hit (thenQ.normal ?_))))
      refine WC.seqR rfl ?_
      refine WL.y rfl (Y.assign) ?_
      refine WL.nil ?_
      refine WC.ret (endQ.one (.inr rfl) ?_)
      exact ⟨rfl, kL⟩
theorem rclients_ret {w : World} {N : Nat → Prop} {bw : Nat} {L : List Nt} {fl : Int} (h : RefW w N bw L fl) (hL : L.length ≤ 50000) : Ret Try.prog 22 [.pointer (some ⟨bw, 0, none⟩)].toArray w (CliR (cliL L) w) := by
  obtain ⟨hN, rv, hB, hA⟩ := h
  have hs := hA.sl
  have hmx : maxLen = 9223372036854775807 := rfl
  refine Ret.of (n := 77) (rs := #[.tmp 2]) Try.func22 rfl rfl rfl (by simp) ?_
  refine WC.seqR rfl ?_
  refine WL.y rfl (Y.assign) ?_
  refine WL.nil ?_
  refine WC.seqR rfl ?_
  refine WL.y rfl (Y.assign) ?_
  refine WL.nil ?_
  refine WC.seq ?_
  refine WC.seqR rfl ?_
  refine WL.y rfl (Y.assign) ?_
  refine WL.nil ?_
  refine WC.block ?_
  refine WC.loop (fun j => L.length - j) (fun j f ds w' => j ≤ L.length ∧ ds = [] ∧ Below w.heap.size w w' ∧ ∃ v J, SlK w' 1 v (cliL (L.take j)).length ((cliL (L.take j)).map ku) ∧ f = Go.Cx.ov J [(0, .pointer (some ⟨bw, 0, none⟩)), (3, v), (4, .int .i64 (j : Int))]) 0 ?_ ?_
  · exact ⟨Nat.zero_le _, rfl, Below.refl _ _, _, _, SlK.nil, ov_mk ⟨rfl, rfl, rfl, trivial⟩⟩
  · rintro j _ _ wL ⟨hj, rfl, kL, v, J, hv, rfl⟩
    have hBL := hB.bel kL
    have hsL := hs.bel kL
    refine WC.seq ?_
    refine WC.seqR rfl ?_
    refine WL.y rfl (Y.move) ?_
    refine WL.y rfl (Y.move) ?_
    refine WL.y rfl (Y.nilCheck rfl) ?_
    refine WL.y rfl (Y.fieldAddr fi47f0 ti45 (by decide) rfl (rfl) _) ?_
    refine WL.y rfl (Y.load1 Try.underlying45 rfl rfl (hBL.cell 0)) ?_
    refine WL.y rfl (Y.lenSl Try.underlying45 (hsL) _) ?_
    refine WL.y rfl (Y.lss rfl rfl) ?_
    refine WL.nil ?_
    refine WC.condD rfl (fun h0 => ?_) (fun h0 => ?_)
    · have hjl : j < L.length := by omega
      have hcl := cliL_len (L.take j)
      rw [List.length_take] at hcl
      have hsn : cliL (L.take (j + 1)) = insU L[j].c (cliL (L.take j)) := by rw [List.take_succ_eq_append_getElem hjl, cliL_snoc]
      obtain ⟨ks, hks⟩ : ∃ x, cliL (L.take j) = x := ⟨_, rfl⟩
      rw [hks] at hv hcl hsn
      obtain ⟨c, hc⟩ : ∃ x, L[j].c = x := ⟨_, rfl⟩
      rw [hc] at hsn
      have hce : ∀ {w' : World} {b o : Nat}, Cells w' b o (((L.flatMap nt3).drop ((j : Int).toNat * 3)).take 3) → w'.cell? ⟨b, o, none⟩ = some (.int .u64 c) := fun hcc => hc ▸ cells_hd (elem_nt hjl hcc)
      refine WC.skip (thenQ.normal ?_)
      refine WC.seq ?_
      refine WC.block ?_
      refine WC.seqR rfl ?_
      refine WL.y rfl (Y.assign) ?_
      refine WL.nil ?_
      refine WC.seq ?_
      refine WC.cut (fun f ds w' => ds = [] ∧ Below wL.heap.size wL w' ∧ ∃ J, f = Go.Cx.ov J [(0, .pointer (some ⟨bw, 0, none⟩)), (3, v), (4, .int .i64 (j : Int)), (5, .int .i64 (cntU c ks : Int))]) ?_ ?_
      · refine WC.block ?_
        refine WC.loop (fun i => ks.length - i) (fun i f ds w' => i ≤ ks.length ∧ (∀ x (h : x < ks.length), x < i → ks[x] < c) ∧ ds = [] ∧ Below wL.heap.size wL w' ∧ ∃ J, f = Go.Cx.ov J [(0, .pointer (some ⟨bw, 0, none⟩)), (3, v), (4, .int .i64 (j : Int)), (5, .int .i64 (i : Int))]) 0 ?_ ?_
        · exact ⟨Nat.zero_le _, fun x h h2 => absurd h2 (Nat.not_lt_zero _), rfl, Below.refl _ _, _, ov_mk ⟨rfl, rfl, rfl, rfl, trivial⟩⟩
        · rintro i _ _ wI ⟨hi, hlt, rfl, kI, J, rfl⟩
          have hvI := hv.bel kI
          have hBI := hBL.bel kI
          have hsI := hsL.bel kI
          refine WC.seq ?_
          by_cases c1 : i < ks.length
          · have hg : (ks.map ku)[i]? = some (ku ks[i]) := by rw [List.getElem?_map, List.getElem?_eq_getElem c1]; rfl
            by_cases c2 : ks[i] < c
            · refine WC.seq ?_
              refine WC.regionB (fun _ => false) [(0, .any), (1, .any), (2, .any), (3, .any), (4, .any), (5, .any), (6, .any), (7, .any), (8, .held), (9, .any), (10, .any), (11, .any), (12, .held), (13, .any), (14, .any), (15, .any), (16, .held), (17, .any), (18, .any)] mixed (by kernel_rfl) (fun wS hS hheap => ?_)
              refine RL.any rfl rfl (fun _ => Y.move) ?_
              refine RL.any rfl rfl (fun _ => Y.move) ?_
              refine RL.any rfl rfl (fun _ => Y.lenSl Try.underlying37 (hvI) _) ?_
              refine RL.any rfl rfl (fun _ => Y.dT (Y.lss rfl rfl) (by omega)) ?_
              refine RL.any rfl rfl (fun _ => Y.move) ?_
              refine RL.any rfl rfl (fun _ => Y.move) ?_
              refine RL.any rfl rfl (fun _ => Y.move) ?_
              refine RL.yex rfl rfl (Y.idx Try.underlying37 ti22 (by decide) (hvI) rfl (by omega) (by omega)) ?_
              rintro _ ⟨b23, o23, rfl, hc23⟩
              refine RL.held rfl rfl hS (fun _ hb9 => Y.load1 Try.underlying22 rfl rfl (cell_bel (elemI (by omega) hg hc23) hb9)) ?_
              refine RL.any rfl rfl (fun _ => Y.move) ?_
              refine RL.any rfl rfl (fun _ => Y.nilCheck rfl) ?_
              refine RL.any rfl rfl (fun _ => Y.fieldAddr fi47f0 ti45 (by decide) rfl (rfl) _) ?_
              refine RL.held rfl rfl hS (fun _ hb9 => Y.load1 Try.underlying45 rfl rfl (cell_bel (hBI.cell 0) hb9)) ?_
              refine RL.any rfl rfl (fun _ => Y.move) ?_
              refine RL.yex rfl rfl (Y.idx Try.underlying45 ti43 (by decide) (hsI) rfl (by omega) (by omega)) ?_
              rintro _ ⟨b30, o30, rfl, hc30⟩
              refine RL.any rfl rfl (fun _ => Y.fieldAddr fi43f0 ti22 (by decide) rfl (rfl) _) ?_
              refine RL.held rfl rfl hS (fun _ hb9 => Y.load1 Try.underlying22 rfl rfl (cell_bel (hce hc30) hb9)) ?_
              refine RL.any rfl rfl (fun _ => Y.dT (Y.lss rfl rfl) (c2)) ?_
              refine RL.any rfl rfl (fun _ => Y.pickT rfl) ?_
              refine RL.nil (thenQ.normal ?_)
              refine WC.condT (rfl) ?_
              refine WC.skip (thenQ.normal ?_)
              refine WC.block ?_
              refine WC.region rfl ?_
              refine WL.y rfl (Y.move) ?_
              refine WL.y rfl (Y.add64 rfl rfl (by omega)) ?_
              refine WL.y rfl (Y.assign) ?_
              refine WL.nil (inBlockQ.normal (thenQ.normal ?_))
              refine ⟨i + 1, by omega, by omega, fun x h h2 => ?_, rfl, Below.step kI hS, _, ov_mk ⟨rfl, rfl, rfl, rfl, trivial⟩⟩
              rcases Nat.lt_succ_iff_lt_or_eq.1 h2 with h3 | rfl
              · exact hlt x h h3
              · exact c2
            · have e : i = cntU c ks := cntU_eq hi hlt (fun _ => c2)
              refine WC.seq ?_
              refine WC.regionB (fun _ => false) [(0, .any), (1, .any), (2, .any), (3, .any), (4, .any), (5, .any), (6, .any), (7, .any), (8, .held), (9, .any), (10, .any), (11, .any), (12, .held), (13, .any), (14, .any), (15, .any), (16, .held), (17, .any), (18, .any)] mixed (by kernel_rfl) (fun wS hS hheap => ?_)
              refine RL.any rfl rfl (fun _ => Y.move) ?_
              refine RL.any rfl rfl (fun _ => Y.move) ?_
              refine RL.any rfl rfl (fun _ => Y.lenSl Try.underlying37 (hvI) _) ?_
              refine RL.any rfl rfl (fun _ => Y.dT (Y.lss rfl rfl) (by omega)) ?_
              refine RL.any rfl rfl (fun _ => Y.move) ?_
              refine RL.any rfl rfl (fun _ => Y.move) ?_
              refine RL.any rfl rfl (fun _ => Y.move) ?_
              refine RL.yex rfl rfl (Y.idx Try.underlying37 ti22 (by decide) (hvI) rfl (by omega) (by omega)) ?_
              rintro _ ⟨b23, o23, rfl, hc23⟩
              refine RL.held rfl rfl hS (fun _ hb9 => Y.load1 Try.underlying22 rfl rfl (cell_bel (elemI (by omega) hg hc23) hb9)) ?_
              refine RL.any rfl rfl (fun _ => Y.move) ?_
              refine RL.any rfl rfl (fun _ => Y.nilCheck rfl) ?_
              refine RL.any rfl rfl (fun _ => Y.fieldAddr fi47f0 ti45 (by decide) rfl (rfl) _) ?_
              refine RL.held rfl rfl hS (fun _ hb9 => Y.load1 Try.underlying45 rfl rfl (cell_bel (hBI.cell 0) hb9)) ?_
              refine RL.any rfl rfl (fun _ => Y.move) ?_
              refine RL.yex rfl rfl (Y.idx Try.underlying45 ti43 (by decide) (hsI) rfl (by omega) (by omega)) ?_
              rintro _ ⟨b30, o30, rfl, hc30⟩
              refine RL.any rfl rfl (fun _ => Y.fieldAddr fi43f0 ti22 (by decide) rfl (rfl) _) ?_
              refine RL.held rfl rfl hS (fun _ hb9 => Y.load1 Try.underlying22 rfl rfl (cell_bel (hce hc30) hb9)) ?_
              refine RL.any rfl rfl (fun _ => Y.dF (Y.lss rfl rfl) (c2)) ?_
              refine RL.any rfl rfl (fun _ => Y.pickT rfl) ?_
              refine RL.nil (thenQ.normal ?_)
              refine WC.condF (rfl) ?_
              refine WC.exit (thenQ.exit (thenQ.exit (inBlockQ.hit (thenQ.normal ?_))))
              exact ⟨rfl, Below.step kI hS, _, ov_mk ⟨rfl, rfl, rfl, congrArg (fun q : Nat => Value.int .i64 (q : Int)) e, trivial⟩⟩
          · have e : i = cntU c ks := cntU_eq hi hlt (fun h => absurd h c1)
            skip
            refine WC.seq ?_
            refine WC.regionB (fun _ => false) [(0, .any), (1, .any), (2, .any), (3, .any), (4, .any), (5, .any), (6, .any), (7, .any), (8, .held), (9, .any), (10, .any), (11, .any), (12, .held), (13, .any), (14, .any), (15, .any), (16, .held), (17, .any), (18, .any)] mixed (by kernel_rfl) (fun wS hS hheap => ?_)
            refine RL.any rfl rfl (fun _ => Y.move) ?_
            refine RL.any rfl rfl (fun _ => Y.move) ?_
            refine RL.any rfl rfl (fun _ => Y.lenSl Try.underlying37 (hvI) _) ?_
            refine RL.any rfl rfl (fun _ => Y.dF (Y.lss rfl rfl) (by omega)) ?_
            refine RL.any rfl rfl (fun _ => Y.move) ?_
            refine RL.off rfl rfl ?_
            refine RL.off rfl rfl ?_
            refine RL.off rfl rfl ?_
            refine RL.offH rfl rfl hS ?_
            refine RL.off rfl rfl ?_
            refine RL.off rfl rfl ?_
            refine RL.off rfl rfl ?_
            refine RL.offH rfl rfl hS ?_
            refine RL.off rfl rfl ?_
            refine RL.off rfl rfl ?_
            refine RL.off rfl rfl ?_
            refine RL.offH rfl rfl hS ?_
            refine RL.off rfl rfl ?_
            refine RL.any rfl rfl (fun _ => Y.pickF rfl) ?_
            refine RL.nil (thenQ.normal ?_)
            refine WC.condF (rfl) ?_
            refine WC.exit (thenQ.exit (thenQ.exit (inBlockQ.hit (thenQ.normal ?_))))
            exact ⟨rfl, Below.step kI hS, _, ov_mk ⟨rfl, rfl, rfl, congrArg (fun q : Nat => Value.int .i64 (q : Int)) e, trivial⟩⟩
      · rintro _ _ wC ⟨rfl, kC, J2, rfl⟩
        have hvC := hv.bel kC
        have hBC := hBL.bel kC
        have hsC := hsL.bel kC
        have hcu := cntU_le c ks
        refine WC.seq ?_
        refine WC.seq ?_
        refine WC.cut (fun f ds w' => ds = [] ∧ Below wC.heap.size wC w' ∧ ∃ (bb : Bool) (J : Fr), (bb = true → insU c ks = ks) ∧ (bb = false → insU c ks = (ks.take (cntU c ks) ++ [c]) ++ ks.drop (cntU c ks)) ∧ f = Go.Cx.ov J [(0, .pointer (some ⟨bw, 0, none⟩)), (3, v), (4, .int .i64 (j : Int)), (5, .int .i64 (cntU c ks : Int)), (55, .bool bb)]) ?_ ?_
        · skip
          by_cases c1 : cntU c ks < ks.length
          · have hg : (ks.map ku)[cntU c ks]? = some (ku ks[cntU c ks]) := by rw [List.getElem?_map, List.getElem?_eq_getElem c1]; rfl
            by_cases c2 : ks[cntU c ks] = c
            · refine WC.regionB (fun _ => false) [(0, .any), (1, .any), (2, .any), (3, .any), (4, .any), (5, .any), (6, .any), (7, .any), (8, .held), (9, .any), (10, .any), (11, .any), (12, .held), (13, .any), (14, .any), (15, .any), (16, .held), (17, .any), (18, .any)] mixed (by kernel_rfl) (fun wS hS hheap => ?_)
              refine RL.any rfl rfl (fun _ => Y.move) ?_
              refine RL.any rfl rfl (fun _ => Y.move) ?_
              refine RL.any rfl rfl (fun _ => Y.lenSl Try.underlying37 (hvC) _) ?_
              refine RL.any rfl rfl (fun _ => Y.dT (Y.lss rfl rfl) (by omega)) ?_
              refine RL.any rfl rfl (fun _ => Y.move) ?_
              refine RL.any rfl rfl (fun _ => Y.move) ?_
              refine RL.any rfl rfl (fun _ => Y.move) ?_
              refine RL.yex rfl rfl (Y.idx Try.underlying37 ti22 (by decide) (hvC) rfl (by omega) (by omega)) ?_
              rintro _ ⟨b44, o44, rfl, hc44⟩
              refine RL.held rfl rfl hS (fun _ hb9 => Y.load1 Try.underlying22 rfl rfl (cell_bel (elemI (by omega) hg hc44) hb9)) ?_
              refine RL.any rfl rfl (fun _ => Y.move) ?_
              refine RL.any rfl rfl (fun _ => Y.nilCheck rfl) ?_
              refine RL.any rfl rfl (fun _ => Y.fieldAddr fi47f0 ti45 (by decide) rfl (rfl) _) ?_
              refine RL.held rfl rfl hS (fun _ hb9 => Y.load1 Try.underlying45 rfl rfl (cell_bel (hBC.cell 0) hb9)) ?_
              refine RL.any rfl rfl (fun _ => Y.move) ?_
              refine RL.yex rfl rfl (Y.idx Try.underlying45 ti43 (by decide) (hsC) rfl (by omega) (by omega)) ?_
              rintro _ ⟨b51, o51, rfl, hc51⟩
              refine RL.any rfl rfl (fun _ => Y.fieldAddr fi43f0 ti22 (by decide) rfl (rfl) _) ?_
              refine RL.held rfl rfl hS (fun _ hb9 => Y.load1 Try.underlying22 rfl rfl (cell_bel (hce hc51) hb9)) ?_
              refine RL.any rfl rfl (fun _ => Y.dT (Y.eqi rfl rfl) (c2)) ?_
              refine RL.any rfl rfl (fun _ => Y.pickT rfl) ?_
              refine RL.nil (thenQ.normal ?_)
              exact ⟨rfl, hS, true, _, fun _ => insU_has c ks c1 c2, fun e => (by cases e), ov_mk ⟨rfl, rfl, rfl, rfl, rfl, trivial⟩⟩
            · refine WC.regionB (fun _ => false) [(0, .any), (1, .any), (2, .any), (3, .any), (4, .any), (5, .any), (6, .any), (7, .any), (8, .held), (9, .any), (10, .any), (11, .any), (12, .held), (13, .any), (14, .any), (15, .any), (16, .held), (17, .any), (18, .any)] mixed (by kernel_rfl) (fun wS hS hheap => ?_)
              refine RL.any rfl rfl (fun _ => Y.move) ?_
              refine RL.any rfl rfl (fun _ => Y.move) ?_
              refine RL.any rfl rfl (fun _ => Y.lenSl Try.underlying37 (hvC) _) ?_
              refine RL.any rfl rfl (fun _ => Y.dT (Y.lss rfl rfl) (by omega)) ?_
              refine RL.any rfl rfl (fun _ => Y.move) ?_
              refine RL.any rfl rfl (fun _ => Y.move) ?_
              refine RL.any rfl rfl (fun _ => Y.move) ?_
              refine RL.yex rfl rfl (Y.idx Try.underlying37 ti22 (by decide) (hvC) rfl (by omega) (by omega)) ?_
              rintro _ ⟨b44, o44, rfl, hc44⟩
              refine RL.held rfl rfl hS (fun _ hb9 => Y.load1 Try.underlying22 rfl rfl (cell_bel (elemI (by omega) hg hc44) hb9)) ?_
              refine RL.any rfl rfl (fun _ => Y.move) ?_
              refine RL.any rfl rfl (fun _ => Y.nilCheck rfl) ?_
              refine RL.any rfl rfl (fun _ => Y.fieldAddr fi47f0 ti45 (by decide) rfl (rfl) _) ?_
              refine RL.held rfl rfl hS (fun _ hb9 => Y.load1 Try.underlying45 rfl rfl (cell_bel (hBC.cell 0) hb9)) ?_
              refine RL.any rfl rfl (fun _ => Y.move) ?_
              refine RL.yex rfl rfl (Y.idx Try.underlying45 ti43 (by decide) (hsC) rfl (by omega) (by omega)) ?_
              rintro _ ⟨b51, o51, rfl, hc51⟩
              refine RL.any rfl rfl (fun _ => Y.fieldAddr fi43f0 ti22 (by decide) rfl (rfl) _) ?_
              refine RL.held rfl rfl hS (fun _ hb9 => Y.load1 Try.underlying22 rfl rfl (cell_bel (hce hc51) hb9)) ?_
              refine RL.any rfl rfl (fun _ => Y.dF (Y.eqi rfl rfl) (c2)) ?_
              refine RL.any rfl rfl (fun _ => Y.pickT rfl) ?_
              refine RL.nil (thenQ.normal ?_)
              exact ⟨rfl, hS, false, _, fun e => (by cases e), fun _ => insU_new c ks (fun _ => c2), ov_mk ⟨rfl, rfl, rfl, rfl, rfl, trivial⟩⟩
          · skip
            skip
            refine WC.regionB (fun _ => false) [(0, .any), (1, .any), (2, .any), (3, .any), (4, .any), (5, .any), (6, .any), (7, .any), (8, .held), (9, .any), (10, .any), (11, .any), (12, .held), (13, .any), (14, .any), (15, .any), (16, .held), (17, .any), (18, .any)] mixed (by kernel_rfl) (fun wS hS hheap => ?_)
            refine RL.any rfl rfl (fun _ => Y.move) ?_
            refine RL.any rfl rfl (fun _ => Y.move) ?_
            refine RL.any rfl rfl (fun _ => Y.lenSl Try.underlying37 (hvC) _) ?_
            refine RL.any rfl rfl (fun _ => Y.dF (Y.lss rfl rfl) (by omega)) ?_
            refine RL.any rfl rfl (fun _ => Y.move) ?_
            refine RL.off rfl rfl ?_
            refine RL.off rfl rfl ?_
            refine RL.off rfl rfl ?_
            refine RL.offH rfl rfl hS ?_
            refine RL.off rfl rfl ?_
            refine RL.off rfl rfl ?_
            refine RL.off rfl rfl ?_
            refine RL.offH rfl rfl hS ?_
            refine RL.off rfl rfl ?_
            refine RL.off rfl rfl ?_
            refine RL.off rfl rfl ?_
            refine RL.offH rfl rfl hS ?_
            refine RL.off rfl rfl ?_
            refine RL.any rfl rfl (fun _ => Y.pickF rfl) ?_
            refine RL.nil (thenQ.normal ?_)
            exact ⟨rfl, hS, false, _, fun e => (by cases e), fun _ => insU_new c ks (fun h => absurd h c1), ov_mk ⟨rfl, rfl, rfl, rfl, rfl, trivial⟩⟩
        · rintro _ _ wD ⟨rfl, kD, bb, J3, hT, hF, rfl⟩
          have hvD := hvC.bel kD
          have hBD := hBC.bel kD
          have hsD := hsC.bel kD
          refine WC.cond rfl (fun h3 => ?_) (fun h3 => ?_)
          · rw [hT h3] at hsn
            refine WC.exit (thenQ.exit (inBlockQ.hit (thenQ.normal ?_)))
            refine WC.region rfl ?_
            refine WL.y rfl (Y.move) ?_
            refine WL.y rfl (Y.add64 rfl rfl (by omega)) ?_
            refine WL.y rfl (Y.assign) ?_
            refine WL.nil (thenQ.normal ?_)
            exact ⟨j + 1, by omega, by omega, rfl, Below.step (Below.step kL kC) kD, v, _, by rw [hsn]; exact hvD, ov_mk ⟨rfl, rfl, rfl, trivial⟩⟩
          · rw [hF h3] at hsn
            have ht1 : (ks.take (cntU c ks)).length = cntU c ks := by rw [List.length_take]; omega
            have ht2 : (ks.drop (cntU c ks)).length = ks.length - cntU c ks := List.length_drop
            refine WC.skip (thenQ.normal ?_)
            refine WC.seqR rfl ?_
            refine WL.y rfl (Y.move) ?_
            refine WL.y rfl (Y.move) ?_
            refine WL.yex rfl (Y.sliceTo (cntU c ks) Try.underlying37 ti22 (hvD) rfl (by omega) (by omega)) ?_
            rintro v58 hs58
            refine WL.eex rfl (E.appendK (bl := wD.heap.size) Try.underlying37 Try.underlying37 ti22 rfl (by decide) OwnK.nil hs58 (kus_one _) (by omega) (by omega)) ?_
            rintro v59 w59 ⟨⟨b59, ho59, hb59⟩, hg59⟩
            have hg59' : wD.grownBy w59 none := hg59
            have k59 : Below wD.heap.size wD w59 := below_of_grown hg59' (Nat.le_refl _) (fun k e => by cases e)
            have g59 : wD.heap.size ≤ b59 := by omega
            refine WL.y rfl (Y.assign) ?_
            refine WL.nil ?_
            refine WC.seqR rfl ?_
            refine WL.y rfl (Y.move) ?_
            refine WL.y rfl (Y.move) ?_
            refine WL.y rfl (Y.nilCheck rfl) ?_
            refine WL.y rfl (Y.fieldAddr fi47f0 ti45 (by decide) rfl (rfl) _) ?_
            refine WL.y rfl (Y.load1 Try.underlying45 rfl rfl ((hBD.bel k59).cell 0)) ?_
            refine WL.y rfl (Y.move) ?_
            refine WL.yex rfl (Y.idx Try.underlying45 ti43 (by decide) (hsD.bel k59) rfl (by omega) (by omega)) ?_
            rintro _ ⟨b66, o66, rfl, hc66⟩
            refine WL.y rfl (Y.fieldAddr fi43f0 ti22 (by decide) rfl (rfl) _) ?_
            refine WL.y rfl (Y.load1 Try.underlying22 rfl rfl (hce hc66)) ?_
            refine WL.eex rfl (E.build1 Try.underlying37 ti22 rfl rfl rfl) ?_
            rintro v69 w69 ⟨hs69, hb69, _⟩
            refine WL.eex rfl (E.appendK (news := [ku c]) Try.underlying37 Try.underlying37 ti22 rfl (by decide) (ho59.bel hb69) hs69 (one_ku c) (by omega) (by omega)) ?_
            rintro v70 w70 ⟨⟨b70, ho70, hb70⟩, hg70⟩
            have hg70' : w69.grownBy w70 v59.ownBlock := hg70
            have k69 := Below.step k59 hb69
            have k70 : Below wD.heap.size wD w70 := k69.trans (below_of_grown hg70' k69.size (fun k e => by rcases ho59.own with h | h <;> rw [h] at e <;> cases e; omega))
            have g70 : wD.heap.size ≤ b70 := by have := k69.size; omega
            refine WL.y rfl (Y.assign) ?_
            refine WL.nil ?_
            refine WC.region rfl ?_
            refine WL.y rfl (Y.move) ?_
            refine WL.y rfl (Y.move) ?_
            refine WL.y rfl (Y.move) ?_
            refine WL.yex rfl (Y.sliceFrom (cntU c ks) Try.underlying37 ti22 (hvD.bel k70) rfl (by omega) (by omega)) ?_
            rintro v74 hs74
            refine WL.eex rfl (E.appendK Try.underlying37 Try.underlying37 ti22 rfl (by decide) ho70 hs74 (kus_one _) (by omega) (by omega)) ?_
            rintro v75 w75 ⟨⟨b75, ho75, hb75⟩, hg75⟩
            refine WL.y rfl (Y.assign) ?_
            refine WL.nil (inBlockQ.normal (thenQ.normal ?_))
            refine WC.region rfl ?_
            refine WL.y rfl (Y.move) ?_
            refine WL.y rfl (Y.add64 rfl rfl (by omega)) ?_
            refine WL.y rfl (Y.assign) ?_
            refine WL.nil (thenQ.normal ?_)
            have hg75' : w70.grownBy w75 v70.ownBlock := hg75
            have k75 : Below wD.heap.size wD w75 := k70.trans (below_of_grown hg75' k70.size (fun k e => by rcases ho70.own with h | h <;> rw [h] at e <;> cases e; omega))
            have hfin : SlK w75 1 v75 (cliL (L.take (j + 1))).length ((cliL (L.take (j + 1))).map ku) := by
              rw [hsn, List.map_append, List.map_append, List.length_append, List.length_append]
              have h9 := ho75.sl
              rw [List.nil_append, Nat.zero_add] at h9
              exact h9
            exact ⟨j + 1, by omega, by omega, rfl, Below.step (Below.step (Below.step kL kC) kD) k75, v75, _, hfin, ov_mk ⟨rfl, rfl, rfl, trivial⟩⟩
    · have hje : j = L.length := by omega
      subst hje
      rw [List.take_length] at hv
      refine WC.exit (thenQ.exit (thenQ.exit (inBlockQ.hit (thenQ.normal ?_))))
      refine WC.seqR rfl ?_
      refine WL.y rfl (Y.move) ?_
      refine WL.y rfl (Y.assign) ?_
      refine WL.nil ?_
      refine WC.ret (endQ.one (.inr rfl) ?_)
      exact ⟨hv, kL⟩
end Go.Proofs.Ytlhhognabmnlmaa
