/-
  ref01: Quote: walk; the law of quotes.
-/
import Derived.Test.YtgdemkchfemmpaaDoorQt12
import Derived.Test.YtgdemkchfemmpaaDoorQt9
import Derived.Test.YtgdemkchfemmpaaDoorQt13
namespace Go.Proofs.YtgdemkchfemmpaaDoor
open Go Go.RowKit Go.Cx
set_option linter.unusedVariables false
set_option maxHeartbeats 8000000
theorem letter_at {r k : Nat} (hk : k < 8) (h2 : k ≠ 2) (h : codes.getD k 0 = r) : qOf r = [92] ++ [lettersL.getD k 0] := by
  subst h
  have hk8 : k = 0 ∨ k = 1 ∨ k = 3 ∨ k = 4 ∨ k = 5 ∨ k = 6 ∨ k = 7 := by omega
  rcases hk8 with rfl | rfl | rfl | rfl | rfl | rfl | rfl <;> rfl
theorem letter_not {r : Nat} (h : ∀ k, k < 8 → k = 2 ∨ codes.getD k 0 ≠ r) : qOf r = if r < 32 then [92, 117, 48, 48, hexDigs.getD (r / 16) 0, hexDigs.getD (r % 16) 0] else Lib.encodeRune (r : Int) := by
  have h0 : (34 : Nat) ≠ r := by rcases h 0 (by omega) with e | e; omega; exact e
  have h1 : (92 : Nat) ≠ r := by rcases h 1 (by omega) with e | e; omega; exact e
  have h3 : (8 : Nat) ≠ r := by rcases h 3 (by omega) with e | e; omega; exact e
  have h4 : (12 : Nat) ≠ r := by rcases h 4 (by omega) with e | e; omega; exact e
  have h5 : (10 : Nat) ≠ r := by rcases h 5 (by omega) with e | e; omega; exact e
  have h6 : (13 : Nat) ≠ r := by rcases h 6 (by omega) with e | e; omega; exact e
  have h7 : (9 : Nat) ≠ r := by rcases h 7 (by omega) with e | e; omega; exact e
  unfold qOf
  by_cases hr : r < 32
  · rw [if_pos hr]
    have hs : ¬ selfR r = true := by unfold selfR; rw [decide_eq_false (by omega)]; simp
    have hl : letOf r = none := by
      unfold letOf
      rw [if_neg (by omega), if_neg (by omega), if_neg (by omega), if_neg (by omega), if_neg (by omega), if_neg (by omega), if_neg (by omega)]
    rw [if_neg hs, hl]
  · rw [if_neg hr]
    have hs : selfR r = true := by unfold selfR; rw [decide_eq_true (by omega)]
    rw [if_pos hs]
theorem slice_let (k : Nat) (hk : k < 8) : (lettersL.drop k).take (k + 1 - k) = [lettersL.getD k 0] := by
  have h : ∀ k : Fin 8, (lettersL.drop k.1).take (k.1 + 1 - k.1) = [lettersL.getD k.1 0] := by decide +kernel
  exact h ⟨k, hk⟩
theorem slice_hex (k : Nat) (hk : k < 16) : (hexDigs.drop k).take (k + 1 - k) = [hexDigs.getD k 0] := by
  have h : ∀ k : Fin 16, (hexDigs.drop k.1).take (k.1 + 1 - k.1) = [hexDigs.getD k.1 0] := by decide +kernel
  exact h ⟨k, hk⟩
/-- the quote of the first runes, by the runes themselves -/
def qN (ps : List (Nat × Nat)) : List UInt8 := ps.flatMap fun p => qOf p.2
theorem qN_all {s : List UInt8} : qN (rns s 0) = qAll (rns s 0) := by
  have : ∀ ps : List (Nat × Nat), (∀ p ∈ ps, okR p.2) → qN ps = qAll ps := by
    intro ps
    induction ps with
    | nil => intro _; rfl
    | cons p ps ih =>
      intro h
      have := ih (fun q hq => h q (.tail _ hq))
      simp only [qN, qAll, List.flatMap_cons] at this ⊢
      rw [this, cR_id (h p (.head _))]
  exact this _ (fun p hp => (rns_ok s 0 p hp).2.2)
theorem qN_take (l : List (Nat × Nat)) (i : Nat) (hi : i < l.length) : qN (l.take (i + 1)) = qN (l.take i) ++ qOf (l.getD i (0, 0)).2 := by
  rw [List.take_succ_eq_append_getElem hi]
  simp only [qN, List.flatMap_append, List.flatMap_cons, List.flatMap_nil, List.append_nil]
  rw [List.getD_eq_getElem?_getD, List.getElem?_eq_getElem hi, Option.getD_some]
theorem qN_len (ps : List (Nat × Nat)) : (qN ps).length ≤ 6 * ps.length := by
  induction ps with
  | nil => simp [qN]
  | cons p ps ih =>
    have := qOf_len p.2
    simp only [qN, List.flatMap_cons, List.length_append, List.length_cons] at ih ⊢
    omega
theorem rquote_ret (w : World) (s : List UInt8) (hs : s.length ≤ 1099511627776) : Ret Tryd.prog 13 [strv s].toArray w fun v w' => v = quoteV s ∧ Below w.heap.size w w' := by
  have hrl := rns_len s 0
  have hok := rns_ok s 0
  have hend : 34 :: qN ((rns s 0).take (rns s 0).length) ++ [34] = quoteL s := by rw [List.take_length, qN_all]; rfl
  refine Ret.of (n := 80) (rs := #[.tmp 2, .tmp 3]) Tryd.func13 rfl rfl rfl (by simp) ?_
  refine WC.seqR rfl ?_
  refine WL.y rfl (Y.assign) ?_
  refine WL.y rfl (Y.assign) ?_
  refine WL.nil ?_
  refine WC.seq ?_
  refine WC.seqR rfl ?_
  refine WL.y rfl (Y.move) ?_
  refine WL.call rfl (C.func go10) (valid_ret _ s (by omega)) ?_
  rintro _ _ ⟨rfl, rfl⟩
  refine WL.y rfl (Y.not rfl) ?_
  refine WL.nil ?_
  refine WC.cond rfl (fun h0 => ?_) (fun h0 => ?_)
  · have e : quoteV s = .tuple #[strv [], .int .i64 3] := if_neg (by simpa using h0)
    refine WC.seqR rfl ?_
    refine WL.y rfl (Y.assign) ?_
    refine WL.y rfl (Y.assign) ?_
    refine WL.nil ?_
    refine WC.ret (thenQ.ret (endQ.two (.inr rfl) ?_))
    exact ⟨e.symm, Below.refl _ _⟩
  · have e : quoteV s = .tuple #[strv (quoteL s), .int .i64 0] := if_pos (by simpa using h0)
    refine WC.skip (thenQ.normal ?_)
    refine WC.seqR rfl ?_
    refine WL.y rfl (Y.assign) ?_
    refine WL.nil ?_
    refine WC.seqR rfl ?_
    refine WL.y rfl (Y.move) ?_
    refine WL.call rfl (C.func go18) (rrunes_ret _ s hs) ?_
    rintro _ w16 ⟨⟨lv, av, rfl, hlv, hav⟩, hb16⟩
    refine WL.y rfl (Y.move) ?_
    refine WL.y rfl (Y.extract rfl rfl) ?_
    refine WL.y rfl (Y.extract rfl rfl) ?_
    refine WL.y rfl (Y.assign) ?_
    refine WL.y rfl (Y.assign) ?_
    refine WL.nil ?_
    refine WC.seqR rfl ?_
    refine WL.y rfl (Y.assign) ?_
    refine WL.nil ?_
    refine WC.seq ?_
    refine WC.seqR rfl ?_
    refine WL.y rfl (Y.assign) ?_
    refine WL.nil ?_
    refine WC.block ?_
    generalize hL : rns s 0 = L at *
    refine WC.loop (fun i => L.length - i) (fun i f ds w' => i ≤ L.length ∧ ds = [] ∧ Below w.heap.size w w' ∧ SlK w' 1 lv L.length (L.map fun p => i64v p.2) ∧ ∃ J, f = ov J [(4, strv (34 :: qN (L.take i))), (5, lv), (7, strv hexDigs), (8, .int .i64 (i : Int))]) 0 ?_ ?_
    · exact ⟨by omega, rfl, hb16, hlv, _, ov_mk ⟨rfl, rfl, rfl, rfl, trivial⟩⟩
    · rintro i _ _ w1 ⟨hi, rfl, hb1, hl1, J, rfl⟩
      have hs1 := hb1.size
      refine WC.seq ?_
      refine WC.seqR rfl ?_
      refine WL.y rfl (Y.move) ?_
      refine WL.y rfl (Y.move) ?_
      refine WL.y rfl (Y.lenSl Tryd.underlying38 (hl1) _) ?_
      refine WL.y rfl (Y.lss rfl rfl) ?_
      refine WL.nil ?_
      refine WC.condD rfl (fun h1 => ?_) (fun h1 => ?_)
      · have hil : i < L.length := by omega
        have hq := qN_take L i hil
        have hql := qN_len (L.take i)
        rw [List.length_take] at hql
        have hr : okR (L.getD i (0, 0)).2 := by
          rw [List.getD_eq_getElem?_getD, List.getElem?_eq_getElem hil]
          exact (hok _ (List.getElem_mem hil)).2.2
        have hcell : (L.map fun p => i64v p.2)[((i : Nat) : Int).toNat]? = some (i64v (L.getD i (0, 0)).2) := by
          rw [Int.toNat_natCast, List.getElem?_map, List.getD_eq_getElem?_getD, List.getElem?_eq_getElem hil]; rfl
        have hr1 := hr.1
        generalize (L.getD i (0, 0)).2 = r at *
        have hl8 : (34 :: qN (L.take i)).length ≤ 6 * i + 1 := by rw [List.length_cons]; omega
        have hq34 : 34 :: qN (L.take (i + 1)) = (34 :: qN (L.take i)) ++ qOf r := by rw [hq]; rfl
        refine WC.skip (thenQ.normal ?_)
        refine WC.seq ?_
        refine WC.block ?_
        refine WC.seqR rfl ?_
        refine WL.y rfl (Y.move) ?_
        refine WL.y rfl (Y.move) ?_
        refine WL.yex rfl (Y.idx1 Tryd.underlying38 ti3 hl1 rfl (by omega) (by omega)) ?_
        rintro _ ⟨p27, rfl, hp27⟩
        refine WL.y rfl (Y.load1 Tryd.underlying3 rfl rfl (hp27.trans hcell)) ?_
        refine WL.y rfl (Y.assign) ?_
        refine WL.nil ?_
        refine WC.seqR rfl ?_
        refine WL.y rfl (Y.assign) ?_
        refine WL.nil ?_
        refine WC.seq ?_
        refine WC.block ?_
        refine WC.loop (fun k => 8 - k) (fun k f ds w' => k ≤ 8 ∧ ds = [] ∧ Below w.heap.size w w' ∧ SlK w' 1 lv L.length (L.map fun p => i64v p.2) ∧ (∀ j, j < k → j = 2 ∨ codes.getD j 0 ≠ r) ∧ ∃ J, f = ov J [(4, strv (34 :: qN (L.take i))), (5, lv), (7, strv hexDigs), (8, .int .i64 (i : Int)), (9, i64v r), (10, .int .i64 (k : Int))]) 0 ?_ ?_
        · exact ⟨by omega, rfl, hb1, hl1, fun j h => by omega, _, ov_mk ⟨rfl, rfl, rfl, rfl, rfl, rfl, trivial⟩⟩
        · rintro k _ _ w2 ⟨hk, rfl, hb2, hl2, hnot, J2, rfl⟩
          have hs2 := hb2.size
          by_cases k8 : k < 8
          · by_cases k2 : k = 2
            · skip
              refine WC.seq ?_
              refine WC.seqR rfl ?_
              refine WL.y rfl (Y.move) ?_
              refine WL.y rfl (Y.dT (Y.lss rfl rfl) (by omega)) ?_
              refine WL.y rfl (Y.move) ?_
              refine WL.y rfl (Y.move) ?_
              refine WL.y rfl (Y.dT (Y.eqi rfl rfl) (by omega)) ?_
              refine WL.y rfl (Y.move) ?_
              refine WL.off rfl ?_
              refine WL.off rfl ?_
              refine WL.off rfl ?_
              refine WL.off rfl ?_
              refine WL.y rfl (Y.pickT rfl) ?_
              refine WL.y rfl (Y.pickT rfl) ?_
              refine WL.nil ?_
              refine WC.condT (rfl) ?_
              refine WC.skip (thenQ.normal ?_)
              refine WC.block ?_
              refine WC.region rfl ?_
              refine WL.y rfl (Y.move) ?_
              refine WL.y rfl (Y.add64 rfl rfl (by omega)) ?_
              refine WL.y rfl (Y.assign) ?_
              refine WL.nil (inBlockQ.normal (thenQ.normal ?_))
              refine ⟨k + 1, by omega, by omega, rfl, hb2, hl2, fun j hj => ?_, _, ov_mk ⟨rfl, rfl, rfl, rfl, rfl, rfl, trivial⟩⟩
              by_cases hjk : j = k
              · exact .inl (by omega)
              · exact hnot j (by omega)
            · by_cases kr : codes.getD k 0 = r
              · have hqr := letter_at k8 k2 kr
                have hfin : strv (((34 :: qN (L.take i)) ++ [92]) ++ (lettersL.drop k).take (k + 1 - k)) = strv (34 :: qN (L.take (i + 1))) := by rw [hq34, hqr, slice_let k k8, List.append_assoc]
                have hll : lettersL.length = 8 := rfl
                refine WC.seq ?_
                refine WC.seqR rfl ?_
                refine WL.y rfl (Y.move) ?_
                refine WL.y rfl (Y.dT (Y.lss rfl rfl) (by omega)) ?_
                refine WL.y rfl (Y.move) ?_
                refine WL.y rfl (Y.move) ?_
                refine WL.y rfl (Y.dF (Y.eqi rfl rfl) (by omega)) ?_
                refine WL.y rfl (Y.move) ?_
                refine WL.y rfl (Y.move) ?_
                refine WL.call rfl (C.func go29) (code_ret _ k k8) ?_
                rintro _ w36 ⟨rfl, hb36⟩
                refine WL.y rfl (Y.move) ?_
                refine WL.y rfl (Y.dF (Y.nei rfl rfl) (fun h => h (congrArg (fun x : Nat => (x : Int)) kr))) ?_
                refine WL.y rfl (Y.pickF rfl) ?_
                refine WL.y rfl (Y.pickT rfl) ?_
                refine WL.nil ?_
                refine WC.condF (rfl) ?_
                refine WC.exit (thenQ.exit (thenQ.exit (inBlockQ.hit (thenQ.normal ?_))))
                refine WC.block ?_
                refine WC.seqR rfl ?_
                refine WL.y rfl (Y.move) ?_
                refine WL.y rfl (Y.dT (Y.lss rfl rfl) (by omega)) ?_
                refine WL.y rfl (Y.assign) ?_
                refine WL.nil ?_
                refine WC.condT (rfl) ?_
                refine WC.region rfl ?_
                refine WL.y rfl (Y.move) ?_
                refine WL.y rfl (Y.catS (b := [92]) rfl rfl (by simp only [List.length_cons, List.length_nil] at hl8 ⊢; omega)) ?_
                refine WL.y rfl (Y.move) ?_
                refine WL.y rfl (Y.move) ?_
                refine WL.y rfl (Y.add64 rfl rfl (by omega)) ?_
                refine WL.y rfl (Y.sliceBothN (a := lettersL) k (k + 1) Tryd.underlying9 rfl rfl rfl rfl rfl (by omega) (by omega) _) ?_
                refine WL.y rfl (Y.catS rfl rfl (by simp only [List.length_append, List.length_take, List.length_cons, List.length_nil] at hl8 ⊢; omega)) ?_
                refine WL.y rfl (Y.assign) ?_
                refine WL.nil (inBlockQ.normal (inBlockQ.normal (thenQ.normal ?_)))
                refine WC.region rfl ?_
                refine WL.y rfl (Y.move) ?_
                refine WL.y rfl (Y.add64 rfl rfl (by omega)) ?_
                refine WL.y rfl (Y.assign) ?_
                refine WL.nil (thenQ.normal ?_)
                exact ⟨i + 1, by omega, by omega, rfl, Below.step hb2 hb36, hl2.bel hb36, _, ov_mk ⟨hfin, rfl, rfl, rfl, trivial⟩⟩
              · skip
                refine WC.seq ?_
                refine WC.seqR rfl ?_
                refine WL.y rfl (Y.move) ?_
                refine WL.y rfl (Y.dT (Y.lss rfl rfl) (by omega)) ?_
                refine WL.y rfl (Y.move) ?_
                refine WL.y rfl (Y.move) ?_
                refine WL.y rfl (Y.dF (Y.eqi rfl rfl) (by omega)) ?_
                refine WL.y rfl (Y.move) ?_
                refine WL.y rfl (Y.move) ?_
                refine WL.call rfl (C.func go29) (code_ret _ k k8) ?_
                rintro _ w36 ⟨rfl, hb36⟩
                refine WL.y rfl (Y.move) ?_
                refine WL.y rfl (Y.dT (Y.nei rfl rfl) (fun h => kr (Int.ofNat_inj.mp h))) ?_
                refine WL.y rfl (Y.pickF rfl) ?_
                refine WL.y rfl (Y.pickT rfl) ?_
                refine WL.nil ?_
                refine WC.condT (rfl) ?_
                refine WC.skip (thenQ.normal ?_)
                refine WC.block ?_
                refine WC.region rfl ?_
                refine WL.y rfl (Y.move) ?_
                refine WL.y rfl (Y.add64 rfl rfl (by omega)) ?_
                refine WL.y rfl (Y.assign) ?_
                refine WL.nil (inBlockQ.normal (thenQ.normal ?_))
                refine ⟨k + 1, by omega, by omega, rfl, Below.step hb2 hb36, hl2.bel hb36, fun j hj => ?_, _, ov_mk ⟨rfl, rfl, rfl, rfl, rfl, rfl, trivial⟩⟩
                by_cases hjk : j = k
                · subst hjk; exact .inr kr
                · exact hnot j (by omega)
          · have hk8 : k = 8 := by omega
            have hqr := letter_not (fun j hj => hnot j (by omega))
            by_cases r32 : r < 32
            · rw [if_pos r32] at hqr
              have hfin : strv ((((34 :: qN (L.take i)) ++ [92, 117, 48, 48]) ++ (hexDigs.drop (r / 16)).take (r / 16 + 1 - r / 16)) ++ (hexDigs.drop (r % 16)).take (r % 16 + 1 - r % 16)) = strv (34 :: qN (L.take (i + 1))) := by
                rw [hq34, hqr, slice_hex _ (by omega), slice_hex _ (by omega)]
                simp
              have hhl : hexDigs.length = 16 := rfl
              refine WC.seq ?_
              refine WC.seqR rfl ?_
              refine WL.y rfl (Y.move) ?_
              refine WL.y rfl (Y.dF (Y.lss rfl rfl) (by omega)) ?_
              refine WL.y rfl (Y.move) ?_
              refine WL.off rfl ?_
              refine WL.off rfl ?_
              refine WL.off rfl ?_
              refine WL.off rfl ?_
              refine WL.off rfl ?_
              refine WL.off rfl ?_
              refine WL.off rfl ?_
              refine WL.off rfl ?_
              refine WL.y rfl (Y.pickF rfl) ?_
              refine WL.nil ?_
              refine WC.condF (rfl) ?_
              refine WC.exit (thenQ.exit (thenQ.exit (inBlockQ.hit (thenQ.normal ?_))))
              refine WC.block ?_
              refine WC.seqR rfl ?_
              refine WL.y rfl (Y.move) ?_
              refine WL.y rfl (Y.dF (Y.lss rfl rfl) (by omega)) ?_
              refine WL.y rfl (Y.assign) ?_
              refine WL.nil ?_
              refine WC.condF (rfl) ?_
              refine WC.seqR rfl ?_
              refine WL.y rfl (Y.move) ?_
              refine WL.y rfl (Y.dT (Y.lss rfl rfl) (by omega)) ?_
              refine WL.y rfl (Y.assign) ?_
              refine WL.nil ?_
              refine WC.condT (rfl) ?_
              refine WC.regionB (fun _ => false) [(0, .any), (1, .any), (2, .any), (3, .any), (4, .any), (5, .any), (6, .any), (7, .any), (8, .any), (9, .any), (10, .any), (11, .any), (12, .any), (13, .any), (14, .any), (15, .any), (16, .any), (17, .any), (18, .any)] mixed (by kernel_rfl) (fun w17 hS17 hheap => ?_)
              refine RL.any rfl rfl (fun _ => Y.move) ?_
              refine RL.any rfl rfl (fun _ => Y.catS (b := [92, 117, 48, 48]) rfl rfl (by simp only [List.length_cons, List.length_nil] at hl8 ⊢; omega)) ?_
              refine RL.any rfl rfl (fun _ => Y.move) ?_
              refine RL.any rfl rfl (fun _ => Y.move) ?_
              refine RL.any rfl rfl (fun _ => Y.quo64 rfl rfl (by omega) (by omega)) ?_
              refine RL.any rfl rfl (fun _ => Y.move) ?_
              refine RL.any rfl rfl (fun _ => Y.quo64 rfl rfl (by omega) (by omega)) ?_
              refine RL.any rfl rfl (fun _ => Y.add64 rfl rfl (by omega)) ?_
              refine RL.any rfl rfl (fun _ => Y.sliceBothN (r/16) (r/16+1) Tryd.underlying9 rfl rfl (by omega) rfl (by omega) (by omega) (by omega) _) ?_
              refine RL.any rfl rfl (fun _ => Y.catS rfl rfl (by simp only [List.length_append, List.length_take, List.length_drop, List.length_cons, List.length_nil] at hl8 ⊢; omega)) ?_
              refine RL.any rfl rfl (fun _ => Y.move) ?_
              refine RL.any rfl rfl (fun _ => Y.move) ?_
              refine RL.any rfl rfl (fun _ => Y.rem rfl rfl (by omega) (by omega)) ?_
              refine RL.any rfl rfl (fun _ => Y.move) ?_
              refine RL.any rfl rfl (fun _ => Y.rem rfl rfl (by omega) (by omega)) ?_
              refine RL.any rfl rfl (fun _ => Y.add64 rfl rfl (by omega)) ?_
              refine RL.any rfl rfl (fun _ => Y.sliceBothN (r%16) (r%16+1) Tryd.underlying9 rfl rfl (by omega) rfl (by omega) (by omega) (by omega) _) ?_
              refine RL.any rfl rfl (fun _ => Y.catS rfl rfl (by simp only [List.length_append, List.length_take, List.length_drop, List.length_cons, List.length_nil] at hl8 ⊢; omega)) ?_
              refine RL.any rfl rfl (fun _ => Y.assign) ?_
              refine RL.nil (inBlockQ.normal (inBlockQ.normal (thenQ.normal ?_)))
              refine WC.region rfl ?_
              refine WL.y rfl (Y.move) ?_
              refine WL.y rfl (Y.add64 rfl rfl (by omega)) ?_
              refine WL.y rfl (Y.assign) ?_
              refine WL.nil (thenQ.normal ?_)
              exact ⟨i + 1, by omega, by omega, rfl, Below.step hb2 hS17, hl2.bel hS17, _, ov_mk ⟨hfin, rfl, rfl, rfl, trivial⟩⟩
            · rw [if_neg r32] at hqr
              have hfin : strv ((34 :: qN (L.take i)) ++ Lib.encodeRune (r : Int)) = strv (34 :: qN (L.take (i + 1))) := by rw [hq34, hqr]
              have hel := enc_len r
              skip
              refine WC.seq ?_
              refine WC.seqR rfl ?_
              refine WL.y rfl (Y.move) ?_
              refine WL.y rfl (Y.dF (Y.lss rfl rfl) (by omega)) ?_
              refine WL.y rfl (Y.move) ?_
              refine WL.off rfl ?_
              refine WL.off rfl ?_
              refine WL.off rfl ?_
              refine WL.off rfl ?_
              refine WL.off rfl ?_
              refine WL.off rfl ?_
              refine WL.off rfl ?_
              refine WL.off rfl ?_
              refine WL.y rfl (Y.pickF rfl) ?_
              refine WL.nil ?_
              refine WC.condF (rfl) ?_
              refine WC.exit (thenQ.exit (thenQ.exit (inBlockQ.hit (thenQ.normal ?_))))
              refine WC.block ?_
              refine WC.seqR rfl ?_
              refine WL.y rfl (Y.move) ?_
              refine WL.y rfl (Y.dF (Y.lss rfl rfl) (by omega)) ?_
              refine WL.y rfl (Y.assign) ?_
              refine WL.nil ?_
              refine WC.condF (rfl) ?_
              refine WC.seqR rfl ?_
              refine WL.y rfl (Y.move) ?_
              refine WL.y rfl (Y.dF (Y.lss rfl rfl) (by omega)) ?_
              refine WL.y rfl (Y.assign) ?_
              refine WL.nil ?_
              refine WC.condF (rfl) ?_
              refine WC.region rfl ?_
              refine WL.y rfl (Y.move) ?_
              refine WL.y rfl (Y.move) ?_
              refine WL.call rfl (C.func go17) (bytes_ret _ r hr) ?_
              rintro _ w45 ⟨rfl, hb45⟩
              refine WL.y rfl (Y.catS rfl rfl (by omega)) ?_
              refine WL.y rfl (Y.assign) ?_
              refine WL.nil (inBlockQ.normal (inBlockQ.normal (thenQ.normal ?_)))
              refine WC.region rfl ?_
              refine WL.y rfl (Y.move) ?_
              refine WL.y rfl (Y.add64 rfl rfl (by omega)) ?_
              refine WL.y rfl (Y.assign) ?_
              refine WL.nil (thenQ.normal ?_)
              exact ⟨i + 1, by omega, by omega, rfl, Below.step hb2 hb45, hl2.bel hb45, _, ov_mk ⟨hfin, rfl, rfl, rfl, trivial⟩⟩
      · have hie : i = L.length := by omega
        subst hie
        have hsv : strv (34 :: qN (L.take L.length) ++ [34]) = strv (quoteL s) := by rw [hend]
        have hv2 : Value.tuple #[strv (34 :: qN (L.take L.length) ++ [34]), .int .i64 0] = quoteV s := by rw [e, hend]
        have hql := qN_len (L.take L.length)
        rw [List.length_take] at hql
        refine WC.exit (thenQ.exit (thenQ.exit (inBlockQ.hit (thenQ.normal ?_))))
        refine WC.seqR rfl ?_
        refine WL.y rfl (Y.move) ?_
        refine WL.y rfl (Y.catS (b := [34]) rfl rfl (by rw [List.length_cons]; simp only [List.length_cons, List.length_nil]; omega)) ?_
        refine WL.y rfl (Y.assign) ?_
        refine WL.y rfl (Y.assign) ?_
        refine WL.nil ?_
        refine WC.ret (endQ.two (.inr rfl) ?_)
        exact ⟨hv2, hb1⟩
end Go.Proofs.YtgdemkchfemmpaaDoor
