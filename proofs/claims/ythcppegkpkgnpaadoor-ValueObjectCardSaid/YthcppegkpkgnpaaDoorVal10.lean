/-
  value: may, May: walks.
-/
import Derived.Test.YthcppegkpkgnpaaDoorVal9
import Derived.Test.YthcppegkpkgnpaaDoorBase11
namespace Go.Proofs.YthcppegkpkgnpaaDoor
open Go Go.RowKit Go.Cx
set_option linter.unusedVariables false
set_option maxHeartbeats 4000000
mutual
/-- why a value that stands so deep may not be (0: it may) -/
def mayV : V → Int → Int
  | .mk k b i t l ks vs, d => if bareV (.mk k b i t l ks vs) = false then 9 else if 64 < d then 5 else if Lib.validD t = false then 3 else if mayL l (d + 1) ≠ 0 then mayL l (d + 1) else mayM vs ks none (d + 1)
def mayL : List V → Int → Int
  | [], _ => 0
  | x :: xs, d => if mayV x d ≠ 0 then mayV x d else mayL xs d
def mayM : List V → List (List UInt8) → Option (List UInt8) → Int → Int
  | [], _, _, _ => 0
  | x :: xs, ks, p, d => if Lib.validD (ks.headD []) = false then 3 else if (p.elim false fun q => !slt q (ks.headD [])) = true then 8 else if mayV x d ≠ 0 then mayV x d else mayM xs ks.tail (some (ks.headD [])) d
end
theorem mayV_eq (v : V) (d : Int) : mayV v d = if bareV v = false then 9 else if 64 < d then 5 else if Lib.validD v.t = false then 3 else if mayL v.l (d + 1) ≠ 0 then mayL v.l (d + 1) else mayM v.vs v.ks none (d + 1) := by cases v; rw [mayV]; rfl
/-- the key ahead of one's -/
def prevK (ks : List (List UInt8)) : Nat → Option (List UInt8)
  | 0 => none
  | j + 1 => ks[j]?
theorem mayL_step (l : List V) (j : Nat) (d : Int) (h : j < l.length) : mayL (l.drop j) d = if mayV l[j] d ≠ 0 then mayV l[j] d else mayL (l.drop (j + 1)) d := by
  rw [List.drop_eq_getElem_cons h, mayL]
theorem mayL_end (l : List V) (d : Int) : mayL (l.drop l.length) d = 0 := by rw [List.drop_length, mayL]
theorem mayM_step (l : List V) (ks : List (List UInt8)) (j : Nat) (d : Int) (h : j < l.length) (hk : j < ks.length) : mayM (l.drop j) (ks.drop j) (prevK ks j) d = if Lib.validD ks[j] = false then 3 else if ((prevK ks j).elim false fun q => !slt q ks[j]) = true then 8 else if mayV l[j] d ≠ 0 then mayV l[j] d else mayM (l.drop (j + 1)) (ks.drop (j + 1)) (prevK ks (j + 1)) d := by
  rw [List.drop_eq_getElem_cons h, List.drop_eq_getElem_cons hk, mayM]
  rw [show prevK ks (j + 1) = some ks[j] from List.getElem?_eq_getElem hk]
  rfl
theorem mayM_end (l : List V) (ks : List (List UInt8)) (p : Option (List UInt8)) (d : Int) : mayM (l.drop l.length) ks p d = 0 := by rw [List.drop_length, mayM]
theorem prevK_zero (ks : List (List UInt8)) (k : List UInt8) : ((prevK ks 0).elim false fun q => !slt q k) = false := rfl
theorem prevK_pos (ks : List (List UInt8)) (k : List UInt8) (j : Nat) (h : j < ks.length) (h0 : 0 < j) : ((prevK ks j).elim false fun q => !slt q k) = !slt ks[j - 1] k := by
  obtain ⟨i, rfl⟩ : ∃ i, j = i + 1 := ⟨j - 1, by omega⟩
  rw [show prevK ks (i + 1) = some ks[i] from List.getElem?_eq_getElem (by omega)]
  rfl
theorem bare_parts {v : V} (h : bareV v = true) : (1 ≤ v.k ∧ v.k ≤ 6) ∧ (v.k = 4 ∨ v.t = []) ∧ (v.k = 5 ∨ v.l = []) ∧ (v.k = 6 ∨ v.vs = []) := by
  have := of_decide_eq_true h
  exact ⟨this.1, this.2.2.2.1.imp_right List.length_eq_zero_iff.mp, this.2.2.2.2.1.imp_right List.length_eq_zero_iff.mp, this.2.2.2.2.2.imp_right List.length_eq_zero_iff.mp⟩
theorem mem_cells' {w : World} {b o j : Nat} {z : Int} {ks : List (List UInt8)} {oc : List VC} (h1 : j < ks.length) (h2 : j < oc.length) (hz : z.toNat = j) (hc : Cells w b o (((mcells ks oc).drop (z.toNat * 7)).take 7)) : Cells w b o (strv ks[j] :: oc[j].c) := by
  have e : z.toNat = ((j : Nat) : Int).toNat := by omega
  rw [e] at hc
  exact mem_cells h1 h2 hc
def MayOf (v : V) : Prop := ∀ (d : Int) (w : World) (c : List Value), 1 ≤ d ∧ d ≤ 65 → Tabs w → VAt w v c → Ret Tryd.prog 37 [.agg c.toArray, .int .i64 d].toArray w fun r w' => r = .int .i64 (mayV v d) ∧ Below w.heap.size w w'
theorem may_ret (v : V) : MayOf v := by
  induction v using V.ind with
  | h v ih1 ih2 =>
    intro d w c hd hT hv
    have he := mayV_eq v d
    have hcl := hv.len
    have hodd := fun w' (hb : Below w.heap.size w w') => odd_ret v w' c (hv.bel hb)
    have hqq := vat_parts hv
    obtain ⟨lv, ov, ⟨lc, h1, hs, h2⟩, ⟨oc, h3, hks, ho, h4⟩, ok, hce⟩ := hqq
    have ql := ok.l
    have qo := ok.o
    have qk := ok.kt
    refine Ret.of (n := 81) (rs := #[.tmp 4]) Tryd.func37 rfl rfl rfl (by simp) ?_
    refine WC.seqR rfl ?_
    refine WL.eex rfl (E.boxX) ?_
    rintro _ w2 ⟨rfl, hB2, hb2⟩
    refine WL.y rfl (Y.assign) ?_
    refine WL.nil ?_
    refine WC.seq ?_
    have hB : Blk w2 w.heap.size 26 (vcell v lv ov) := by rw [← hce]; exact hB2
    have hBc : Blk w2 w.heap.size 26 c := hB2
    clear hB2
    have hb1 : Below w.heap.size w w2 := hb2
    refine WC.block ?_
    refine WC.seqR rfl ?_
    refine WL.y rfl (Y.loadK Tryd.underlying26 rfl ti26 (hcl) rfl (hBc.cells)) ?_
    refine WL.call rfl (C.func go53) (hodd _ hb1) ?_
    rintro _ w13 ⟨rfl, hb13⟩
    refine WL.y rfl (Y.assign) ?_
    refine WL.nil ?_
    have hb13' := Below.step hb1 hb13
    have hB13 := hB.bel hb13
    have hT13 := hT.bel hb13'
    cases hbr : bareV v with
    | false =>
      rw [if_pos hbr] at he
      refine WC.condT (rfl) ?_
      refine WC.seqR rfl ?_
      refine WL.y rfl (Y.assign) ?_
      refine WL.nil ?_
      refine WC.ret (inBlockQ.ret (thenQ.ret (endQ.one (.inr rfl) ?_)))
      exact ⟨congrArg (Value.int .i64) he.symm, hb13'⟩
    | true =>
      rw [if_neg (by rw [hbr]; decide)] at he
      have hqq := bare_parts hbr
      obtain ⟨⟨bk1, bk6⟩, bt, bl, bo⟩ := hqq
      skip
      refine WC.condF (rfl) ?_
      refine WC.seqR rfl ?_
      refine WL.y rfl (Y.move) ?_
      refine WL.y rfl (Y.gtr rfl rfl) ?_
      refine WL.y rfl (Y.assign) ?_
      refine WL.nil ?_
      refine WC.condD rfl (fun r1 => ?_) (fun r1 => ?_)
      · rw [if_pos r1] at he
        refine WC.seqR rfl ?_
        refine WL.y rfl (Y.assign) ?_
        refine WL.nil ?_
        refine WC.ret (inBlockQ.ret (thenQ.ret (endQ.one (.inr rfl) ?_)))
        exact ⟨congrArg (Value.int .i64) he.symm, hb13'⟩
      · rw [if_neg r1] at he
        refine WC.skip (inBlockQ.normal (thenQ.normal ?_))
        refine WC.seq ?_
        refine WC.seqR rfl ?_
        refine WL.y rfl (Y.fieldAddr fi26f0 ti23 (by decide) rfl (rfl) _) ?_
        refine WL.y rfl (Y.load1 Tryd.underlying23 rfl rfl (hB13.cell 0)) ?_
        refine WL.nil ?_
        by_cases k4 : v.k = 4
        · have el : v.l = [] := bl.resolve_left (by omega)
          have eo : v.vs = [] := bo.resolve_left (by omega)
          rw [el, eo, mayL, mayM] at he
          cases hvd : Lib.validD v.t with
          | false =>
            rw [if_pos hvd] at he
            refine WC.block ?_
            refine WC.seqR rfl ?_
            refine WL.y rfl (Y.dT (Y.eqi rfl rfl) (by omega)) ?_
            refine WL.y rfl (Y.assign) ?_
            refine WL.nil ?_
            refine WC.condT (rfl) ?_
            refine WC.seqR rfl ?_
            refine WL.y rfl (Y.fieldAddr fi26f3 ti9 (by decide) rfl (rfl) _) ?_
            refine WL.y rfl (Y.load1 Tryd.underlying9 rfl rfl (hB13.cell 3)) ?_
            refine WL.call rfl (C.func go54) (uvalid_ret _ v.t (by have := ok.t; omega) hT13) ?_
            rintro _ w23 ⟨rfl, hb23⟩
            refine WL.y rfl (Y.not rfl) ?_
            refine WL.nil ?_
            refine WC.condT (by rw [hvd]; rfl) ?_
            refine WC.seqR rfl ?_
            refine WL.y rfl (Y.assign) ?_
            refine WL.nil ?_
            refine WC.ret (inBlockQ.ret (thenQ.ret (endQ.one (.inr rfl) ?_)))
            exact ⟨congrArg (Value.int .i64) he.symm, Below.step hb13' hb23⟩
          | true =>
            rw [if_neg (by rw [hvd]; decide)] at he
            refine WC.block ?_
            refine WC.seqR rfl ?_
            refine WL.y rfl (Y.dT (Y.eqi rfl rfl) (by omega)) ?_
            refine WL.y rfl (Y.assign) ?_
            refine WL.nil ?_
            refine WC.condT (rfl) ?_
            refine WC.seqR rfl ?_
            refine WL.y rfl (Y.fieldAddr fi26f3 ti9 (by decide) rfl (rfl) _) ?_
            refine WL.y rfl (Y.load1 Tryd.underlying9 rfl rfl (hB13.cell 3)) ?_
            refine WL.call rfl (C.func go54) (uvalid_ret _ v.t (by have := ok.t; omega) hT13) ?_
            rintro _ w23 ⟨rfl, hb23⟩
            refine WL.y rfl (Y.not rfl) ?_
            refine WL.nil ?_
            refine WC.condF (by rw [hvd]; rfl) ?_
            refine WC.skip (inBlockQ.normal (thenQ.normal ?_))
            refine WC.seqR rfl ?_
            refine WL.y rfl (Y.assign) ?_
            refine WL.nil ?_
            refine WC.ret (endQ.one (.inr rfl) ?_)
            exact ⟨congrArg (Value.int .i64) he.symm, Below.step hb13' hb23⟩
        · have et : v.t = [] := bt.resolve_left (by omega)
          rw [et, if_neg (by rw [Lib.validD_nil]; decide)] at he
          by_cases k5 : v.k = 5
          · have eo : v.vs = [] := bo.resolve_left (by omega)
            have he' : mayV v d = mayL v.l (d + 1) := by
              rw [he, eo, mayM]
              by_cases q : mayL v.l (d + 1) = 0
              · rw [if_neg (by simpa using q), q]
              · rw [if_pos q]
            refine WC.block ?_
            refine WC.seqR rfl ?_
            refine WL.y rfl (Y.dF (Y.eqi rfl rfl) (by omega)) ?_
            refine WL.y rfl (Y.assign) ?_
            refine WL.nil ?_
            refine WC.condF (rfl) ?_
            refine WC.seqR rfl ?_
            refine WL.y rfl (Y.dT (Y.eqi rfl rfl) (by omega)) ?_
            refine WL.y rfl (Y.assign) ?_
            refine WL.nil ?_
            refine WC.condT (rfl) ?_
            refine WC.seqR rfl ?_
            refine WL.y rfl (Y.fieldAddr fi26f4 ti24 (by decide) rfl (rfl) _) ?_
            refine WL.y rfl (Y.load1 Tryd.underlying24 rfl rfl (hB13.cell 4)) ?_
            refine WL.y rfl (Y.lenSl Tryd.underlying24 (hs.bel hb13') _) ?_
            refine WL.y rfl (Y.move) ?_
            refine WL.nil ?_
            refine WC.block ?_
            refine WC.loop (fun j => v.l.length - j) (fun j f ds w' => j ≤ v.l.length ∧ ds = [] ∧ Below w.heap.size w w' ∧ mayV v d = mayL (v.l.drop j) (d + 1) ∧ ∃ J, f = Go.Cx.ov J [(1, .int .i64 d), (28, lv), (29, .int .i64 (v.l.length : Int)), (30, .int .i64 (j : Int))]) 0 ?_ ?_
            · exact ⟨by omega, rfl, hb13', he', _, ov_mk ⟨rfl, rfl, rfl, rfl, trivial⟩⟩
            · rintro j _ _ w3 ⟨hj, rfl, hb3, ha, J, rfl⟩
              refine WC.seqR rfl ?_
              refine WL.y rfl (Y.lss rfl rfl) ?_
              refine WL.nil ?_
              refine WC.seq ?_
              refine WC.condD rfl (fun h0 => ?_) (fun h0 => ?_)
              · have hjl : j < v.l.length := by omega
                have hjc : j < lc.length := by omega
                have hst := mayL_step v.l j (d + 1) hjl
                refine WC.skip (thenQ.normal ?_)
                refine WC.seq ?_
                refine WC.block ?_
                refine WC.seqR rfl ?_
                refine WL.yex rfl (Y.idx Tryd.underlying24 ti26 (by decide) (hs.bel hb3) rfl (by omega) (by omega)) ?_
                rintro _ ⟨b32, o32, rfl, hc32⟩
                refine WL.y rfl (Y.loadK Tryd.underlying26 rfl ti26 (lc[j].h) rfl (elem_cells hjc hc32)) ?_
                refine WL.eex rfl (E.allocX ti26) ?_
                rintro _ w6 ⟨rfl, hB6, hb6⟩
                refine WL.eex rfl (E.storeAllK (us := lc[j].c) ti26 lc[j].h rfl rfl (h2 j hjl hjc).one hB6 rfl) ?_
                rintro _ w6s ⟨hB6', hg6⟩
                have b6 : Below w3.heap.size w3 w6s := Below.stepG hb6 hg6 (Nat.le_refl _)
                have hv6 := ((h2 j hjl hjc).bel hb3).bel b6
                refine WL.nil ?_
                refine WC.seqR rfl ?_
                refine WL.y rfl (Y.loadK Tryd.underlying26 rfl ti26 (lc[j].h) rfl (hB6'.cells)) ?_
                refine WL.y rfl (Y.move) ?_
                refine WL.y rfl (Y.add64 rfl rfl (by omega)) ?_
                refine WL.call rfl (C.func go37) (ih1 _ (List.getElem_mem hjl) (d + 1) _ _ (by omega) ((hT.bel hb3).bel b6) hv6) ?_
                rintro _ w37 ⟨rfl, hb37⟩
                refine WL.y rfl (Y.assign) ?_
                refine WL.nil ?_
                refine WC.seqR rfl ?_
                refine WL.y rfl (Y.move) ?_
                refine WL.y rfl (Y.nei rfl rfl) ?_
                refine WL.nil ?_
                have hbb := Below.step (Below.step hb3 b6) hb37
                refine WC.condD rfl (fun h5 => ?_) (fun h5 => ?_)
                · rw [if_pos h5] at hst
                  refine WC.seqR rfl ?_
                  refine WL.y rfl (Y.move) ?_
                  refine WL.y rfl (Y.assign) ?_
                  refine WL.nil ?_
                  refine WC.ret (inBlockQ.ret (thenQ.ret (thenQ.ret (inBlockQ.ret (inBlockQ.ret (thenQ.ret (endQ.one (.inr rfl) ?_)))))))
                  exact ⟨congrArg (Value.int .i64) (ha.trans hst).symm, hbb⟩
                · rw [if_neg h5] at hst
                  refine WC.skip (inBlockQ.normal (thenQ.normal ?_))
                  refine WC.region rfl ?_
                  refine WL.y rfl (Y.add64 rfl rfl (by omega)) ?_
                  refine WL.y rfl (Y.move) ?_
                  refine WL.nil (thenQ.normal ?_)
                  exact ⟨j + 1, by omega, by omega, rfl, hbb, ha.trans hst, _, ov_mk ⟨rfl, rfl, rfl, rfl, trivial⟩⟩
              · have hje : j = v.l.length := by omega
                have hee := mayL_end v.l (d + 1)
                subst hje
                refine WC.exit (thenQ.exit (thenQ.exit (inBlockQ.hit (inBlockQ.normal (thenQ.normal ?_)))))
                refine WC.seqR rfl ?_
                refine WL.y rfl (Y.assign) ?_
                refine WL.nil ?_
                refine WC.ret (endQ.one (.inr rfl) ?_)
                exact ⟨congrArg (Value.int .i64) (ha.trans hee).symm, hb3⟩
          · have el : v.l = [] := bl.resolve_left (by omega)
            rw [el, mayL, if_neg (by decide)] at he
            by_cases k6 : v.k = 6
            · refine WC.block ?_
              refine WC.seqR rfl ?_
              refine WL.y rfl (Y.dF (Y.eqi rfl rfl) (by omega)) ?_
              refine WL.y rfl (Y.assign) ?_
              refine WL.nil ?_
              refine WC.condF (rfl) ?_
              refine WC.seqR rfl ?_
              refine WL.y rfl (Y.dF (Y.eqi rfl rfl) (by omega)) ?_
              refine WL.y rfl (Y.assign) ?_
              refine WL.nil ?_
              refine WC.condF (rfl) ?_
              refine WC.seqR rfl ?_
              refine WL.y rfl (Y.dT (Y.eqi rfl rfl) (by omega)) ?_
              refine WL.y rfl (Y.assign) ?_
              refine WL.nil ?_
              refine WC.condT (rfl) ?_
              refine WC.seqR rfl ?_
              refine WL.y rfl (Y.fieldAddr fi26f5 ti22 (by decide) rfl (rfl) _) ?_
              refine WL.y rfl (Y.load1 Tryd.underlying22 rfl rfl (hB13.cell 5)) ?_
              refine WL.y rfl (Y.lenSl Tryd.underlying22 (ho.bel hb13') _) ?_
              refine WL.y rfl (Y.move) ?_
              refine WL.nil ?_
              refine WC.block ?_
              refine WC.loop (fun j => v.vs.length - j) (fun j f ds w' => j ≤ v.vs.length ∧ ds = [] ∧ Below w.heap.size w w' ∧ Blk w' w.heap.size 26 (vcell v lv ov) ∧ mayV v d = mayM (v.vs.drop j) (v.ks.drop j) (prevK v.ks j) (d + 1) ∧ ∃ J, f = Go.Cx.ov J [(1, .int .i64 d), (2, .pointer (some ⟨w.heap.size, 0, none⟩)), (45, ov), (46, .int .i64 (v.vs.length : Int)), (47, .int .i64 (j : Int))]) 0 ?_ ?_
              · exact ⟨by omega, rfl, hb13', hB13, he, _, ov_mk ⟨rfl, rfl, rfl, rfl, rfl, trivial⟩⟩
              · rintro j _ _ w3 ⟨hj, rfl, hb3, hA, ha, J, rfl⟩
                refine WC.seqR rfl ?_
                refine WL.y rfl (Y.lss rfl rfl) ?_
                refine WL.nil ?_
                refine WC.seq ?_
                refine WC.condD rfl (fun h0 => ?_) (fun h0 => ?_)
                · have hjl : j < v.vs.length := by omega
                  have hjc : j < oc.length := by omega
                  have hjk : j < v.ks.length := by omega
                  have hst := mayM_step v.vs v.ks j (d + 1) hjl hjk
                  have hml : (strv v.ks[j] :: oc[j].c).length = 7 := by rw [List.length_cons, oc[j].h]
                  have hmo : ∀ u ∈ strv v.ks[j] :: oc[j].c, One u = true := by
                    intro u hu
                    rcases List.mem_cons.1 hu with rfl | hu
                    · rfl
                    · exact (h4 j hjl hjc).one u hu
                  have hkl := qk _ (List.getElem_mem hjk)
                  refine WC.skip (thenQ.normal ?_)
                  refine WC.seq ?_
                  refine WC.block ?_
                  refine WC.seqR rfl ?_
                  refine WL.y rfl (Y.move) ?_
                  refine WL.yex rfl (Y.idx Tryd.underlying22 ti38 (by decide) (ho.bel hb3) rfl (by omega) (by omega)) ?_
                  rintro _ ⟨b50, o50, rfl, hc50⟩
                  refine WL.y rfl (Y.loadK Tryd.underlying38 rfl ti38 (hml) rfl (mem_cells hjk hjc hc50)) ?_
                  refine WL.eex rfl (E.allocX ti38) ?_
                  rintro _ w9 ⟨rfl, hB9, hb9⟩
                  refine WL.y rfl (Y.assign) ?_
                  refine WL.eex rfl (E.storeAllK (us := strv v.ks[j] :: oc[j].c) ti38 hml rfl rfl hmo hB9 rfl) ?_
                  rintro _ w9s ⟨hB9', hg9⟩
                  have b9 : Below w3.heap.size w3 w9s := Below.stepG hb9 hg9 (Nat.le_refl _)
                  have hv9 := ((h4 j hjl hjc).bel hb3).bel b9
                  refine WL.nil ?_
                  refine WC.seq ?_
                  refine WC.block ?_
                  refine WC.seqR rfl ?_
                  refine WL.y rfl (Y.fieldAddr fi38f0 ti9 (by decide) rfl (rfl) _) ?_
                  refine WL.y rfl (Y.load1 Tryd.underlying9 rfl rfl (hB9'.cell 0)) ?_
                  refine WL.call rfl (C.func go54) (uvalid_ret _ v.ks[j] (by omega) ((hT.bel hb3).bel b9)) ?_
                  rintro _ w55 ⟨rfl, hb55⟩
                  refine WL.y rfl (Y.not rfl) ?_
                  refine WL.y rfl (Y.assign) ?_
                  refine WL.nil ?_
                  have hb55' := Below.step (Below.step hb3 b9) hb55
                  have hA' := (hA.bel b9).bel hb55
                  have hM' := hB9'.bel hb55
                  have hv55 := hv9.bel hb55
                  cases hvd : Lib.validD v.ks[j] with
                  | false =>
                    rw [if_pos hvd] at hst
                    refine WC.condT (rfl) ?_
                    refine WC.seqR rfl ?_
                    refine WL.y rfl (Y.assign) ?_
                    refine WL.nil ?_
                    refine WC.ret (inBlockQ.ret (thenQ.ret (inBlockQ.ret (thenQ.ret (thenQ.ret (inBlockQ.ret (inBlockQ.ret (thenQ.ret (endQ.one (.inr rfl) ?_)))))))))
                    exact ⟨congrArg (Value.int .i64) (ha.trans hst).symm, hb55'⟩
                  | true =>
                    rw [if_neg (by rw [hvd]; decide)] at hst
                    by_cases hj0 : j = 0
                    · subst hj0
                      rw [prevK_zero, if_neg (by decide)] at hst
                      refine WC.condF (rfl) ?_
                      refine WC.seq ?_
                      refine WC.regionB (fun _ => false) [(0, .any), (1, .any), (2, .any), (3, .any), (4, .held), (5, .any), (6, .held), (7, .any), (8, .any), (9, .any), (10, .any), (11, .held), (12, .any), (13, .any), (14, .any)] mixed (by kernel_rfl) (fun w23 hS23 hheap => ?_)
                      refine RL.any rfl rfl (fun _ => Y.move) ?_
                      refine RL.any rfl rfl (fun _ => Y.dF (Y.gtr rfl rfl) (by omega)) ?_
                      refine RL.any rfl rfl (fun _ => Y.move) ?_
                      refine RL.off rfl rfl ?_
                      refine RL.offH rfl rfl hS23 ?_
                      refine RL.off rfl rfl ?_
                      refine RL.offH rfl rfl hS23 ?_
                      refine RL.off rfl rfl ?_
                      refine RL.off rfl rfl ?_
                      refine RL.off rfl rfl ?_
                      refine RL.off rfl rfl ?_
                      refine RL.offH rfl rfl hS23 ?_
                      refine RL.off rfl rfl ?_
                      refine RL.any rfl rfl (fun _ => Y.pickF rfl) ?_
                      refine RL.any rfl rfl (fun _ => Y.assign) ?_
                      refine RL.nil (thenQ.normal ?_)
                      refine WC.condF (rfl) ?_
                      refine WC.skip (inBlockQ.normal (thenQ.normal ?_))
                      refine WC.seqR rfl ?_
                      refine WL.y rfl (Y.fieldAddr fi38f1 ti26 (by decide) rfl (rfl) _) ?_
                      refine WL.y rfl (Y.loadK Tryd.underlying26 rfl ti26 (oc[0].h) rfl ((Cells.tl hM'.cells).bel hS23)) ?_
                      refine WL.y rfl (Y.move) ?_
                      refine WL.y rfl (Y.add64 rfl rfl (by omega)) ?_
                      refine WL.call rfl (C.func go37) (ih2 _ (List.getElem_mem hjl) (d + 1) _ _ (by omega) ((hT.bel hb55').bel hS23) (hv55.bel hS23)) ?_
                      rintro _ w76 ⟨rfl, hb76⟩
                      refine WL.y rfl (Y.assign) ?_
                      refine WL.nil ?_
                      refine WC.seqR rfl ?_
                      refine WL.y rfl (Y.move) ?_
                      refine WL.y rfl (Y.nei rfl rfl) ?_
                      refine WL.nil ?_
                      have hbb := Below.step (Below.step hb55' hS23) hb76
                      refine WC.condD rfl (fun h5 => ?_) (fun h5 => ?_)
                      · rw [if_pos h5] at hst
                        refine WC.seqR rfl ?_
                        refine WL.y rfl (Y.move) ?_
                        refine WL.y rfl (Y.assign) ?_
                        refine WL.nil ?_
                        refine WC.ret (inBlockQ.ret (thenQ.ret (thenQ.ret (inBlockQ.ret (inBlockQ.ret (thenQ.ret (endQ.one (.inr rfl) ?_)))))))
                        exact ⟨congrArg (Value.int .i64) (ha.trans hst).symm, hbb⟩
                      · rw [if_neg h5] at hst
                        refine WC.skip (inBlockQ.normal (thenQ.normal ?_))
                        refine WC.region rfl ?_
                        refine WL.y rfl (Y.add64 rfl rfl (by omega)) ?_
                        refine WL.y rfl (Y.move) ?_
                        refine WL.nil (thenQ.normal ?_)
                        exact ⟨1, by omega, by omega, rfl, hbb, (hA'.bel hS23).bel hb76, ha.trans hst, _, ov_mk ⟨rfl, rfl, rfl, rfl, rfl, trivial⟩⟩
                    · have hj1 : 0 < j := by omega
                      have hp1 : j - 1 < v.ks.length := by omega
                      have hp2 : j - 1 < oc.length := by omega
                      rw [prevK_pos _ _ _ hjk hj1] at hst
                      cases hlt : (!slt v.ks[j - 1] v.ks[j]) with
                      | true =>
                        rw [if_pos hlt] at hst
                        refine WC.condF (rfl) ?_
                        refine WC.seq ?_
                        refine WC.regionB (fun _ => false) [(0, .any), (1, .any), (2, .any), (3, .any), (4, .held), (5, .any), (6, .held), (7, .any), (8, .any), (9, .any), (10, .any), (11, .held), (12, .any), (13, .any), (14, .any)] mixed (by kernel_rfl) (fun w23 hS23 hheap => ?_)
                        refine RL.any rfl rfl (fun _ => Y.move) ?_
                        refine RL.any rfl rfl (fun _ => Y.dT (Y.gtr rfl rfl) (by omega)) ?_
                        refine RL.any rfl rfl (fun _ => Y.move) ?_
                        refine RL.any rfl rfl (fun _ => Y.fieldAddr fi38f0 ti9 (by decide) rfl (rfl) _) ?_
                        refine RL.held rfl rfl hS23 (fun _ hb9 => Y.load1 Tryd.underlying9 rfl rfl (cell_bel (hM'.cell 0) hb9)) ?_
                        refine RL.any rfl rfl (fun _ => Y.fieldAddr fi26f5 ti22 (by decide) rfl (rfl) _) ?_
                        refine RL.held rfl rfl hS23 (fun _ hb9 => Y.load1 Tryd.underlying22 rfl rfl (cell_bel (hA'.cell 5) hb9)) ?_
                        refine RL.any rfl rfl (fun _ => Y.move) ?_
                        refine RL.any rfl rfl (fun _ => Y.sub64 rfl rfl (by omega)) ?_
                        refine RL.yex rfl rfl (Y.idx Tryd.underlying22 ti38 (by decide) (ho.bel hb55') rfl (by omega) (by omega)) ?_
                        rintro _ ⟨b67, o67, rfl, hc67⟩
                        refine RL.any rfl rfl (fun _ => Y.fieldAddr fi38f0 ti9 (by decide) rfl (rfl) _) ?_
                        refine RL.held rfl rfl hS23 (fun _ hb9 => Y.load1 Tryd.underlying9 rfl rfl (cell_bel (Cells.hd (mem_cells' hp1 hp2 (by omega) hc67)) hb9)) ?_
                        refine RL.any rfl rfl (fun _ => Y.bT (Y.leS rfl rfl) (hlt)) ?_
                        refine RL.any rfl rfl (fun _ => Y.pickT rfl) ?_
                        refine RL.any rfl rfl (fun _ => Y.assign) ?_
                        refine RL.nil (thenQ.normal ?_)
                        refine WC.condT (rfl) ?_
                        refine WC.seqR rfl ?_
                        refine WL.y rfl (Y.assign) ?_
                        refine WL.nil ?_
                        refine WC.ret (inBlockQ.ret (thenQ.ret (inBlockQ.ret (thenQ.ret (thenQ.ret (inBlockQ.ret (inBlockQ.ret (thenQ.ret (endQ.one (.inr rfl) ?_)))))))))
                        exact ⟨congrArg (Value.int .i64) (ha.trans hst).symm, Below.step hb55' hS23⟩
                      | false =>
                        rw [if_neg (by rw [hlt]; decide)] at hst
                        skip
                        refine WC.condF (rfl) ?_
                        refine WC.seq ?_
                        refine WC.regionB (fun _ => false) [(0, .any), (1, .any), (2, .any), (3, .any), (4, .held), (5, .any), (6, .held), (7, .any), (8, .any), (9, .any), (10, .any), (11, .held), (12, .any), (13, .any), (14, .any)] mixed (by kernel_rfl) (fun w23 hS23 hheap => ?_)
                        refine RL.any rfl rfl (fun _ => Y.move) ?_
                        refine RL.any rfl rfl (fun _ => Y.dT (Y.gtr rfl rfl) (by omega)) ?_
                        refine RL.any rfl rfl (fun _ => Y.move) ?_
                        refine RL.any rfl rfl (fun _ => Y.fieldAddr fi38f0 ti9 (by decide) rfl (rfl) _) ?_
                        refine RL.held rfl rfl hS23 (fun _ hb9 => Y.load1 Tryd.underlying9 rfl rfl (cell_bel (hM'.cell 0) hb9)) ?_
                        refine RL.any rfl rfl (fun _ => Y.fieldAddr fi26f5 ti22 (by decide) rfl (rfl) _) ?_
                        refine RL.held rfl rfl hS23 (fun _ hb9 => Y.load1 Tryd.underlying22 rfl rfl (cell_bel (hA'.cell 5) hb9)) ?_
                        refine RL.any rfl rfl (fun _ => Y.move) ?_
                        refine RL.any rfl rfl (fun _ => Y.sub64 rfl rfl (by omega)) ?_
                        refine RL.yex rfl rfl (Y.idx Tryd.underlying22 ti38 (by decide) (ho.bel hb55') rfl (by omega) (by omega)) ?_
                        rintro _ ⟨b67, o67, rfl, hc67⟩
                        refine RL.any rfl rfl (fun _ => Y.fieldAddr fi38f0 ti9 (by decide) rfl (rfl) _) ?_
                        refine RL.held rfl rfl hS23 (fun _ hb9 => Y.load1 Tryd.underlying9 rfl rfl (cell_bel (Cells.hd (mem_cells' hp1 hp2 (by omega) hc67)) hb9)) ?_
                        refine RL.any rfl rfl (fun _ => Y.bF (Y.leS rfl rfl) (hlt)) ?_
                        refine RL.any rfl rfl (fun _ => Y.pickT rfl) ?_
                        refine RL.any rfl rfl (fun _ => Y.assign) ?_
                        refine RL.nil (thenQ.normal ?_)
                        refine WC.condF (rfl) ?_
                        refine WC.skip (inBlockQ.normal (thenQ.normal ?_))
                        refine WC.seqR rfl ?_
                        refine WL.y rfl (Y.fieldAddr fi38f1 ti26 (by decide) rfl (rfl) _) ?_
                        refine WL.y rfl (Y.loadK Tryd.underlying26 rfl ti26 (oc[j].h) rfl ((Cells.tl hM'.cells).bel hS23)) ?_
                        refine WL.y rfl (Y.move) ?_
                        refine WL.y rfl (Y.add64 rfl rfl (by omega)) ?_
                        refine WL.call rfl (C.func go37) (ih2 _ (List.getElem_mem hjl) (d + 1) _ _ (by omega) ((hT.bel hb55').bel hS23) (hv55.bel hS23)) ?_
                        rintro _ w76 ⟨rfl, hb76⟩
                        refine WL.y rfl (Y.assign) ?_
                        refine WL.nil ?_
                        refine WC.seqR rfl ?_
                        refine WL.y rfl (Y.move) ?_
                        refine WL.y rfl (Y.nei rfl rfl) ?_
                        refine WL.nil ?_
                        have hbb := Below.step (Below.step hb55' hS23) hb76
                        refine WC.condD rfl (fun h5 => ?_) (fun h5 => ?_)
                        · rw [if_pos h5] at hst
                          refine WC.seqR rfl ?_
                          refine WL.y rfl (Y.move) ?_
                          refine WL.y rfl (Y.assign) ?_
                          refine WL.nil ?_
                          refine WC.ret (inBlockQ.ret (thenQ.ret (thenQ.ret (inBlockQ.ret (inBlockQ.ret (thenQ.ret (endQ.one (.inr rfl) ?_)))))))
                          exact ⟨congrArg (Value.int .i64) (ha.trans hst).symm, hbb⟩
                        · rw [if_neg h5] at hst
                          refine WC.skip (inBlockQ.normal (thenQ.normal ?_))
                          refine WC.region rfl ?_
                          refine WL.y rfl (Y.add64 rfl rfl (by omega)) ?_
                          refine WL.y rfl (Y.move) ?_
                          refine WL.nil (thenQ.normal ?_)
                          exact ⟨j + 1, by omega, by omega, rfl, hbb, (hA'.bel hS23).bel hb76, ha.trans hst, _, ov_mk ⟨rfl, rfl, rfl, rfl, rfl, trivial⟩⟩
                · have hje : j = v.vs.length := by omega
                  have hee := mayM_end v.vs (v.ks.drop j) (prevK v.ks j) (d + 1)
                  subst hje
                  refine WC.exit (thenQ.exit (thenQ.exit (inBlockQ.hit (inBlockQ.normal (thenQ.normal ?_)))))
                  refine WC.seqR rfl ?_
                  refine WL.y rfl (Y.assign) ?_
                  refine WL.nil ?_
                  refine WC.ret (endQ.one (.inr rfl) ?_)
                  exact ⟨congrArg (Value.int .i64) (ha.trans hee).symm, hb3⟩
            · have eo : v.vs = [] := bo.resolve_left (by omega)
              rw [eo, mayM] at he
              skip
              refine WC.block ?_
              refine WC.seqR rfl ?_
              refine WL.y rfl (Y.dF (Y.eqi rfl rfl) (by omega)) ?_
              refine WL.y rfl (Y.assign) ?_
              refine WL.nil ?_
              refine WC.condF (rfl) ?_
              refine WC.seqR rfl ?_
              refine WL.y rfl (Y.dF (Y.eqi rfl rfl) (by omega)) ?_
              refine WL.y rfl (Y.assign) ?_
              refine WL.nil ?_
              refine WC.condF (rfl) ?_
              refine WC.seqR rfl ?_
              refine WL.y rfl (Y.dF (Y.eqi rfl rfl) (by omega)) ?_
              refine WL.y rfl (Y.assign) ?_
              refine WL.nil ?_
              refine WC.condF (rfl) ?_
              refine WC.skip (inBlockQ.normal (thenQ.normal ?_))
              refine WC.seqR rfl ?_
              refine WL.y rfl (Y.assign) ?_
              refine WL.nil ?_
              refine WC.ret (endQ.one (.inr rfl) ?_)
              exact ⟨congrArg (Value.int .i64) he.symm, hb13'⟩
theorem vmay_ret (v : V) (w : World) (c : List Value) (hT : Tabs w) (hv : VAt w v c) : Ret Tryd.prog 18 [.agg c.toArray].toArray w fun r w' => r = .int .i64 (mayV v 1) ∧ Below w.heap.size w w' := by
  have hcl := hv.len
  refine Ret.of (n := 5) (rs := #[.tmp 2]) Tryd.func18 rfl rfl rfl (by simp) ?_
  refine WC.seqR rfl ?_
  refine WL.eex rfl (E.boxX) ?_
  rintro _ w1 ⟨rfl, hB1, hb1⟩
  refine WL.y rfl (Y.assign) ?_
  refine WL.nil ?_
  refine WC.seqR rfl ?_
  refine WL.y rfl (Y.loadK Tryd.underlying26 rfl ti26 (hcl) rfl ((show Blk _ _ _ c from hB1).cells)) ?_
  refine WL.call rfl (C.func go37) (may_ret v 1 _ _ (by omega) (hT.bel hb1) (hv.bel hb1)) ?_
  rintro _ w4 ⟨rfl, hb4⟩
  refine WL.y rfl (Y.assign) ?_
  refine WL.nil ?_
  refine WC.ret (endQ.one (.inr rfl) ?_)
  exact ⟨rfl, Below.step hb1 hb4⟩
end Go.Proofs.YthcppegkpkgnpaaDoor
