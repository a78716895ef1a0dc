/-
  The law QueuePlays: walk.
-/
import Derived.Test.YtcbdpcehacklhaaQue15
import Derived.Test.YtcbdpcehacklhaaQue13
namespace Go.Proofs.Ytcbdpcehacklhaa
open Go Go.RowKit Go.Cx
set_option linter.unusedVariables false
set_option maxHeartbeats 8000000
set_option maxRecDepth 20000
structure AC where
  c : List Value
  h : c.length = 22
/-- an act: its kind, mutator, number, n -/
abbrev Ac := Int × Mt × Int × Int
def AcAt (w : World) (a : Ac) (cs : List Value) : Prop := ∃ c, MtAt w a.2.1 c ∧ cs = actc a.1 c a.2.2.1 a.2.2.2 ∧ (0 ≤ a.2.2.1 ∧ a.2.2.1 ≤ 18446744073709551615) ∧ a.2.2.2 ≤ 9223372036854775807
def AArg (w : World) (l : List Ac) (v : Value) : Prop := ∃ lc : List AC, lc.length = l.length ∧ SlK w 22 v l.length (lc.flatMap AC.c) ∧ ∀ j (h : j < l.length) (h' : j < lc.length), AcAt w l[j] lc[j].c
theorem elem_ac {w : World} {b o j : Nat} {lc : List AC} (h : j < lc.length) (hc : Cells w b o (((lc.flatMap AC.c).drop ((j : Int).toNat * 22)).take 22)) : Cells w b o lc[j].c := by
  rw [Int.toNat_natCast, flat_at AC.h lc j h] at hc
  exact hc
section
variable {H : Type} {enc : TypeId × Value → H} {W : World} {b0 base : Nat} {spare : Nat → Bool} {held : Bool} {v : Value} {d : DataW H} {p : List MemPlace} {r : Reach}
theorem lift_acs {w : World} : ∀ {l : List AC}, (∀ a ∈ l, ∃ v, AcAt w v a.c) → ∃ vs : List Ac, vs.length = l.length ∧ ∀ j (h : j < vs.length) (h' : j < l.length), AcAt w vs[j] l[j].c
  | [], _ => ⟨[], rfl, fun j h => absurd h (by simp)⟩
  | a :: l, hall => by
    have hqq := hall a (by simp)
    obtain ⟨v, hv⟩ := hqq
    have hqq := lift_acs (l := l) (fun x hx => hall x (by simp [hx]))
    obtain ⟨vs, h1, h2⟩ := hqq
    refine ⟨v :: vs, by simp [h1], fun j h h' => ?_⟩
    cases j with
    | zero => exact hv
    | succ j => exact h2 j (by simpa using h) (by simpa using h')
theorem open_act (fuel : Nat) (cs : List Value) (x : DataW H × List MemPlace) (h : DataW.trod enc Try.prog W base spare held fuel 69 cs = some x) (hsz : Sz Try.prog 69 x.1) : ∃ a : AC, cs = a.c ∧ ∃ v, AcAt W v a.c := by
  have hl : cs.length = 22 := (open_len Try.underlying69 h).trans (by kernel_rfl)
  have k0 : Try.prog.cellsOf 3 = 1 := by kernel_rfl
  have k1 : Try.prog.cellsOf 30 = 19 := by kernel_rfl
  have k2 : Try.prog.cellsOf 33 = 1 := by kernel_rfl
  have hqq := open_field fi69f0 h hsz
  obtain ⟨m0, y0, -, t0, -⟩ := hqq
  have hqq := open_field fi69f1 h hsz
  obtain ⟨m1, y1, -, t1, s1⟩ := hqq
  have hqq := open_field fi69f2 h hsz
  obtain ⟨m2, y2, -, t2, -⟩ := hqq
  have hqq := open_field fi69f3 h hsz
  obtain ⟨m3, y3, -, t3, -⟩ := hqq
  rw [k0] at t0 t3
  rw [k1] at t1
  rw [k2] at t2
  have hqq := DataW.trod_int Try.underlying3 t0
  obtain ⟨n0, e0, -, w0⟩ := hqq
  have hqq := open_mat _ _ _ t1 s1
  obtain ⟨mt, hm⟩ := hqq
  have hqq := DataW.trod_int Try.underlying33 t2
  obtain ⟨n2, e2, -, w2⟩ := hqq
  have hqq := DataW.trod_int Try.underlying3 t3
  obtain ⟨n3, e3, -, w3⟩ := hqq
  match cs, hl with
  | [c0, a0, a1, a2, a3, a4, a5, a6, a7, a8, a9, b0, b1, b2, b3, b4, b5, b6, b7, b8, c1, c2], _ =>
    simp only [List.drop_zero, List.drop_succ_cons, List.take_succ_cons, List.take_zero] at e0 e2 e3 hm
    have e0 := cons1 e0
    have e2 := cons1 e2
    have e3 := cons1 e3
    subst e0 e2 e3
    exact ⟨⟨_, rfl⟩, rfl, (n0, mt, n2, n3), _, hm, rfl, u64_range w2, (i64_range w3).2⟩
theorem openT60 (hval : Value.okWide Try.prog W r b0 60 v) (h : DataW.Trod enc Try.prog W base spare held 60 v d p) (hsz : Sz Try.prog 60 d) : ∃ x : List Ac, AArg W x v := by
  have hqq := Go.WideShapes.okWide_slice Try.underlying60 hval
  obtain ⟨a, len, cap, rfl⟩ := hqq
  obtain ⟨fuel, hf⟩ := h
  have hqq := open_slice_of (α := AC) (encE := AC.c) (Good := fun a => ∃ v, AcAt W v a.c) Try.underlying60 (show Try.prog.cellsOf 69 = 22 by kernel_rfl) (by decide) AC.h (fun n hn cs x hx hs => open_act n cs x hx hs) hf hsz
  obtain ⟨v', l, e, hs, hg, hz⟩ := hqq
  have hqq := lift_acs hg
  obtain ⟨vs, q1, q2⟩ := hqq
  have e1 : Value.slice a len cap = v' := cons1 e
  rw [e1]
  exact ⟨vs, l, q1.symm, by rw [q1]; exact hs, q2⟩
end
theorem RQ.zero {w0 w : World} {M : Nat → Prop} {q : Nat} {last : Int} (hB : Blk w q 63 [.int .u64 last, .int .u64 (last + 1), .slice none 0 0]) (hM : M q) (h : 0 ≤ last ∧ last ≤ 4611686018427387903) : RQ w0 w M q last [] := by
  refine ⟨_, ?_, hM, RL0.nil, ⟨h.1, by simp; omega⟩, by simp⟩
  simpa using hB
theorem queuePlays_ret (w : World) (last : Int) (hlast : (Lit.int .u64 last).wf = true) (a : Value) (ls : List Mt) (ha : TArg w ls a) (av : Value) (acts : List Ac) (haa : AArg w acts av) : Ret Try.prog 8 [.int .u64 last, a, av].toArray w fun v w' => v = .bool true ∧ Below w.heap.size w w' := by
  have hr := u64_range hlast
  obtain ⟨⟨lc, h1, h2, h3⟩, hlen⟩ := ha
  obtain ⟨la, g1, g2, g3⟩ := haa
  refine Ret.of (n := 112) (rs := #[.tmp 6]) Try.func8 rfl rfl rfl (by simp) ?_
  refine WC.seqR rfl ?_
  refine WL.y rfl (Y.assign) ?_
  refine WL.nil ?_
  refine WC.seq ?_
  by_cases c1 : 4611686018427386903 < last
  · refine WC.seqR rfl ?_
    refine WL.y rfl (Y.move) ?_
    refine WL.y rfl (Y.dT (Y.gtr rfl rfl) (by omega)) ?_
    refine WL.y rfl (Y.move) ?_
    refine WL.off rfl ?_
    refine WL.off rfl ?_
    refine WL.off rfl ?_
    refine WL.y rfl (Y.pickT rfl) ?_
    refine WL.y rfl (Y.move) ?_
    refine WL.off rfl ?_
    refine WL.off rfl ?_
    refine WL.off rfl ?_
    refine WL.y rfl (Y.pickT rfl) ?_
    refine WL.nil ?_
    refine WC.condT (rfl) ?_
    refine WC.seqR rfl ?_
    refine WL.call rfl (C.func go16) (known_ret _) ?_
    rintro _ w26 ⟨rfl, hb26⟩
    refine WL.y rfl (Y.assign) ?_
    refine WL.nil ?_
    refine WC.ret (thenQ.ret (endQ.one (.inr rfl) ?_))
    exact ⟨rfl, hb26⟩
  · by_cases c2 : 30 < (ls.length : Int)
    · refine WC.seqR rfl ?_
      refine WL.y rfl (Y.move) ?_
      refine WL.y rfl (Y.dF (Y.gtr rfl rfl) (by omega)) ?_
      refine WL.y rfl (Y.move) ?_
      refine WL.y rfl (Y.move) ?_
      refine WL.y rfl (Y.lenSl Try.underlying28 (h2) _) ?_
      refine WL.y rfl (Y.dT (Y.gtr rfl rfl) (by omega)) ?_
      refine WL.y rfl (Y.pickF rfl) ?_
      refine WL.y rfl (Y.move) ?_
      refine WL.off rfl ?_
      refine WL.off rfl ?_
      refine WL.off rfl ?_
      refine WL.y rfl (Y.pickT rfl) ?_
      refine WL.nil ?_
      refine WC.condT (rfl) ?_
      refine WC.seqR rfl ?_
      refine WL.call rfl (C.func go16) (known_ret _) ?_
      rintro _ w26 ⟨rfl, hb26⟩
      refine WL.y rfl (Y.assign) ?_
      refine WL.nil ?_
      refine WC.ret (thenQ.ret (endQ.one (.inr rfl) ?_))
      exact ⟨rfl, hb26⟩
    · by_cases c3 : 100 < (acts.length : Int)
      · refine WC.seqR rfl ?_
        refine WL.y rfl (Y.move) ?_
        refine WL.y rfl (Y.dF (Y.gtr rfl rfl) (by omega)) ?_
        refine WL.y rfl (Y.move) ?_
        refine WL.y rfl (Y.move) ?_
        refine WL.y rfl (Y.lenSl Try.underlying28 (h2) _) ?_
        refine WL.y rfl (Y.dF (Y.gtr rfl rfl) (by omega)) ?_
        refine WL.y rfl (Y.pickF rfl) ?_
        refine WL.y rfl (Y.move) ?_
        refine WL.y rfl (Y.move) ?_
        refine WL.y rfl (Y.lenSl Try.underlying60 (g2) _) ?_
        refine WL.y rfl (Y.dT (Y.gtr rfl rfl) (by omega)) ?_
        refine WL.y rfl (Y.pickF rfl) ?_
        refine WL.nil ?_
        refine WC.condT (rfl) ?_
        refine WC.seqR rfl ?_
        refine WL.call rfl (C.func go16) (known_ret _) ?_
        rintro _ w26 ⟨rfl, hb26⟩
        refine WL.y rfl (Y.assign) ?_
        refine WL.nil ?_
        refine WC.ret (thenQ.ret (endQ.one (.inr rfl) ?_))
        exact ⟨rfl, hb26⟩
      · skip
        skip
        refine WC.seqR rfl ?_
        refine WL.y rfl (Y.move) ?_
        refine WL.y rfl (Y.dF (Y.gtr rfl rfl) (by omega)) ?_
        refine WL.y rfl (Y.move) ?_
        refine WL.y rfl (Y.move) ?_
        refine WL.y rfl (Y.lenSl Try.underlying28 (h2) _) ?_
        refine WL.y rfl (Y.dF (Y.gtr rfl rfl) (by omega)) ?_
        refine WL.y rfl (Y.pickF rfl) ?_
        refine WL.y rfl (Y.move) ?_
        refine WL.y rfl (Y.move) ?_
        refine WL.y rfl (Y.lenSl Try.underlying60 (g2) _) ?_
        refine WL.y rfl (Y.dF (Y.gtr rfl rfl) (by omega)) ?_
        refine WL.y rfl (Y.pickF rfl) ?_
        refine WL.nil ?_
        refine WC.condF (rfl) ?_
        refine WC.skip (thenQ.normal ?_)
        refine WC.seqR rfl ?_
        refine WL.y rfl (Y.move) ?_
        refine WL.y rfl (Y.move) ?_
        refine WL.y rfl (Y.addU64 rfl rfl (by omega)) ?_
        refine WL.y rfl (Y.build (cells := #[.int .u64 last, .int .u64 (last + 1), .slice none 0 0]) (by kernel_rfl) _) ?_
        refine WL.eex rfl (E.boxX) ?_
        rintro _ w31 ⟨rfl, hB31, hb31⟩
        refine WL.y rfl (Y.assign) ?_
        refine WL.nil ?_
        refine WC.seq ?_
        refine WC.seqR rfl ?_
        refine WL.y rfl (Y.assign) ?_
        refine WL.nil ?_
        refine WC.block ?_
        have hq0 : RQ w w31 (fun b => w.heap.size ≤ b) w.heap.size last [] := RQ.zero hB31 (Nat.le_refl _) ⟨hr.1, by omega⟩
        clear hB31
        refine WC.loop (fun j => ls.length - j) (fun j f ds w' => j ≤ ls.length ∧ ds = [] ∧ Below w.heap.size w w' ∧ RQ w w' (fun b => w.heap.size ≤ b) w.heap.size last (ls.take j) ∧ ∃ J, f = Go.Cx.ov J [(0, .int .u64 last), (1, a), (2, av), (7, .pointer (some ⟨w.heap.size, 0, none⟩)), (8, .int .i64 (j : Int))]) 0 ?_ ?_
        · exact ⟨by omega, rfl, hb31, hq0, _, ov_mk ⟨rfl, rfl, rfl, rfl, rfl, trivial⟩⟩
        · clear hq0 hb31
          rintro j _ _ wL ⟨hj, rfl, kL, hq, J, rfl⟩
          have sL := kL.size
          refine WC.seq ?_
          refine WC.seqR rfl ?_
          refine WL.y rfl (Y.move) ?_
          refine WL.y rfl (Y.move) ?_
          refine WL.y rfl (Y.lenSl Try.underlying28 (h2.bel kL) _) ?_
          refine WL.y rfl (Y.lss rfl rfl) ?_
          refine WL.nil ?_
          refine WC.condD rfl (fun h0 => ?_) (fun h0 => ?_)
          · have hjl : j < ls.length := by omega
            have hjc : j < lc.length := by omega
            have htl : (ls.take j).length = j := by rw [List.length_take]; omega
            have hts : ls.take (j + 1) = ls.take j ++ [ls[j]] := List.take_succ_eq_append_getElem hjl
            refine WC.skip (thenQ.normal ?_)
            refine WC.seq ?_
            refine WC.block ?_
            refine WC.region rfl ?_
            refine WL.y rfl (Y.move) ?_
            refine WL.y rfl (Y.move) ?_
            refine WL.y rfl (Y.move) ?_
            refine WL.yex rfl (Y.idx Try.underlying28 ti30 (by decide) (h2.bel kL) rfl (by omega) (by omega)) ?_
            rintro _ ⟨b41, o41, rfl, hc41⟩
            refine WL.y rfl (Y.loadK Try.underlying30 rfl ti30 (lc[j].h) rfl (elem_mt hjc hc41)) ?_
            refine WL.call rfl (C.func go24) (radd_ret hq ls[j] _ (h3 j hjl hjc) (by omega) (by omega) kL) ?_
            rintro _ w43 ⟨rfl, h43, k43⟩
            refine WL.nil (inBlockQ.normal (thenQ.normal ?_))
            refine WC.region rfl ?_
            refine WL.y rfl (Y.move) ?_
            refine WL.y rfl (Y.add64 rfl rfl (by omega)) ?_
            refine WL.y rfl (Y.assign) ?_
            refine WL.nil (thenQ.normal ?_)
            rw [← hts] at h43
            exact ⟨j + 1, by omega, by omega, rfl, Below.kept kL k43 (fun b e => by omega) (Nat.le_refl _), h43.mono (fun b _ h => by rcases h with h | h <;> omega), _, ov_mk ⟨rfl, rfl, rfl, rfl, rfl, trivial⟩⟩
          · have hje : j = ls.length := by omega
            rw [hje, List.take_length] at hq
            have hq' := hq.mono (M' := fun b => w.heap.size ≤ b ∧ b < wL.heap.size) (fun b h1 h2 => ⟨h2, h1⟩)
            have hqq := id hq'
            obtain ⟨r, hBr, hMr, hLr, hrg⟩ := hqq
            have hNL := hLr.at kL
            clear hq
            refine WC.exit (thenQ.exit (thenQ.exit (inBlockQ.hit (thenQ.normal ?_))))
            refine WC.seq ?_
            refine WC.regionB (fun i => Nat.beq i 12) [(0, .any), (1, .any), (2, .any), (3, .held), (4, .any), (5, .any), (6, .any), (7, .held), (8, .any), (9, .any), (10, .any), (11, .held), (12, .seq), (13, .any), (14, .any), (15, .any), (16, .any), (17, .any)] mixed (by kernel_rfl) (fun w8 hS8 hheap => ?_)
            refine RL.any rfl rfl (fun _ => Y.move) ?_
            refine RL.any rfl rfl (fun _ => Y.nilCheck rfl) ?_
            refine RL.any rfl rfl (fun _ => Y.fieldAddr fi63f0 ti33 (by decide) rfl (rfl) _) ?_
            refine RL.held rfl rfl hS8 (fun _ hb9 => Y.load1 Try.underlying33 rfl rfl (cell_bel (hBr.cell 0) hb9)) ?_
            refine RL.any rfl rfl (fun _ => Y.move) ?_
            refine RL.any rfl rfl (fun _ => Y.nilCheck rfl) ?_
            refine RL.any rfl rfl (fun _ => Y.fieldAddr fi63f1 ti33 (by decide) rfl (rfl) _) ?_
            refine RL.held rfl rfl hS8 (fun _ hb9 => Y.load1 Try.underlying33 rfl rfl (cell_bel (hBr.cell 1) hb9)) ?_
            refine RL.any rfl rfl (fun _ => Y.move) ?_
            refine RL.any rfl rfl (fun _ => Y.nilCheck rfl) ?_
            refine RL.any rfl rfl (fun _ => Y.fieldAddr fi63f2 ti34 (by decide) rfl (rfl) _) ?_
            refine RL.held rfl rfl hS8 (fun _ hb9 => Y.load1 Try.underlying34 rfl rfl (cell_bel (hBr.cell 2) hb9)) ?_
            refine RL.call rfl rfl (C.func go22) (qof_ret _ last ls r (hNL.bel hS8) hrg.1 hrg.2) ?_
            rintro _ w57 ⟨q, rfl, h57, hb57⟩
            refine ⟨.inl rfl, ?_⟩
            refine RL.any rfl rfl (fun _ => Y.move) ?_
            refine RL.any rfl rfl (fun _ => Y.extract rfl rfl) ?_
            refine RL.any rfl rfl (fun _ => Y.extract rfl rfl) ?_
            refine RL.any rfl rfl (fun _ => Y.assign) ?_
            refine RL.any rfl rfl (fun _ => Y.assign) ?_
            refine RL.nil (thenQ.normal ?_)
            refine WC.seq ?_
            have s8 := hS8.size
            have s57 := hb57.size
            have hSt : St (fun _ => False) w w57 q last ls w.heap.size last ls := ⟨fun b => w8.heap.size ≤ b ∧ b < w57.heap.size, fun b => w.heap.size ≤ b ∧ b < wL.heap.size, Below.step (Below.step kL hS8) hb57, fun b h => by omega, fun b h => by omega, fun b h h2 => by omega, fun b h => h.elim, h57.mono (fun b h1 h2 => ⟨h2, h1⟩), (hq'.bel hS8).bel hb57⟩
            clear h57 hq' hLr hNL hBr
            refine WC.seqR rfl ?_
            refine WL.y rfl (Y.move) ?_
            refine WL.y rfl (Y.bF (Y.eqpn Try.underlying32 rfl rfl) (rfl)) ?_
            refine WL.y rfl (Y.move) ?_
            refine WL.y rfl (Y.move) ?_
            refine WL.y rfl (Y.dF (Y.nei rfl rfl) (fun h => h rfl)) ?_
            refine WL.y rfl (Y.pickF rfl) ?_
            refine WL.nil ?_
            refine WC.condF (rfl) ?_
            refine WC.skip (thenQ.normal ?_)
            refine WC.seq ?_
            refine WC.seqR rfl ?_
            refine WL.y rfl (Y.assign) ?_
            refine WL.nil ?_
            refine WC.block ?_
            refine WC.loop (fun j => acts.length - j) (fun j f ds w' => j ≤ acts.length ∧ ds = [] ∧ ∃ q' l' ms' J, St (fun _ => False) w w' q' l' ms' w.heap.size l' ms' ∧ (l' + (ms'.length : Int) ≤ last + 30 + j ∧ ms'.length ≤ 30 + j) ∧ f = Go.Cx.ov J [(0, .int .u64 last), (2, av), (7, .pointer (some ⟨w.heap.size, 0, none⟩)), (9, .pointer (some ⟨q', 0, none⟩)), (11, .int .i64 (j : Int))]) 0 ?_ ?_
            · exact ⟨by omega, rfl, q, last, ls, _, hSt, ⟨by omega, by omega⟩, ov_mk ⟨rfl, rfl, rfl, rfl, rfl, trivial⟩⟩
            · clear hSt
              rintro j _ _ wN ⟨hj2, rfl, q', l', ms', J, hSt, ⟨e1, e2⟩, rfl⟩
              have kN := hSt.below
              refine WC.seq ?_
              refine WC.seqR rfl ?_
              refine WL.y rfl (Y.move) ?_
              refine WL.y rfl (Y.move) ?_
              refine WL.y rfl (Y.lenSl Try.underlying60 (g2.bel kN) _) ?_
              refine WL.y rfl (Y.lss rfl rfl) ?_
              refine WL.nil ?_
              refine WC.condD rfl (fun h5 => ?_) (fun h5 => ?_)
              · have hjl : j < acts.length := by omega
                have hjc : j < la.length := by omega
                have hqq := g3 j hjl hjc
                obtain ⟨c, hm, hac, hx, hn⟩ := hqq
                have hqq := id hSt
                obtain ⟨MQ0, MR0, -, -, -, -, -, q1, r1⟩ := hqq
                have hl0 := q1.rg.1.1
                have hone : la[j].c = actc acts[j].1 c acts[j].2.2.1 acts[j].2.2.2 := hac
                have hlen22 : (actc acts[j].1 c acts[j].2.2.1 acts[j].2.2.2).length = 22 := by rw [← hone]; exact la[j].h
                have hcl := hm.len
                clear q1 r1
                refine WC.skip (thenQ.normal ?_)
                refine WC.seq ?_
                refine WC.block ?_
                refine WC.seqR rfl ?_
                refine WL.y rfl (Y.move) ?_
                refine WL.y rfl (Y.move) ?_
                refine WL.y rfl (Y.move) ?_
                refine WL.y rfl (Y.move) ?_
                refine WL.yex rfl (Y.idx Try.underlying60 ti69 (by decide) (g2.bel kN) rfl (by omega) (by omega)) ?_
                rintro _ ⟨b77, o77, rfl, hc77⟩
                have hc77' := elem_ac hjc hc77
                rw [hone] at hc77'
                refine WL.y rfl (Y.loadK Try.underlying69 rfl ti69 (hlen22) rfl (hc77')) ?_
                refine WL.call rfl (C.func go25) (do_ret hSt acts[j].1 acts[j].2.1 c hm acts[j].2.2.1 acts[j].2.2.2 (by omega) (by omega) hl0) ?_
                rintro _ w79 ⟨q2, l2, ms2, rfl, h79, f1, f2⟩
                refine WL.y rfl (Y.move) ?_
                refine WL.y rfl (Y.extract rfl rfl) ?_
                refine WL.y rfl (Y.extract rfl rfl) ?_
                refine WL.y rfl (Y.assign) ?_
                refine WL.y rfl (Y.assign) ?_
                refine WL.nil ?_
                refine WC.seq ?_
                have k79 := h79.below
                have hqq := id h79
                obtain ⟨MQ, MR, -, -, -, -, -, q3, r3⟩ := hqq
                have hqq := nineteen hcl
                obtain ⟨a0, a1, a2, a3, a4, a5, a6, a7, a8, a9, b0, b1, b2, b3, b4, b5, b6, b7, b8, rfl⟩ := hqq
                have hel : ∀ {b o : Nat} {w' : World}, Cells w' b o (((la.flatMap AC.c).drop ((j : Int).toNat * 22)).take 22) → w'.cell? ⟨b, o + 21, none⟩ = some (.int .i64 acts[j].2.2.2) ∧ w'.cell? ⟨b, o + 20, none⟩ = some (.int .u64 acts[j].2.2.1) := by
                  intro b o w' hc
                  have := elem_ac hjc hc
                  rw [hone] at this
                  exact ⟨this 21 _ rfl, this 20 _ rfl⟩
                refine WC.seq ?_
                refine WC.regionB (fun i => Nat.beq i 19) [(0, .any), (1, .any), (2, .any), (3, .any), (4, .any), (5, .any), (6, .any), (7, .any), (8, .any), (9, .any), (10, .any), (11, .any), (12, .any), (13, .held), (14, .any), (15, .any), (16, .any), (17, .any), (18, .held), (19, .seq), (20, .any), (21, .any)] mixed (by kernel_rfl) (fun w15 hS15 hheap => ?_)
                refine RL.any rfl rfl (fun _ => Y.move) ?_
                refine RL.any rfl rfl (fun _ => Y.bF (Y.not rfl) (rfl)) ?_
                refine RL.any rfl rfl (fun _ => Y.move) ?_
                refine RL.any rfl rfl (fun _ => Y.move) ?_
                refine RL.any rfl rfl (fun _ => Y.bF (Y.eqpn Try.underlying32 rfl rfl) (rfl)) ?_
                refine RL.any rfl rfl (fun _ => Y.pickF rfl) ?_
                refine RL.any rfl rfl (fun _ => Y.move) ?_
                refine RL.any rfl rfl (fun _ => Y.move) ?_
                refine RL.any rfl rfl (fun _ => Y.move) ?_
                refine RL.any rfl rfl (fun _ => Y.move) ?_
                refine RL.any rfl rfl (fun _ => Y.move) ?_
                refine RL.yex rfl rfl (Y.idx Try.underlying60 ti69 (by decide) (g2.bel k79) rfl (by omega) (by omega)) ?_
                rintro _ ⟨b93, o93, rfl, hc93⟩
                refine RL.any rfl rfl (fun _ => Y.fieldAddr fi69f3 ti3 (by decide) rfl (rfl) _) ?_
                refine RL.held rfl rfl hS15 (fun _ hb9 => Y.load1 Try.underlying3 rfl rfl (cell_bel (hel hc93).1 hb9)) ?_
                refine RL.any rfl rfl (fun _ => Y.move) ?_
                refine RL.any rfl rfl (fun _ => Y.move) ?_
                refine RL.yex rfl rfl (Y.idx Try.underlying60 ti69 (by decide) (g2.bel k79) rfl (by omega) (by omega)) ?_
                rintro _ ⟨b98, o98, rfl, hc98⟩
                refine RL.any rfl rfl (fun _ => Y.fieldAddr fi69f2 ti33 (by decide) rfl (rfl) _) ?_
                refine RL.held rfl rfl hS15 (fun _ hb9 => Y.load1 Try.underlying33 rfl rfl (cell_bel (hel hc98).2 hb9)) ?_
                refine RL.call rfl rfl (C.func go26) (asks_ret (q3.bel hS15) (r3.bel hS15) (Below.step k79 hS15) acts[j].2.2.2 hn acts[j].2.2.1 hx) ?_
                rintro _ w101 ⟨rfl, hb101⟩
                refine ⟨.inl rfl, ?_⟩
                refine RL.any rfl rfl (fun _ => Y.bF (Y.not rfl) (rfl)) ?_
                refine RL.any rfl rfl (fun _ => Y.pickF rfl) ?_
                refine RL.nil (thenQ.normal ?_)
                refine WC.condF (rfl) ?_
                refine WC.skip (thenQ.normal ?_)
                refine WC.region rfl ?_
                refine WL.y rfl (Y.move) ?_
                refine WL.y rfl (Y.assign) ?_
                refine WL.nil (inBlockQ.normal (thenQ.normal ?_))
                refine WC.region rfl ?_
                refine WL.y rfl (Y.move) ?_
                refine WL.y rfl (Y.add64 rfl rfl (by omega)) ?_
                refine WL.y rfl (Y.assign) ?_
                refine WL.nil (thenQ.normal ?_)
                exact ⟨j + 1, by omega, by omega, rfl, q2, l2, ms2, _, (h79.bel hS15).bel hb101, ⟨by omega, by omega⟩, ov_mk ⟨rfl, rfl, rfl, rfl, rfl, trivial⟩⟩
              · have hqq := id hSt
                obtain ⟨MQ, MR, -, -, -, -, -, q3, r3⟩ := hqq
                refine WC.exit (thenQ.exit (thenQ.exit (inBlockQ.hit (thenQ.normal ?_))))
                refine WC.seqR rfl ?_
                refine WL.y rfl (Y.move) ?_
                refine WL.y rfl (Y.move) ?_
                refine WL.y rfl (Y.move) ?_
                refine WL.call rfl (C.func go26) (asks_ret q3 r3 kN 5 (by omega) last hr) ?_
                rintro _ w108 ⟨rfl, hb108⟩
                refine WL.y rfl (Y.move) ?_
                refine WL.call rfl (C.func go16) (known_ret _) ?_
                rintro _ w110 ⟨rfl, hb110⟩
                refine WL.y rfl (Y.pickT rfl) ?_
                refine WL.y rfl (Y.assign) ?_
                refine WL.nil ?_
                refine WC.ret (endQ.one (.inr rfl) ?_)
                exact ⟨rfl, Below.step (Below.step kN hb108) hb110⟩
end Go.Proofs.Ytcbdpcehacklhaa
