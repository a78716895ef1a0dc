/-
  The laws NetPlays, NetSpoils.
-/
import Derived.Test.YtjlclaimpepgiaaNet12
namespace Go.Proofs.Ytjlclaimpepgiaa
open Go Go.RowKit Go.Cx
set_option linter.unusedVariables false
open Crc
section
variable {H : Type} {enc : TypeId × Value → H} {W : World} {b0 base : Nat} {spare : Nat → Bool} {held : Bool} {v : Value} {d : DataW H} {p : List MemPlace} {r : Reach}
theorem dec_act {n : Nat} {cs : List Value} {x : DataW H × List MemPlace} (h : DataW.trod enc Try.prog W base spare held n 55 cs = some x) (hsz : Sz Try.prog 55 x.1) :
    ∃ a : AS × Value, cs = encA a ∧ Bs W a.2 a.1.bs ∧ a.1.bs.length ≤ 140737488351232 := by
  have hl6 : cs.length = 6 := (open_len Try.underlying55 h).trans (by kernel_rfl)
  obtain ⟨c0, c1, c2, c3, c4, c5, rfl⟩ : ∃ c0 c1 c2 c3 c4 c5, cs = [c0, c1, c2, c3, c4, c5] := by
    match cs, hl6 with
    | [c0, c1, c2, c3, c4, c5], _ => exact ⟨_, _, _, _, _, _, rfl⟩
  have h1 : Try.prog.cellsOf 3 = 1 := by kernel_rfl
  have h2 : Try.prog.cellsOf 31 = 1 := by kernel_rfl
  have h3 : Try.prog.cellsOf 32 = 1 := by kernel_rfl
  have h4 : Try.prog.cellsOf 5 = 1 := by kernel_rfl
  have hqq := open_field fi55f0 h hsz
  obtain ⟨m0, y0, -, t0, -⟩ := hqq
  have hqq := open_field fi55f1 h hsz
  obtain ⟨m1, y1, -, t1, -⟩ := hqq
  have hqq := open_field fi55f2 h hsz
  obtain ⟨m2, y2, -, t2, s2⟩ := hqq
  have hqq := open_field fi55f3 h hsz
  obtain ⟨m3, y3, -, t3, -⟩ := hqq
  have hqq := open_field fi55f4 h hsz
  obtain ⟨m4, y4, -, t4, -⟩ := hqq
  have hqq := open_field fi55f5 h hsz
  obtain ⟨m5, y5, -, t5, -⟩ := hqq
  rw [h1] at t0 t3 t4
  rw [h2] at t1
  rw [h3] at t2
  rw [h4] at t5
  simp only [List.drop_zero, List.drop_succ_cons, List.take_succ_cons, List.take_zero] at t0 t1 t2 t3 t4 t5
  have hqq := DataW.trod_int Try.underlying3 t0
  obtain ⟨n0, e0, -, -⟩ := hqq
  have hqq := DataW.trod_int Try.underlying31 t1
  obtain ⟨n1, e1, -, -⟩ := hqq
  have hqq := open_bytes_in Try.underlying32 Try.underlying5 h4 (by kernel_rfl) t2 s2
  obtain ⟨v2, l2, e2, hs2, hl2⟩ := hqq
  have hqq := DataW.trod_int Try.underlying3 t3
  obtain ⟨n3, e3, -, -⟩ := hqq
  have hqq := DataW.trod_int Try.underlying3 t4
  obtain ⟨n4, e4, -, -⟩ := hqq
  have hqq := DataW.trod_int Try.underlying5 t5
  obtain ⟨n5, e5, -, w5⟩ := hqq
  simp only [List.cons.injEq, and_true] at e0 e1 e2 e3 e4 e5
  refine ⟨(⟨n0, n1, l2, n3, n4, UInt8.ofNat n5.toNat⟩, v2), ?_, hs2, hl2⟩
  rw [e0, e1, e2, e3, e4, e5, u8_of w5]
  rfl
theorem openT51 (hval : Value.okWide Try.prog W r b0 51 v) (h : DataW.Trod enc Try.prog W base spare held 51 v d p) (hsz : Sz Try.prog 51 d) :
    ∃ acts : List (AS × Value), SlK W 6 v acts.length (acts.flatMap encA) ∧ ∀ a ∈ acts, Bs W a.2 a.1.bs ∧ a.1.bs.length ≤ 140737488351232 := by
  have hqq := Go.WideShapes.okWide_slice Try.underlying51 hval
  obtain ⟨a, len, cap, rfl⟩ := hqq
  obtain ⟨fuel, hf⟩ := h
  have hqq := open_slice_of Try.underlying51 (show Try.prog.cellsOf 55 = 6 by kernel_rfl) (by decide) encA_len (fun n _ cs x hx hz => dec_act hx hz) hf hsz
  obtain ⟨v', l, e, hs, hg, -⟩ := hqq
  simp only [Value.cells, List.cons.injEq, and_true] at e
  subst e
  exact ⟨l, hs, hg⟩
end
theorem pair_of_bel {w0 w : World} {B : Nat} (hB : B = w0.heap.size) {v : Value} {l : List UInt8} {M : Nat → Prop} (hs : Bs w0 v l) (hb : Below w0.heap.size w0 w) (hM : ∀ b, M b → B ≤ b) : SlA w M 1 v l.length (l.map u8v) :=
  (SlA.of_sl hs (fun b h => hB ▸ hM b h)).bel hb
def zeroA : AS × Value := (⟨0, 0, [], 0, 0, 0⟩, .slice none 0 0)
theorem netPlays_ret (w : World) (av : Value) (acts : List (AS × Value)) (ha : SlK w 6 av acts.length (acts.flatMap encA) ∧ ∀ a ∈ acts, Bs w a.2 a.1.bs ∧ a.1.bs.length ≤ 140737488351232) :
    Ret Try.prog 6 [av].toArray w fun v w' => v = .bool true ∧ Below w.heap.size w w' := by
  obtain ⟨hs, hg⟩ := ha
  by_cases hlong : 100 < acts.length
  · skip
    refine Ret.of (n := 65) (rs := #[.tmp 2]) Try.func6 rfl rfl rfl (by simp) ?_
    refine WC.seqR rfl ?_
    refine WL.y rfl (Y.assign) ?_
    refine WL.nil ?_
    refine WC.seq ?_
    refine WC.seqR rfl ?_
    refine WL.y rfl (Y.move) ?_
    refine WL.y rfl (Y.lenSl Try.underlying51 (hs) _) ?_
    refine WL.y rfl (Y.dT (Y.gtr rfl rfl) (by omega)) ?_
    refine WL.nil ?_
    refine WC.condT (rfl) ?_
    refine WC.seqR rfl ?_
    refine WL.call rfl (C.func go9) (known_ret _) ?_
    rintro _ w11 ⟨rfl, hb11⟩
    have k11 := hb11
    refine WL.y rfl (Y.assign) ?_
    refine WL.nil ?_
    refine WC.ret (thenQ.ret (endQ.one (.inr rfl) ?_))
    exact ⟨rfl, k11⟩
  · skip
    refine Ret.of (n := 65) (rs := #[.tmp 2]) Try.func6 rfl rfl rfl (by simp) ?_
    refine WC.seqR rfl ?_
    refine WL.y rfl (Y.assign) ?_
    refine WL.nil ?_
    refine WC.seq ?_
    refine WC.seqR rfl ?_
    refine WL.y rfl (Y.move) ?_
    refine WL.y rfl (Y.lenSl Try.underlying51 (hs) _) ?_
    refine WL.y rfl (Y.dF (Y.gtr rfl rfl) (by omega)) ?_
    refine WL.nil ?_
    refine WC.condF (rfl) ?_
    refine WC.skip (thenQ.normal ?_)
    refine WC.seqR rfl ?_
    refine WL.y rfl (Y.build (cells := #[.slice none 0 0]) (by kernel_rfl) _) ?_
    refine WL.eex rfl (E.boxX) ?_
    rintro _ w13 ⟨rfl, hB13, hb13⟩
    have k13 := hb13
    refine WL.y rfl (Y.build (cells := #[.slice none 0 0]) (by kernel_rfl) _) ?_
    refine WL.eex rfl (E.boxX) ?_
    rintro _ w15 ⟨rfl, hB15, hb15⟩
    have k15 := Below.step k13 hb15
    refine WL.y rfl (Y.assign) ?_
    refine WL.y rfl (Y.assign) ?_
    refine WL.nil ?_
    refine WC.seq ?_
    refine WC.seqR rfl ?_
    refine WL.y rfl (Y.assign) ?_
    refine WL.nil ?_
    refine WC.block ?_
    have kk := k15
    have hlt13 := hB13.lt
    have h13s := hb13.size
    have hqq := pair_new (B := w.heap.size) (hB13.bel hb15) hB15 (Nat.le_refl _) h13s
    obtain ⟨M0, hP0⟩ := hqq
    refine WC.loop (fun k => acts.length - k) (fun k f ds w' => k ≤ acts.length ∧ ds = [] ∧ Below w.heap.size w w' ∧ (∃ M bn ls, f 3 = .pointer (some ⟨bn, 0, none⟩) ∧ PairAt w' M w.heap.size bn w13.heap.size ls ls ∧ ls.length ≤ k) ∧ ∃ J, f = ov J [(0, av), (2, .bool false), (4, .pointer (some ⟨w13.heap.size, 0, none⟩)), (5, .int .i64 (k : Int))]) 0 ?_ ?_
    · exact ⟨by omega, rfl, kk, ⟨M0, _, [], rfl, hP0, Nat.le_refl _⟩, _, ov_mk ⟨rfl, rfl, rfl, rfl, trivial⟩⟩
    · rintro k f _ w1 ⟨hk, rfl, hb1, ⟨M, bn, ls, hf3, hP, hls⟩, J, rfl⟩
      have hf3 : J 3 = .pointer (some ⟨bn, 0, none⟩) := hf3
      obtain ⟨J', rfl⟩ : ∃ J', J = ov J' [(3, .pointer (some ⟨bn, 0, none⟩))] := ⟨J, ov_mk ⟨hf3, trivial⟩⟩
      refine WC.seq ?_
      refine WC.seqR rfl ?_
      refine WL.y rfl (Y.move) ?_
      refine WL.y rfl (Y.move) ?_
      refine WL.y rfl (Y.lenSl Try.underlying51 (hs.bel hb1) _) ?_
      refine WL.y rfl (Y.lss rfl rfl) ?_
      refine WL.nil ?_
      refine WC.condD rfl (fun hlt => ?_) (fun hlt => ?_)
      · have hkl : k < acts.length := by omega
        have hgd : acts.getD k zeroA = acts[k] := by simp [hkl]
        have hga := hg acts[k] (List.getElem_mem hkl)
        have hsA := pair_of_bel rfl hga.1 hb1 hP.from_
        refine WC.skip (thenQ.normal ?_)
        refine WC.seq ?_
        refine WC.block ?_
        refine WC.seqR rfl ?_
        refine WL.y rfl (Y.move) ?_
        refine WL.y rfl (Y.move) ?_
        refine WL.y rfl (Y.move) ?_
        refine WL.y rfl (Y.move) ?_
        refine WL.yex rfl (Y.idxF (enc := encA) zeroA encA_len (by decide) Try.underlying51 ti55 (hs.bel hb1) rfl (by omega) (by omega)) ?_
        rintro _ ⟨b27, o27, rfl, hc27⟩
        simp only [Int.toNat_natCast, hgd] at hc27
        refine WL.y rfl (Y.loadN Try.underlying55 rfl ti55 rfl (hc27)) ?_
        refine WL.call rfl (C.func go21) (do_ret _ M w.heap.size bn w13.heap.size ls hP (by omega) acts[k] hsA (by omega)) ?_
        rintro _ w29 ⟨bn', rfl, M', hP29, hk29, hm29⟩
        refine WL.y rfl (Y.move) ?_
        refine WL.y rfl (Y.extract rfl rfl) ?_
        refine WL.y rfl (Y.extract rfl rfl) ?_
        refine WL.y rfl (Y.assign) ?_
        refine WL.y rfl (Y.assign) ?_
        refine WL.nil ?_
        refine WC.seq ?_
        refine WC.seq ?_
        have hb29 : Below w.heap.size w w29 := hb1.trans (hk29.below hP.from_ hP.low)
        refine WC.regionB (fun i => Nat.beq i 19) [(0, .any), (1, .any), (2, .any), (3, .any), (4, .any), (5, .any), (6, .any), (7, .any), (8, .any), (9, .any), (10, .any), (11, .any), (12, .any), (13, .held), (14, .any), (15, .any), (16, .any), (17, .any), (18, .held), (19, .seq), (20, .any), (21, .any)] mixed (by kernel_rfl) (fun wr8 hS8 hheap => ?_)
        have kr8 := Below.step hb29 hS8
        refine RL.any rfl rfl (fun _ => Y.move) ?_
        refine RL.any rfl rfl (fun _ => Y.not rfl) ?_
        refine RL.any rfl rfl (fun _ => Y.move) ?_
        refine RL.any rfl rfl (fun _ => Y.move) ?_
        refine RL.any rfl rfl (fun _ => Y.bF (Y.eqpn Try.underlying25 rfl rfl) (rfl)) ?_
        refine RL.any rfl rfl (fun _ => Y.pickF rfl) ?_
        refine RL.any rfl rfl (fun _ => Y.move) ?_
        refine RL.any rfl rfl (fun _ => Y.move) ?_
        refine RL.any rfl rfl (fun _ => Y.move) ?_
        refine RL.any rfl rfl (fun _ => Y.move) ?_
        refine RL.any rfl rfl (fun _ => Y.move) ?_
        refine RL.yex rfl rfl (Y.idxF (enc := encA) zeroA encA_len (by decide) Try.underlying51 ti55 (hs.bel hb29) rfl (by omega) (by omega)) ?_
        rintro _ ⟨b43, o43, rfl, hc43⟩
        simp only [Int.toNat_natCast, hgd] at hc43
        refine RL.any rfl rfl (fun _ => Y.fieldAddr fi55f3 ti3 (by decide) rfl (rfl) _) ?_
        refine RL.held rfl rfl hS8 (fun _ hb9 => Y.load1 Try.underlying3 rfl rfl ((hc43.bel hb9) 3 (.int .i64 acts[k].1.at_) rfl)) ?_
        refine RL.any rfl rfl (fun _ => Y.move) ?_
        refine RL.any rfl rfl (fun _ => Y.move) ?_
        refine RL.yex rfl rfl (Y.idxF (enc := encA) zeroA encA_len (by decide) Try.underlying51 ti55 (hs.bel hb29) rfl (by omega) (by omega)) ?_
        rintro _ ⟨b48, o48, rfl, hc48⟩
        simp only [Int.toNat_natCast, hgd] at hc48
        refine RL.any rfl rfl (fun _ => Y.fieldAddr fi55f1 ti31 (by decide) rfl (rfl) _) ?_
        refine RL.held rfl rfl hS8 (fun _ hb9 => Y.load1 Try.underlying31 rfl rfl ((hc48.bel hb9) 1 (.int .u64 acts[k].1.to) rfl)) ?_
        refine RL.call rfl rfl (C.func go22) (asks_ret _ M' w.heap.size bn' w13.heap.size _ (hP29.bel hS8) acts[k].1.at_ acts[k].1.to) ?_
        rintro _ w51 ⟨rfl, hb51⟩
        refine ⟨.inl rfl, ?_⟩
        have k51 := Below.step kr8 hb51
        refine RL.any rfl rfl (fun _ => Y.not rfl) ?_
        refine RL.any rfl rfl (fun _ => Y.pickF rfl) ?_
        refine RL.nil (thenQ.normal ?_)
        refine WC.condF (rfl) ?_
        refine WC.skip (thenQ.normal ?_)
        refine WC.region rfl ?_
        refine WL.y rfl (Y.move) ?_
        refine WL.y rfl (Y.assign) ?_
        refine WL.nil (inBlockQ.normal (thenQ.normal ?_))
        refine WC.region rfl ?_
        refine WL.y rfl (Y.move) ?_
        refine WL.y rfl (Y.add64 rfl rfl (by omega)) ?_
        refine WL.y rfl (Y.assign) ?_
        refine WL.nil (thenQ.normal ?_)
        exact ⟨k + 1, by omega, by omega, rfl, k51, ⟨M', bn', _, rfl, (hP29.bel hS8).bel hb51, by have := doS_len acts[k].1 ls; omega⟩, _, ov_mk ⟨rfl, rfl, rfl, rfl, trivial⟩⟩
      · have hqq := hP.refM
        obtain ⟨vR, psR, hBR, hSR, hmR, hlR⟩ := hqq
        refine WC.exit (thenQ.exit (thenQ.exit (inBlockQ.hit (thenQ.normal ?_))))
        refine WC.seq ?_
        refine WC.regionB (fun i => Nat.beq i 6 || Nat.beq i 8) [(0, .any), (2, .any), (3, .any), (4, .any), (5, .held), (1, .seq), (6, .seq), (7, .any), (8, .seq), (9, .any), (10, .any)] mixed (by kernel_rfl) (fun wr11 hS11 hheap => ?_)
        have kr11 := Below.step hb1 hS11
        refine RL.any rfl rfl (fun _ => Y.move) ?_
        refine RL.any rfl rfl (fun _ => Y.move) ?_
        refine RL.any rfl rfl (fun _ => Y.nilCheck rfl) ?_
        refine RL.any rfl rfl (fun _ => Y.fieldAddr fi46f0 ti26 (by decide) rfl (rfl) _) ?_
        refine RL.held rfl rfl hS11 (fun _ hb9 => Y.load1 Try.underlying26 rfl rfl (cell_bel hBR.one hb9)) ?_
        refine RL.call rfl rfl (C.func go12) (pall (hP.bel hS11) (by omega)) ?_
        rintro v56 w56 ⟨⟨qs, hs56, hm56, hq56⟩, hb56⟩
        refine ⟨.inr (fun h => Below.step h hb56), ?_⟩
        have k56 := Below.step kr11 hb56
        refine RL.call rfl rfl (C.func go20) ((sameL_ret _ v56 vR qs psR hs56 ((hSR.sl.bel hS11).bel hb56) hq56 (fun k hk => (((lts_of_getD hlR) k hk).bel hS11).bel hb56)).yes (hm56.trans hmR.symm)) ?_
        rintro _ w61 ⟨rfl, hb61⟩
        refine ⟨.inl rfl, ?_⟩
        have k61 := Below.step k56 hb61
        refine RL.any rfl rfl (fun _ => Y.move) ?_
        refine RL.call rfl rfl (C.func go9) (known_ret _) ?_
        rintro _ w63 ⟨rfl, hb63⟩
        refine ⟨.inl rfl, ?_⟩
        have k63 := Below.step k61 hb63
        refine RL.any rfl rfl (fun _ => Y.pickT rfl) ?_
        refine RL.any rfl rfl (fun _ => Y.assign) ?_
        refine RL.nil (thenQ.normal ?_)
        refine WC.ret (endQ.one (.inr rfl) ?_)
        exact ⟨rfl, k63⟩
end Go.Proofs.Ytjlclaimpepgiaa
