/-
  The law NetTells.
-/
import Derived.Test.YtjlclaimpepgiaaNet14
namespace Go.Proofs.Ytjlclaimpepgiaa
open Go Go.RowKit Go.Cx
set_option linter.unusedVariables false
open Crc
theorem wrap64_nonneg (a : Int) : 0 ≤ IntKind.u64.wrap a := by
  simp only [IntKind.wrap, IntKind.signed, IntKind.bits, Bool.false_and, Bool.false_eq_true, if_false]
  exact Int.emod_nonneg _ (by decide)
theorem Y.conviE {P : Program} {f : Fr} {w : World} {d : Option Tmp} {ty : TypeId} {pos : String} {aft : Array Edge} {g : Option (Nat × Bool)} {x : Operand} {xt yt : TypeId} {k k' : IntKind} {a b : Int} {ds : TypeDesc} (hs : P.underlying xt = some ds) (ht : P.underlying yt = some (.int k')) (hx : ev f x = .int k a) (he : a = b) (h : k'.min ≤ b ∧ b ≤ k'.max) : Y P ⟨d, .convert xt yt x, ty, pos, aft, g⟩ f w (.int k' b) := by
  subst he
  exact Y.conviR hs ht hx h
set_option maxRecDepth 100000 in
set_option maxHeartbeats 1000000 in
theorem netTells_ret (w : World) (n1 : Int) (hn1 : (Lit.int .u8 n1).wf = true) (bv : Value) (l : List UInt8) (hs : Bs w bv l) (hl : l.length ≤ 140737488351232) (at' : Int) (hat : (Lit.int .i64 at').wf = true) (n2 : Int) (hn2 : (Lit.int .u8 n2).wf = true) :
    Ret Try.prog 8 [.int .u8 n1, bv, .int .i64 at', .int .u8 n2].toArray w fun v w' => v = .bool true ∧ Below w.heap.size w w' := by
  rw [u8_of hn1, u8_of hn2]
  generalize UInt8.ofNat n1.toNat = k
  generalize UInt8.ofNat n2.toNat = m
  by_cases hk : k = 0
  · subst hk
    refine Ret.of (n := 162) (rs := #[.tmp 8]) Try.func8 rfl rfl rfl (by simp) ?_
    refine WC.seqR rfl ?_
    refine WL.y rfl (Y.assign) ?_
    refine WL.nil ?_
    refine WC.seq ?_
    refine WC.seqR rfl ?_
    refine WL.y rfl (Y.move) ?_
    refine WL.y rfl (Y.dT (Y.eqi rfl rfl) (by simp)) ?_
    refine WL.y rfl (Y.move) ?_
    refine WL.off rfl ?_
    refine WL.off rfl ?_
    refine WL.y rfl (Y.pickT rfl) ?_
    refine WL.nil ?_
    refine WC.condT (rfl) ?_
    refine WC.seqR rfl ?_
    refine WL.call rfl (C.func go9) (known_ret _) ?_
    rintro _ w37 ⟨rfl, hb37⟩
    have k37 := hb37
    refine WL.y rfl (Y.assign) ?_
    refine WL.nil ?_
    refine WC.ret (thenQ.ret (endQ.one (.inr rfl) ?_))
    exact ⟨rfl, k37⟩
  · have hk' := u8_ne hk
    by_cases hm : m = 0
    · subst hm
      refine Ret.of (n := 162) (rs := #[.tmp 8]) Try.func8 rfl rfl rfl (by simp) ?_
      refine WC.seqR rfl ?_
      refine WL.y rfl (Y.assign) ?_
      refine WL.nil ?_
      refine WC.seq ?_
      refine WC.seqR rfl ?_
      refine WL.y rfl (Y.move) ?_
      refine WL.y rfl (Y.dF (Y.eqi rfl rfl) (by omega)) ?_
      refine WL.y rfl (Y.move) ?_
      refine WL.y rfl (Y.move) ?_
      refine WL.y rfl (Y.dT (Y.eqi rfl rfl) (by simp)) ?_
      refine WL.y rfl (Y.pickF rfl) ?_
      refine WL.nil ?_
      refine WC.condT (rfl) ?_
      refine WC.seqR rfl ?_
      refine WL.call rfl (C.func go9) (known_ret _) ?_
      rintro _ w37 ⟨rfl, hb37⟩
      have k37 := hb37
      refine WL.y rfl (Y.assign) ?_
      refine WL.nil ?_
      refine WC.ret (thenQ.ret (endQ.one (.inr rfl) ?_))
      exact ⟨rfl, k37⟩
    · have hm' := u8_ne hm
      have hop := openOf_frame hk l
      have hsl : (sealed (k :: l)).length = l.length + 5 := by rw [sealed_len, List.length_cons]
      have hw := wrap64_nonneg at'
      have hmod1 := Int.emod_nonneg (IntKind.u64.wrap at') (b := ((sealed (k :: l)).length : Int)) (by omega)
      have hmod2 := Int.emod_lt_of_pos (IntKind.u64.wrap at') (b := ((sealed (k :: l)).length : Int)) (by omega)
      obtain ⟨j, hj⟩ : ∃ j : Nat, IntKind.u64.wrap at' % ((sealed (k :: l)).length : Int) = (j : Int) := ⟨_, (Int.toNat_of_nonneg hmod1).symm⟩
      have hjl : j < (sealed (k :: l)).length := by omega
      have hos := openOf_spo k l j hjl m hm
      have hsp := spoilOf_in (l := sealed (k :: l)) m hjl hm
      have hsp2 := spoilOf_in (l := spo (sealed (k :: l)) j m) m (by rw [spo_len]; exact hjl) hm
      generalize hX : spo (sealed (k :: l)) j m = X at *
      have hXl : X.length = l.length + 5 := by rw [← hX, spo_len, hsl]
      generalize hS : sealed (k :: l) = S at *
      generalize spo X j m = X2 at *
      refine Ret.of (n := 162) (rs := #[.tmp 8]) Try.func8 rfl rfl rfl (by simp) ?_
      refine WC.seqR rfl ?_
      refine WL.y rfl (Y.assign) ?_
      refine WL.nil ?_
      refine WC.seq ?_
      refine WC.seqR rfl ?_
      refine WL.y rfl (Y.move) ?_
      refine WL.y rfl (Y.dF (Y.eqi rfl rfl) (by omega)) ?_
      refine WL.y rfl (Y.move) ?_
      refine WL.y rfl (Y.move) ?_
      refine WL.y rfl (Y.dF (Y.eqi rfl rfl) (by omega)) ?_
      refine WL.y rfl (Y.pickF rfl) ?_
      refine WL.nil ?_
      refine WC.condF (rfl) ?_
      refine WC.skip (thenQ.normal ?_)
      refine WC.seqR rfl ?_
      refine WL.y rfl (Y.move) ?_
      refine WL.y rfl (Y.move) ?_
      refine WL.call rfl (C.func go13) (rown_ret bv l _ (hs.bel (Below.refl _ _)) (by omega)) ?_
      rintro v41 w41 ⟨ho41, hb41⟩
      have k41 := hb41
      refine WL.call rfl (C.func go27) (frame_is hk _ v41 l ho41.bs (by omega)) ?_
      rintro _ w42 ⟨⟨x42, rfl, ho42⟩, hb42⟩
      have k42 := Below.step k41 hb42
      rw [hS] at ho42
      refine WL.y rfl (Y.move) ?_
      refine WL.y rfl (Y.extract rfl rfl) ?_
      refine WL.y rfl (Y.extract rfl rfl) ?_
      refine WL.y rfl (Y.assign) ?_
      refine WL.y rfl (Y.assign) ?_
      refine WL.nil ?_
      refine WC.seq ?_
      refine WC.seqR rfl ?_
      refine WL.y rfl (Y.move) ?_
      refine WL.y rfl (Y.dF (Y.nei rfl rfl) (by omega)) ?_
      refine WL.y rfl (Y.move) ?_
      refine WL.y rfl (Y.move) ?_
      refine WL.y rfl (Y.lenSl Try.underlying32 (ho42.bs) _) ?_
      refine WL.y rfl (Y.dF (Y.eqi rfl rfl) (by omega)) ?_
      refine WL.y rfl (Y.pickF rfl) ?_
      refine WL.nil ?_
      refine WC.condF (rfl) ?_
      refine WC.skip (thenQ.normal ?_)
      refine WC.seqR rfl ?_
      refine WL.y rfl (Y.build (cells := #[.slice none 0 0]) (by kernel_rfl) _) ?_
      refine WL.eex rfl (E.boxX) ?_
      rintro _ w53 ⟨rfl, hB53, hb53⟩
      have k53 := Below.step k42 hb53
      have hN53 : NetOf w53 w.heap.size w42.heap.size [] := netOf_new hB53 k42.size
      refine WL.y rfl (Y.assign) ?_
      refine WL.nil ?_
      refine WC.seqR rfl ?_
      refine WL.y rfl (Y.move) ?_
      refine WL.y rfl (Y.move) ?_
      refine WL.call rfl (C.func go10) (osend hN53 (by simp) 3 x42 S (ho42.bs.bel hb53) (by omega)) ?_
      rintro _ w56 ⟨rfl, ⟨f56, hN56⟩, hq56⟩
      have k56 := k53.trans hq56
      refine WL.nil ?_
      refine WC.seqR rfl ?_
      refine WL.y rfl (Y.move) ?_
      refine WL.call rfl (C.func go14) (odouble_in hN56 (by simp) 0 (by simp)) ?_
      rintro _ w58 ⟨rfl, hN58, hq58⟩
      have k58 := k56.trans hq58
      refine WL.nil ?_
      refine WC.seqR rfl ?_
      refine WL.y rfl (Y.move) ?_
      refine WL.y rfl (Y.convi Try.underlying3 Try.underlying64 rfl) ?_
      refine WL.y rfl (Y.move) ?_
      refine WL.y rfl (Y.lenSl Try.underlying32 (ho42.bs) _) ?_
      refine WL.y rfl (Y.conviR Try.underlying3 Try.underlying64 rfl (by simp only [IntKind.min, IntKind.max, IntKind.signed, IntKind.bits]; omega)) ?_
      refine WL.y rfl (Y.rem rfl rfl (by omega) (by omega)) ?_
      refine WL.y rfl (Y.conviE Try.underlying64 Try.underlying3 rfl hj (by simp only [IntKind.min, IntKind.max, IntKind.signed, IntKind.bits]; omega)) ?_
      refine WL.y rfl (Y.assign) ?_
      refine WL.nil ?_
      refine WC.seqR rfl ?_
      refine WL.y rfl (Y.move) ?_
      refine WL.y rfl (Y.move) ?_
      refine WL.y rfl (Y.move) ?_
      refine WL.call rfl (C.func go16) (ospoil_ok hN58 0 (by simp) rfl (j : Int) m hsp) ?_
      rintro _ w69 ⟨rfl, ⟨f69, hN69⟩, hq69⟩
      have k69 := k58.trans hq69
      refine WL.y rfl (Y.assign) ?_
      refine WL.nil ?_
      refine WC.seqR rfl ?_
      refine WL.y rfl (Y.move) ?_
      refine WL.call rfl (C.func go14) (odouble_in hN69 (by simp) 0 (by simp)) ?_
      rintro _ w71 ⟨rfl, hN71, hq71⟩
      have k71 := k69.trans hq71
      refine WL.y rfl (Y.assign) ?_
      refine WL.nil ?_
      refine WC.seqR rfl ?_
      refine WL.y rfl (Y.move) ?_
      refine WL.y rfl (Y.move) ?_
      refine WL.y rfl (Y.move) ?_
      refine WL.call rfl (C.func go16) (ospoil_spoilt hN71 2 (by simp) rfl (j : Int) m hsp2) ?_
      rintro _ w75 ⟨rfl, hb75⟩
      have k75 := Below.step k71 hb75
      refine WL.y rfl (Y.assign) ?_
      refine WL.nil ?_
      refine WC.seqR rfl ?_
      refine WL.y rfl (Y.move) ?_
      refine WL.call rfl (C.func go15) (oat_in (hN71.bel hb75) 0 (by simp)) ?_
      rintro _ w78 ⟨⟨f78, rfl, ho78⟩, hb78⟩
      have k78 := Below.step k75 hb78
      refine WL.y rfl (Y.move) ?_
      refine WL.y rfl (Y.extract rfl rfl) ?_
      refine WL.y rfl (Y.extract rfl rfl) ?_
      refine WL.eex rfl (E.allocX ti36) ?_
      rintro _ w16 ⟨rfl, hB16, hb16⟩
      have k16 := Below.step k78 hb16
      refine WL.eex rfl (E.storeAll (us := encL (⟨3, X, true⟩, f78)) ti36 rfl rfl (one_enc ho78.bs.one) hB16 rfl) ?_
      rintro _ w16b ⟨hB16b, hg16⟩
      have hb16b := bel_new hb16 hg16
      have k16b := Below.step k78 hb16b
      refine WL.y rfl (Y.assign) ?_
      refine WL.nil ?_
      refine WC.seqR rfl ?_
      refine WL.y rfl (Y.move) ?_
      refine WL.call rfl (C.func go15) (oat_in (((hN71.bel hb75).bel hb78).bel hb16b) 1 (by simp)) ?_
      rintro _ w83 ⟨⟨f83, rfl, ho83⟩, hb83⟩
      have k83 := Below.step k16b hb83
      refine WL.y rfl (Y.move) ?_
      refine WL.y rfl (Y.extract rfl rfl) ?_
      refine WL.y rfl (Y.extract rfl rfl) ?_
      refine WL.eex rfl (E.allocX ti36) ?_
      rintro _ w18 ⟨rfl, hB18, hb18⟩
      have k18 := Below.step k83 hb18
      refine WL.eex rfl (E.storeAll (us := encL (⟨3, S, false⟩, f83)) ti36 rfl rfl (one_enc ho83.bs.one) hB18 rfl) ?_
      rintro _ w18b ⟨hB18b, hg18⟩
      have hb18b := bel_new hb18 hg18
      have k18b := Below.step k83 hb18b
      refine WL.y rfl (Y.assign) ?_
      refine WL.nil ?_
      refine WC.seqR rfl ?_
      refine WL.y rfl (Y.move) ?_
      refine WL.call rfl (C.func go15) (oat_in (((((hN71.bel hb75).bel hb78).bel hb16b).bel hb83).bel hb18b) 2 (by simp)) ?_
      rintro _ w88 ⟨⟨f88, rfl, ho88⟩, hb88⟩
      have k88 := Below.step k18b hb88
      refine WL.y rfl (Y.move) ?_
      refine WL.y rfl (Y.extract rfl rfl) ?_
      refine WL.y rfl (Y.extract rfl rfl) ?_
      refine WL.eex rfl (E.allocX ti36) ?_
      rintro _ w20 ⟨rfl, hB20, hb20⟩
      have k20 := Below.step k88 hb20
      refine WL.eex rfl (E.storeAll (us := encL (⟨3, X, true⟩, f88)) ti36 rfl rfl (one_enc ho88.bs.one) hB20 rfl) ?_
      rintro _ w20b ⟨hB20b, hg20⟩
      have hb20b := bel_new hb20 hg20
      have k20b := Below.step k88 hb20b
      have hx := (((hB16b.bel hb83).bel hb18b).bel hb88).bel hb20b
      have hy := (hB18b.bel hb88).bel hb20b
      have ox := ((((ho78.bel hb16b).bel hb83).bel hb18b).bel hb88).bel hb20b
      have oy := ((ho83.bel hb18b).bel hb88).bel hb20b
      have oz := ho88.bel hb20b
      refine WL.y rfl (Y.assign) ?_
      refine WL.nil ?_
      refine WC.seqR rfl ?_
      refine WL.y rfl (Y.fieldAddr fi36f1 ti32 (by decide) rfl (rfl) _) ?_
      refine WL.y rfl (Y.load1 Try.underlying32 rfl rfl ((show _ = some f78 from (hx.cell 1).trans rfl))) ?_
      refine WL.call rfl (C.func go28) (open_is _ f78 X ox.bs (by omega) hos) ?_
      rintro _ w94 ⟨⟨x94, rfl, -, -⟩, hb94⟩
      have k94 := Below.step k20b hb94
      refine WL.y rfl (Y.move) ?_
      refine WL.y rfl (Y.extract rfl rfl) ?_
      refine WL.y rfl (Y.extract rfl rfl) ?_
      refine WL.y rfl (Y.extract rfl rfl) ?_
      refine WL.y rfl (Y.assign) ?_
      refine WL.y rfl (Y.assign) ?_
      refine WL.y rfl (Y.assign) ?_
      refine WL.nil ?_
      refine WC.seqR rfl ?_
      refine WL.y rfl (Y.fieldAddr fi36f1 ti32 (by decide) rfl (rfl) _) ?_
      refine WL.y rfl (Y.load1 Try.underlying32 rfl rfl ((show _ = some f83 from ((hy.bel hb94).cell 1).trans rfl))) ?_
      refine WL.call rfl (C.func go28) (open_is _ f83 S (oy.bel hb94).bs (by omega) hop) ?_
      rintro _ w101 ⟨⟨x101, rfl, -, ho101⟩, hb101⟩
      have k101 := Below.step k94 hb101
      refine WL.y rfl (Y.move) ?_
      refine WL.y rfl (Y.extract rfl rfl) ?_
      refine WL.y rfl (Y.extract rfl rfl) ?_
      refine WL.y rfl (Y.extract rfl rfl) ?_
      refine WL.y rfl (Y.assign) ?_
      refine WL.y rfl (Y.assign) ?_
      refine WL.y rfl (Y.assign) ?_
      refine WL.nil ?_
      refine WC.seqR rfl ?_
      refine WL.y rfl (Y.fieldAddr fi36f1 ti32 (by decide) rfl (rfl) _) ?_
      refine WL.y rfl (Y.load1 Try.underlying32 rfl rfl ((show _ = some f88 from (((hB20b.bel hb94).bel hb101).cell 1).trans rfl))) ?_
      refine WL.call rfl (C.func go28) (open_is _ f88 X ((oz.bel hb94).bel hb101).bs (by omega) hos) ?_
      rintro _ w108 ⟨⟨x108, rfl, -, -⟩, hb108⟩
      have k108 := Below.step k101 hb108
      have hx2 := ((hx.bel hb94).bel hb101).bel hb108
      have hy2 := ((hy.bel hb94).bel hb101).bel hb108
      have hz2 := ((hB20b.bel hb94).bel hb101).bel hb108
      refine WL.y rfl (Y.move) ?_
      refine WL.y rfl (Y.extract rfl rfl) ?_
      refine WL.y rfl (Y.extract rfl rfl) ?_
      refine WL.y rfl (Y.extract rfl rfl) ?_
      refine WL.y rfl (Y.assign) ?_
      refine WL.y rfl (Y.assign) ?_
      refine WL.y rfl (Y.assign) ?_
      refine WL.nil ?_
      refine WC.seqR rfl ?_
      refine WL.y rfl (Y.move) ?_
      refine WL.y rfl (Y.dT (Y.eqi rfl rfl) (by omega)) ?_
      refine WL.y rfl (Y.move) ?_
      refine WL.y rfl (Y.move) ?_
      refine WL.y rfl (Y.dT (Y.eqi rfl rfl) (by omega)) ?_
      refine WL.y rfl (Y.pickT rfl) ?_
      refine WL.y rfl (Y.move) ?_
      refine WL.y rfl (Y.move) ?_
      refine WL.y rfl (Y.dT (Y.eqi rfl rfl) (by omega)) ?_
      refine WL.y rfl (Y.pickT rfl) ?_
      refine WL.y rfl (Y.move) ?_
      refine WL.y rfl (Y.fieldAddr fi36f2 ti4 (by decide) rfl (rfl) _) ?_
      refine WL.y rfl (Y.load1 Try.underlying4 rfl rfl ((show _ = some (Value.bool true) from (hx2.cell 2).trans rfl))) ?_
      refine WL.y rfl (Y.pickT rfl) ?_
      refine WL.y rfl (Y.move) ?_
      refine WL.y rfl (Y.fieldAddr fi36f2 ti4 (by decide) rfl (rfl) _) ?_
      refine WL.y rfl (Y.load1 Try.underlying4 rfl rfl ((show _ = some (Value.bool false) from (hy2.cell 2).trans rfl))) ?_
      refine WL.y rfl (Y.not rfl) ?_
      refine WL.y rfl (Y.pickT rfl) ?_
      refine WL.y rfl (Y.move) ?_
      refine WL.y rfl (Y.fieldAddr fi36f2 ti4 (by decide) rfl (rfl) _) ?_
      refine WL.y rfl (Y.load1 Try.underlying4 rfl rfl ((show _ = some (Value.bool true) from (hz2.cell 2).trans rfl))) ?_
      refine WL.y rfl (Y.pickT rfl) ?_
      refine WL.y rfl (Y.move) ?_
      refine WL.y rfl (Y.move) ?_
      refine WL.y rfl (Y.dT (Y.eqi rfl rfl) (by omega)) ?_
      refine WL.y rfl (Y.pickT rfl) ?_
      refine WL.y rfl (Y.move) ?_
      refine WL.y rfl (Y.move) ?_
      refine WL.y rfl (Y.dT (Y.eqi rfl rfl) (by omega)) ?_
      refine WL.y rfl (Y.pickT rfl) ?_
      refine WL.y rfl (Y.move) ?_
      refine WL.y rfl (Y.move) ?_
      refine WL.y rfl (Y.move) ?_
      refine WL.y rfl (Y.dT (Y.eqi rfl rfl) (by omega)) ?_
      refine WL.y rfl (Y.pickT rfl) ?_
      refine WL.y rfl (Y.move) ?_
      refine WL.y rfl (Y.move) ?_
      refine WL.y rfl (Y.b2s Try.underlying32 Try.underlying5 Try.underlying9 (ho101.bel hb108).bs) ?_
      refine WL.y rfl (Y.move) ?_
      refine WL.y rfl (Y.b2s Try.underlying32 Try.underlying5 Try.underlying9 (hs.bel k108)) ?_
      refine WL.y rfl (Y.dT (Y.eqS rfl rfl) rfl) ?_
      refine WL.y rfl (Y.pickT rfl) ?_
      refine WL.y rfl (Y.move) ?_
      refine WL.y rfl (Y.move) ?_
      refine WL.y rfl (Y.dT (Y.eqi rfl rfl) (by omega)) ?_
      refine WL.y rfl (Y.pickT rfl) ?_
      refine WL.y rfl (Y.move) ?_
      refine WL.call rfl (C.func go9) (known_ret _) ?_
      rintro _ w160 ⟨rfl, hb160⟩
      have k160 := Below.step k108 hb160
      refine WL.y rfl (Y.pickT rfl) ?_
      refine WL.y rfl (Y.assign) ?_
      refine WL.nil ?_
      refine WC.ret (endQ.one (.inr rfl) ?_)
      exact ⟨rfl, k160⟩
end Go.Proofs.Ytjlclaimpepgiaa
