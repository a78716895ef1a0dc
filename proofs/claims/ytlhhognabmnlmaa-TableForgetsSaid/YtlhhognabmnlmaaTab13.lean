/-
  law20: TableNotes: walk.
-/
import Derived.Test.YtlhhognabmnlmaaTab12
import Derived.Test.YtlhhognabmnlmaaTabO
namespace Go.Proofs.Ytlhhognabmnlmaa
open Go Go.RowKit Go.Cx
set_option linter.unusedVariables false
set_option maxHeartbeats 8000000
theorem putL_good {L : List Nt} {n : Nt} (h : Good L) : Good (putL L n) := by
  unfold putL
  split
  · rename_i e; exact (h.note e).1
  · exact h
theorem putL_len {L : List Nt} {n : Nt} : (putL L n).length ≤ L.length + 1 := by
  unfold putL
  split
  · simp
  · omega
theorem st_zero {B : Nat} {w w1 w2 w' : World} {bt br : Nat} (hb : B ≤ bt) (hr : bt < br) (hT : Blk w' bt 27 [.map none, .slice none 0 0, .int .u64 0, .int .u64 0]) (hR : Blk w' br 47 [.slice none 0 0, .int .u64 0]) : St (fun _ => False) B w' bt [] 0 br [] 0 :=
  ⟨fun x => x = bt, tab_zero hT, ref_zero (fun h => h.elim (fun h => by omega) id) hR, fun x hx => by subst hx; exact ⟨hb, hT.lt, id⟩, by omega, fun x h => h.elim, by have := hT.lt; omega⟩
theorem tableNotes_ret (w : World) (a : Value) (na : Nt) (ha : NArg w na a) (b : Value) (nb : Nt) (hb : NArg w nb b) : Ret Try.prog 4 [a, b].toArray w fun v w' => v = .bool true ∧ Below w.heap.size w w' := by
  obtain ⟨rfl, hua⟩ := ha
  obtain ⟨rfl, hub⟩ := hb
  refine Ret.of (n := 72) (rs := #[.tmp 4]) Try.func4 rfl rfl rfl (by simp) ?_
  refine WC.seqR rfl ?_
  refine WL.eex rfl (E.boxX) ?_
  rintro _ w2 ⟨rfl, hB2, hb2⟩
  refine WL.eex rfl (E.boxX) ?_
  rintro _ w3 ⟨rfl, hB3, hb3⟩
  refine WL.y rfl (Y.assign) ?_
  refine WL.nil ?_
  have hA := (show Blk w2 w.heap.size 43 (nt3 na) from hB2).bel hb3
  have hC : Blk w3 w2.heap.size 43 (nt3 nb) := hB3
  have k3 := Below.step hb2 hb3
  have s3 := k3.size
  clear hB2 hB3
  refine WC.seqR rfl ?_
  refine WL.y rfl (Y.build (cells := #[.map none, .slice none 0 0, .int .u64 0, .int .u64 0]) (by kernel_rfl) _) ?_
  refine WL.eex rfl (E.boxX) ?_
  rintro _ w10 ⟨rfl, hB10, hb10⟩
  refine WL.y rfl (Y.build (cells := #[.slice none 0 0, .int .u64 0]) (by kernel_rfl) _) ?_
  refine WL.eex rfl (E.boxX) ?_
  rintro _ w12 ⟨rfl, hB12, hb12⟩
  refine WL.y rfl (Y.assign) ?_
  refine WL.y rfl (Y.assign) ?_
  refine WL.nil ?_
  have s10 := hb10.size
  have h0 : St (fun _ => False) w3.heap.size w12 w3.heap.size [] 0 w10.heap.size [] 0 := st_zero (w := w) (w1 := w) (w2 := w) (Nat.le_refl _) (show Blk w10 w3.heap.size 27 [.map none, .slice none 0 0, .int .u64 0, .int .u64 0] from hB10).lt ((show Blk w10 w3.heap.size 27 [.map none, .slice none 0 0, .int .u64 0, .int .u64 0] from hB10).bel hb12) hB12
  have k12 : Below w3.heap.size w3 w12 := Below.step hb10 hb12
  have s12 := k12.size
  have ga := putL_good (n := na) Good.nil
  have gb := putL_good (n := nb) ga
  have la : (putL [] na).length ≤ 1 := putL_len
  have lb := putL_len (L := putL [] na) (n := nb)
  clear hB10 hB12
  refine WC.seqR rfl ?_
  refine WL.y rfl (Y.move) ?_
  refine WL.y rfl (Y.fieldAddr fi43f0 ti22 (by decide) rfl (rfl) _) ?_
  refine WL.y rfl (Y.load1 Try.underlying22 rfl rfl ((hA.bel k12).cell 0)) ?_
  refine WL.y rfl (Y.fieldAddr fi43f1 ti22 (by decide) rfl (rfl) _) ?_
  refine WL.y rfl (Y.load1 Try.underlying22 rfl rfl ((hA.bel k12).cell 1)) ?_
  refine WL.y rfl (Y.fieldAddr fi43f2 ti22 (by decide) rfl (rfl) _) ?_
  refine WL.y rfl (Y.load1 Try.underlying22 rfl rfl ((hA.bel k12).cell 2)) ?_
  refine WL.call rfl (C.func go12) (h0.note na hua.1 hua.2.1 hua.2.2 Good.nil (by simp)) ?_
  rintro _ w20 ⟨rfl, h20, q20⟩
  have k20 := k12.trans (q20.below (fun x h => h.1) s12)
  have s20 := k20.size
  refine WL.y rfl (Y.assign) ?_
  refine WL.nil ?_
  refine WC.seqR rfl ?_
  refine WL.y rfl (Y.move) ?_
  refine WL.y rfl (Y.fieldAddr fi43f0 ti22 (by decide) rfl (rfl) _) ?_
  refine WL.y rfl (Y.load1 Try.underlying22 rfl rfl ((hC.bel k20).cell 0)) ?_
  refine WL.y rfl (Y.fieldAddr fi43f1 ti22 (by decide) rfl (rfl) _) ?_
  refine WL.y rfl (Y.load1 Try.underlying22 rfl rfl ((hC.bel k20).cell 1)) ?_
  refine WL.y rfl (Y.fieldAddr fi43f2 ti22 (by decide) rfl (rfl) _) ?_
  refine WL.y rfl (Y.load1 Try.underlying22 rfl rfl ((hC.bel k20).cell 2)) ?_
  refine WL.call rfl (C.func go12) (h20.note nb hub.1 hub.2.1 hub.2.2 ga (by omega)) ?_
  rintro _ w28 ⟨rfl, h28, q28⟩
  have k28 := k20.trans (q28.below (fun x h => h.1) s20)
  have s28 := k28.size
  refine WL.y rfl (Y.assign) ?_
  refine WL.nil ?_
  refine WC.seqR rfl ?_
  refine WL.y rfl (Y.move) ?_
  refine WL.y rfl (Y.move) ?_
  refine WL.y rfl (Y.fieldAddr fi43f0 ti22 (by decide) rfl (rfl) _) ?_
  refine WL.y rfl (Y.load1 Try.underlying22 rfl rfl ((hA.bel k28).cell 0)) ?_
  refine WL.y rfl (Y.fieldAddr fi43f1 ti22 (by decide) rfl (rfl) _) ?_
  refine WL.y rfl (Y.load1 Try.underlying22 rfl rfl ((hA.bel k28).cell 1)) ?_
  refine WL.y rfl (Y.fieldAddr fi43f2 ti22 (by decide) rfl (rfl) _) ?_
  refine WL.y rfl (Y.load1 Try.underlying22 rfl rfl ((hA.bel k28).cell 2)) ?_
  refine WL.call rfl (C.func go18) (h28.rnote na hua.1 hua.2.1 hua.2.2 Good.nil (by simp)) ?_
  rintro _ w37 ⟨rfl, h37, q37⟩
  have k37 := k28.trans (q37.below (fun x h => h.1) s28)
  have s37 := k37.size
  refine WL.y rfl (Y.dT (Y.eqi rfl rfl) (by omega)) ?_
  refine WL.y rfl (Y.move) ?_
  refine WL.y rfl (Y.move) ?_
  refine WL.y rfl (Y.move) ?_
  refine WL.y rfl (Y.fieldAddr fi43f0 ti22 (by decide) rfl (rfl) _) ?_
  refine WL.y rfl (Y.load1 Try.underlying22 rfl rfl ((hC.bel k37).cell 0)) ?_
  refine WL.y rfl (Y.fieldAddr fi43f1 ti22 (by decide) rfl (rfl) _) ?_
  refine WL.y rfl (Y.load1 Try.underlying22 rfl rfl ((hC.bel k37).cell 1)) ?_
  refine WL.y rfl (Y.fieldAddr fi43f2 ti22 (by decide) rfl (rfl) _) ?_
  refine WL.y rfl (Y.load1 Try.underlying22 rfl rfl ((hC.bel k37).cell 2)) ?_
  refine WL.call rfl (C.func go18) (h37.rnote nb hub.1 hub.2.1 hub.2.2 ga (by omega)) ?_
  rintro _ w48 ⟨rfl, h48, q48⟩
  have k48 := k37.trans (q48.below (fun x h => h.1) s37)
  have s48 := k48.size
  refine WL.y rfl (Y.dT (Y.eqi rfl rfl) (by omega)) ?_
  refine WL.y rfl (Y.pickT rfl) ?_
  refine WL.y rfl (Y.move) ?_
  refine WL.y rfl (Y.move) ?_
  refine WL.y rfl (Y.move) ?_
  refine WL.y rfl (Y.fieldAddr fi43f0 ti22 (by decide) rfl (rfl) _) ?_
  refine WL.y rfl (Y.load1 Try.underlying22 rfl rfl ((hA.bel k48).cell 0)) ?_
  refine WL.y rfl (Y.fieldAddr fi43f1 ti22 (by decide) rfl (rfl) _) ?_
  refine WL.y rfl (Y.load1 Try.underlying22 rfl rfl ((hC.bel k48).cell 1)) ?_
  refine WL.call rfl (C.func go19) (asks_ret na.c nb.v gb (by omega) h48) ?_
  rintro _ w58 ⟨rfl, hb58⟩
  refine WL.y rfl (Y.pickT rfl) ?_
  refine WL.y rfl (Y.move) ?_
  refine WL.y rfl (Y.move) ?_
  refine WL.y rfl (Y.move) ?_
  refine WL.y rfl (Y.fieldAddr fi43f0 ti22 (by decide) rfl (rfl) _) ?_
  refine WL.y rfl (Y.load1 Try.underlying22 rfl rfl ((hC.bel (Below.step k48 hb58)).cell 0)) ?_
  refine WL.y rfl (Y.fieldAddr fi43f1 ti22 (by decide) rfl (rfl) _) ?_
  refine WL.y rfl (Y.load1 Try.underlying22 rfl rfl ((hA.bel (Below.step k48 hb58)).cell 1)) ?_
  refine WL.call rfl (C.func go19) (asks_ret nb.c na.v gb (by omega) (h48.bel hb58)) ?_
  rintro _ w67 ⟨rfl, hb67⟩
  refine WL.y rfl (Y.pickT rfl) ?_
  refine WL.y rfl (Y.move) ?_
  refine WL.call rfl (C.func go17) (known_ret _) ?_
  rintro _ w70 ⟨rfl, hb70⟩
  refine WL.y rfl (Y.pickT rfl) ?_
  refine WL.y rfl (Y.assign) ?_
  refine WL.nil ?_
  refine WC.ret (endQ.one (.inr rfl) ?_)
  exact ⟨rfl, Below.step k3 (Below.step (Below.step (Below.step k48 hb58) hb67) hb70)⟩
end Go.Proofs.Ytlhhognabmnlmaa
