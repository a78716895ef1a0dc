/-
  The law NetOrder: the walk.
-/
import Derived.Test.YtjlclaimpepgiaaNet16
namespace Go.Proofs.Ytjlclaimpepgiaa
open Go Go.RowKit Go.Cx
set_option linter.unusedVariables false
open Crc
def tagS (l : List Int) (i : Nat) : LS := ⟨l.getD i 0, [UInt8.ofNat i], false⟩
def Rise (L : List LS) : Prop := L.Pairwise (fun a b => (a.bs.getD 0 0).toNat < (b.bs.getD 0 0).toNat) ∧ ∀ a ∈ L, a.bs.length = 1
theorem rise_tags (l : List Int) (n : Nat) (hn : n ≤ 60) : Rise ((List.range n).map (tagS l)) := by
  refine ⟨?_, fun a ha => ?_⟩
  · rw [List.pairwise_map]
    refine List.Pairwise.imp_of_mem ?_ List.pairwise_lt_range
    intro a b ha hb hab
    simp only [List.mem_range] at ha hb
    have e : ∀ i, i < n → ((tagS l i).bs.getD 0 0).toNat = i := fun i hi => by
      show (UInt8.ofNat i).toNat = i
      rw [UInt8.toNat_ofNat']
      omega
    rw [e a ha, e b hb]
    exact hab
  · have hqq := List.mem_map.1 ha
    obtain ⟨i, -, rfl⟩ := hqq
    rfl
theorem rise_erase {L : List LS} (h : Rise L) (i : Nat) : Rise (L.eraseIdx i) :=
  ⟨h.1.sublist (List.eraseIdx_sublist _ _), fun a ha => h.2 a ((List.eraseIdx_sublist _ _).subset ha)⟩
theorem rise_lt {L : List LS} (h : Rise L) (i : Nat) (hi : i + 1 < L.length) : ((L[i]).bs.getD 0 0).toNat < ((L[i + 1]).bs.getD 0 0).toNat :=
  List.pairwise_iff_getElem.1 h.1 i (i + 1) (by omega) hi (by omega)
theorem one_int {k : IntKind} (l : List Int) : ∀ u ∈ l.map (Value.int k), One u = true := by
  intro u hu
  have hqq := List.mem_map.1 hu
  obtain ⟨c, -, rfl⟩ := hqq
  rfl
set_option maxHeartbeats 2000000 in
theorem netOrder_ret (w : World) (av : Value) (l : List Int) (hs : SlK w 1 av l.length (l.map (Value.int .u64))) (dv : Value) (ds' : List Int) (hd : SlK w 1 dv ds'.length (ds'.map (Value.int .i64))) :
    Ret Try.prog 3 [av, dv].toArray w fun v w' => v = .bool true ∧ Below w.heap.size w w' := by
  have hmx : maxLen = 9223372036854775807 := rfl
  by_cases h1 : 60 < l.length
  · skip
    refine Ret.of (n := 127) (rs := #[.tmp 4]) Try.func3 rfl rfl rfl (by simp) ?_
    refine WC.seqR rfl ?_
    refine WL.y rfl (Y.assign) ?_
    refine WL.nil ?_
    refine WC.seq ?_
    refine WC.seqR rfl ?_
    refine WL.y rfl (Y.move) ?_
    refine WL.y rfl (Y.lenSl Try.underlying22 (hs) _) ?_
    refine WL.y rfl (Y.dT (Y.gtr rfl rfl) (by omega)) ?_
    refine WL.y rfl (Y.move) ?_
    refine WL.off rfl ?_
    refine WL.off rfl ?_
    refine WL.off rfl ?_
    refine WL.y rfl (Y.pickT rfl) ?_
    refine WL.nil ?_
    refine WC.condT (rfl) ?_
    refine WC.seqR rfl ?_
    refine WL.call rfl (C.func go9) (known_ret _) ?_
    rintro _ w21 ⟨rfl, hb21⟩
    have k21 := hb21
    refine WL.y rfl (Y.assign) ?_
    refine WL.nil ?_
    refine WC.ret (thenQ.ret (endQ.one (.inr rfl) ?_))
    exact ⟨rfl, k21⟩
  by_cases h2 : 60 < ds'.length
  · skip
    refine Ret.of (n := 127) (rs := #[.tmp 4]) Try.func3 rfl rfl rfl (by simp) ?_
    refine WC.seqR rfl ?_
    refine WL.y rfl (Y.assign) ?_
    refine WL.nil ?_
    refine WC.seq ?_
    refine WC.seqR rfl ?_
    refine WL.y rfl (Y.move) ?_
    refine WL.y rfl (Y.lenSl Try.underlying22 (hs) _) ?_
    refine WL.y rfl (Y.dF (Y.gtr rfl rfl) (by omega)) ?_
    refine WL.y rfl (Y.move) ?_
    refine WL.y rfl (Y.move) ?_
    refine WL.y rfl (Y.lenSl Try.underlying23 (hd) _) ?_
    refine WL.y rfl (Y.dT (Y.gtr rfl rfl) (by omega)) ?_
    refine WL.y rfl (Y.pickF rfl) ?_
    refine WL.nil ?_
    refine WC.condT (rfl) ?_
    refine WC.seqR rfl ?_
    refine WL.call rfl (C.func go9) (known_ret _) ?_
    rintro _ w21 ⟨rfl, hb21⟩
    have k21 := hb21
    refine WL.y rfl (Y.assign) ?_
    refine WL.nil ?_
    refine WC.ret (thenQ.ret (endQ.one (.inr rfl) ?_))
    exact ⟨rfl, k21⟩
  refine Ret.of (n := 127) (rs := #[.tmp 4]) Try.func3 rfl rfl rfl (by simp) ?_
  refine WC.seqR rfl ?_
  refine WL.y rfl (Y.assign) ?_
  refine WL.nil ?_
  refine WC.seq ?_
  refine WC.seqR rfl ?_
  refine WL.y rfl (Y.move) ?_
  refine WL.y rfl (Y.lenSl Try.underlying22 (hs) _) ?_
  refine WL.y rfl (Y.dF (Y.gtr rfl rfl) (by omega)) ?_
  refine WL.y rfl (Y.move) ?_
  refine WL.y rfl (Y.move) ?_
  refine WL.y rfl (Y.lenSl Try.underlying23 (hd) _) ?_
  refine WL.y rfl (Y.dF (Y.gtr rfl rfl) (by omega)) ?_
  refine WL.y rfl (Y.pickF rfl) ?_
  refine WL.nil ?_
  refine WC.condF (rfl) ?_
  refine WC.skip (thenQ.normal ?_)
  refine WC.seqR rfl ?_
  refine WL.y rfl (Y.build (cells := #[.slice none 0 0]) (by kernel_rfl) _) ?_
  refine WL.eex rfl (E.boxX) ?_
  rintro _ w23 ⟨rfl, hB23, hb23⟩
  have k23 := hb23
  refine WL.y rfl (Y.assign) ?_
  refine WL.nil ?_
  refine WC.seqR rfl ?_
  refine WL.y rfl (Y.assign) ?_
  refine WL.nil ?_
  refine WC.seq ?_
  refine WC.seqR rfl ?_
  refine WL.y rfl (Y.assign) ?_
  refine WL.nil ?_
  refine WC.block ?_
  refine WC.loop (fun k => l.length - k) (fun k f ds w' => k ≤ l.length ∧ ds = [] ∧ Below w.heap.size w w' ∧ (∃ v6, f 6 = v6 ∧ OrdAt w' w.heap.size w.heap.size ((List.range k).map (tagS l)) v6 (l.take k)) ∧ ∃ J, f = ov J [(0, av), (1, dv), (4, .bool false), (5, .pointer (some ⟨w.heap.size, 0, none⟩)), (7, .int .i64 (k : Int))]) 0 ?_ ?_
  · exact ⟨by omega, rfl, k23, ⟨_, rfl, ord_start hB23 (Nat.le_refl _)⟩, _, ov_mk ⟨rfl, rfl, rfl, rfl, rfl, trivial⟩⟩
  · rintro k f _ w1 ⟨hk, rfl, hb1, ⟨v6, hf6, hO1⟩, J, rfl⟩
    have hf6 : J 6 = v6 := hf6
    obtain ⟨J', rfl⟩ : ∃ J', J = ov J' [(6, v6)] := ⟨J, ov_mk ⟨hf6, trivial⟩⟩
    refine WC.seq ?_
    refine WC.seqR rfl ?_
    refine WL.y rfl (Y.move) ?_
    refine WL.y rfl (Y.move) ?_
    refine WL.y rfl (Y.lenSl Try.underlying22 (hs.bel hb1) _) ?_
    refine WL.y rfl (Y.lss rfl rfl) ?_
    refine WL.nil ?_
    refine WC.condD rfl (fun hlt => ?_) (fun hlt => ?_)
    · have hkl : k < l.length := by omega
      have hu8 : ((k : Nat) : Int) = ((UInt8.ofNat k).toNat : Int) := by rw [UInt8.toNat_ofNat']; omega
      refine WC.skip (thenQ.normal ?_)
      refine WC.seq ?_
      refine WC.block ?_
      refine WC.seq ?_
      refine WC.seqR rfl ?_
      refine WL.y rfl (Y.move) ?_
      refine WL.y rfl (Y.move) ?_
      refine WL.y rfl (Y.move) ?_
      refine WL.yex rfl (Y.idxE 0 Try.underlying22 ti31 ((hs.bel hb1)) rfl (by omega) (by omega)) ?_
      rintro _ ⟨b33, o33, rfl, hp33⟩
      refine WL.y rfl (Y.load1 Try.underlying31 rfl rfl (hp33)) ?_
      refine WL.y rfl (Y.move) ?_
      refine WL.y rfl (Y.conviE Try.underlying3 Try.underlying5 rfl hu8 (by rw [← hu8]; simp only [IntKind.min, IntKind.max, IntKind.signed, IntKind.bits]; omega)) ?_
      refine WL.eex rfl (E.build1 Try.underlying32 ti5 rfl rfl rfl) ?_
      rintro v37 w37 ⟨hs37, hb37, _⟩
      have k37 := Below.step hb1 hb37
      refine WL.call rfl (C.func go10) (ord_send (hO1.bel hb37) (by simp; omega) (l.getD (k : Int).toNat 0) v37 [UInt8.ofNat k] hs37 (by simp)) ?_
      rintro _ w38 ⟨rfl, hO38, hq38⟩
      have k38 := k37.trans hq38
      refine WL.y rfl (Y.dF (Y.nei rfl rfl) (by omega)) ?_
      refine WL.nil ?_
      refine WC.condF (rfl) ?_
      refine WC.skip (thenQ.normal ?_)
      refine WC.region rfl ?_
      refine WL.y rfl (Y.move) ?_
      refine WL.y rfl (Y.move) ?_
      refine WL.y rfl (Y.move) ?_
      refine WL.yex rfl (Y.idxE 0 Try.underlying22 ti31 ((hs.bel k38)) rfl (by omega) (by omega)) ?_
      rintro _ ⟨b43, o43, rfl, hp43⟩
      refine WL.y rfl (Y.load1 Try.underlying31 rfl rfl (hp43)) ?_
      refine WL.eex rfl (E.build1 Try.underlying22 ti31 rfl rfl rfl) ?_
      rintro v45 w45 ⟨hs45, hb45, _⟩
      have k45 := Below.step k38 hb45
      have hqq := ord_pick (hO38.bel hb45)
      obtain ⟨bq, hoq, hfin⟩ := hqq
      have hs45' : SlK w45 1 v45 1 [Value.int .u64 (l.getD (k : Int).toNat 0)] := hs45
      refine WL.eex rfl (E.appendK Try.underlying22 Try.underlying22 ti31 rfl (by decide) hoq hs45' (one_int [_]) (by simp; omega) (by simp; omega)) ?_
      rintro v46 w46 ⟨⟨bq', ho46, hbq'⟩, hg46⟩
      refine WL.y rfl (Y.assign) ?_
      refine WL.nil (inBlockQ.normal (thenQ.normal ?_))
      refine WC.region rfl ?_
      refine WL.y rfl (Y.move) ?_
      refine WL.y rfl (Y.add64 rfl rfl (by omega)) ?_
      refine WL.y rfl (Y.assign) ?_
      refine WL.nil (thenQ.normal ?_)
      have e1 : (l.take k).map (Value.int .u64) ++ [Value.int .u64 (l.getD (k : Int).toNat 0)] = (l.take (k + 1)).map (Value.int .u64) := by
        rw [List.take_succ_eq_append_getElem hkl, List.map_append]
        simp [hkl]
      rw [e1] at ho46
      have e2 : (l.take k).length + 1 = (l.take (k + 1)).length := by simp; omega
      rw [e2] at ho46
      have hF := hfin ho46 (by simp; omega) hbq' hg46
      have e3 : (List.range k).map (tagS l) ++ [(⟨l.getD (k : Int).toNat 0, [UInt8.ofNat k], false⟩ : LS)] = (List.range (k + 1)).map (tagS l) := by
        rw [List.range_succ, List.map_append]
        rfl
      rw [e3] at hF
      exact ⟨k + 1, by omega, by omega, rfl, k45.trans hF.2, ⟨v46, rfl, hF.1⟩, _, ov_mk ⟨rfl, rfl, rfl, rfl, rfl, trivial⟩⟩
    · have hkl : k = l.length := by omega
      subst hkl
      rw [List.take_length] at hO1
      have hR0 := rise_tags l l.length (by omega)
      have hm0 : ((List.range l.length).map (tagS l)).map LS.to = l := by
        rw [List.map_map]
        apply List.ext_getElem
        · simp
        · intro i h1 h2
          simp [tagS, h2]
      have hlen0 : ((List.range l.length).map (tagS l)).length ≤ 60 := by simp; omega
      generalize (List.range l.length).map (tagS l) = L0 at *
      subst hm0
      refine WC.exit (thenQ.exit (thenQ.exit (inBlockQ.hit (thenQ.normal ?_))))
      refine WC.seq ?_
      refine WC.seqR rfl ?_
      refine WL.y rfl (Y.assign) ?_
      refine WL.nil ?_
      refine WC.block ?_
      refine WC.loop (fun k => ds'.length - k) (fun k f ds w' => k ≤ ds'.length ∧ ds = [] ∧ Below w.heap.size w w' ∧ (∃ v6 L, f 6 = v6 ∧ OrdAt w' w.heap.size w.heap.size L v6 (L.map LS.to) ∧ Rise L ∧ L.length ≤ 60) ∧ ∃ J, f = ov J [(1, dv), (4, .bool false), (5, .pointer (some ⟨w.heap.size, 0, none⟩)), (8, .int .i64 (k : Int))]) 0 ?_ ?_
      · exact ⟨by omega, rfl, hb1, ⟨v6, L0, rfl, hO1, hR0, hlen0⟩, _, ov_mk ⟨rfl, rfl, rfl, rfl, trivial⟩⟩
      · clear hO1 hR0
        rintro k f _ w2 ⟨hk2, rfl, hb2, ⟨v6, L, hf6, hO2, hR, hL60⟩, J, rfl⟩
        have hf6 : J 6 = v6 := hf6
        obtain ⟨J', rfl⟩ : ∃ J', J = ov J' [(6, v6)] := ⟨J, ov_mk ⟨hf6, trivial⟩⟩
        refine WC.seq ?_
        refine WC.seqR rfl ?_
        refine WL.y rfl (Y.move) ?_
        refine WL.y rfl (Y.move) ?_
        refine WL.y rfl (Y.lenSl Try.underlying23 (hd.bel hb2) _) ?_
        refine WL.y rfl (Y.lss rfl rfl) ?_
        refine WL.nil ?_
        refine WC.condD rfl (fun hlt => ?_) (fun hlt => ?_)
        · have hkd : k < ds'.length := by omega
          have hml : (L.map LS.to).length = L.length := List.length_map _
          generalize hi : ds'.getD k 0 = i
          by_cases hin : inS L i
          · have hdr : dropS L i = (L.eraseIdx i.toNat, 0) := by unfold dropS; rw [if_pos hin]
            have hqq := inS_nat hin
            obtain ⟨j, rfl, hj⟩ := hqq
            rw [Int.toNat_natCast] at hdr
            refine WC.skip (thenQ.normal ?_)
            refine WC.seq ?_
            refine WC.block ?_
            refine WC.seqR rfl ?_
            refine WL.y rfl (Y.move) ?_
            refine WL.y rfl (Y.move) ?_
            refine WL.yex rfl (Y.idxE 0 Try.underlying23 ti3 ((hd.bel hb2)) rfl (by omega) (by omega)) ?_
            rintro _ ⟨b55, o55, rfl, hp55⟩
            simp only [Int.toNat_natCast, hi] at hp55
            refine WL.y rfl (Y.load1 Try.underlying3 rfl rfl (hp55)) ?_
            refine WL.y rfl (Y.assign) ?_
            refine WL.nil ?_
            refine WC.seqR rfl ?_
            refine WL.y rfl (Y.move) ?_
            refine WL.y rfl (Y.move) ?_
            refine WL.call rfl (C.func go11) (ord_drop hO2 (j : Int)) ?_
            rintro _ w59 ⟨rfl, hO59, hq59⟩
            rw [hdr] at hO59
            have k59 := hb2.trans hq59
            refine WL.y rfl (Y.assign) ?_
            refine WL.nil ?_
            refine WC.seq ?_
            refine WC.seqR rfl ?_
            refine WL.y rfl (Y.move) ?_
            refine WL.y rfl (Y.dF (Y.lss rfl rfl) (by omega)) ?_
            refine WL.y rfl (Y.move) ?_
            refine WL.y rfl (Y.move) ?_
            refine WL.y rfl (Y.move) ?_
            refine WL.y rfl (Y.lenSl Try.underlying22 (hO59.sl) _) ?_
            refine WL.y rfl (Y.dF (Y.geq rfl rfl) ((by simp; omega))) ?_
            refine WL.y rfl (Y.pickF rfl) ?_
            refine WL.nil ?_
            refine WC.condF (rfl) ?_
            refine WC.skip (thenQ.normal ?_)
            refine WC.seq ?_
            refine WC.seqR rfl ?_
            refine WL.y rfl (Y.move) ?_
            refine WL.y rfl (Y.dF (Y.nei rfl rfl) ((by rw [hdr]; simp))) ?_
            refine WL.nil ?_
            refine WC.condF (rfl) ?_
            refine WC.skip (thenQ.normal ?_)
            refine WC.regionB (fun i => Nat.beq i 3 || Nat.beq i 8) [(0, .any), (1, .any), (2, .any), (4, .any), (5, .any), (6, .any), (7, .any), (3, .seq), (8, .seq), (9, .any)] mixed (by kernel_rfl) (fun wr21 hS21 hheap => ?_)
            have kr21 := Below.step k59 hS21
            refine RL.any rfl rfl (fun _ => Y.move) ?_
            refine RL.any rfl rfl (fun _ => Y.move) ?_
            refine RL.yex rfl rfl (Y.sliceTo j Try.underlying22 ti31 ((hO59.sl.bel hS21)) rfl (by omega) (by omega)) ?_
            rintro v74 hs74
            refine RL.any rfl rfl (fun _ => Y.move) ?_
            refine RL.any rfl rfl (fun _ => Y.move) ?_
            refine RL.any rfl rfl (fun _ => Y.add64 rfl rfl (by omega)) ?_
            refine RL.yex rfl rfl (Y.sliceFrom (j + 1) Try.underlying22 ti31 ((hO59.sl.bel hS21)) rfl (by omega) (by omega)) ?_
            rintro v79 hs79
            refine RL.eex rfl rfl (E.append Try.underlying22 ti31 rfl (by decide) (World.ownsRow_nil wr21 wr21.heap.size _ 1) hs74 (one_int _) (by simp; omega) (by simp; omega) (Nat.le_refl _)) ?_ ?_
            · exact fun _ _ _ => .inl rfl
            rintro v75 w75 ⟨ho75, hq75, -⟩
            rw [Nat.zero_add, List.nil_append] at ho75
            refine RL.eex rfl rfl (E.append Try.underlying22 ti31 rfl (by decide) ho75 (hs79.bel hq75) (one_int _) (by simp; omega) (by simp; omega) hq75.size) ?_ ?_
            · exact fun _ _ _ => .inl rfl
            rintro v80 w80 ⟨ho80, hq80, -⟩
            refine RL.any rfl rfl (fun _ => Y.assign) ?_
            refine RL.nil (inBlockQ.normal (thenQ.normal ?_))
            refine WC.region rfl ?_
            refine WL.y rfl (Y.move) ?_
            refine WL.y rfl (Y.add64 rfl rfl (by omega)) ?_
            refine WL.y rfl (Y.assign) ?_
            refine WL.nil (thenQ.normal ?_)
            have e1 : (((L.map LS.to).take j).length + ((L.map LS.to).drop (j + 1)).length) = ((L.eraseIdx j).map LS.to).length := by rw [map_erase, List.eraseIdx_eq_take_drop_succ, List.length_append]
            have e2 : ((L.map LS.to).take j).map (Value.int .u64) ++ ((L.map LS.to).drop (j + 1)).map (Value.int .u64) = ((L.eraseIdx j).map LS.to).map (Value.int .u64) := by rw [map_erase, List.eraseIdx_eq_take_drop_succ, List.map_append]
            rw [e1, e2] at ho80
            have hq := hq75.trans hq80
            have hN := ord_new (hO59.bel hS21) hq ho80
            exact ⟨k + 1, by omega, by omega, rfl, (Below.step k59 hS21).trans (hq.mono (Below.step k59 hS21).size), ⟨v80, _, rfl, hN, rise_erase hR j, by have := (List.eraseIdx_sublist L j).length_le; show (L.eraseIdx j).length ≤ 60; omega⟩, _, ov_mk ⟨rfl, rfl, rfl, rfl, trivial⟩⟩
          · have hdr : dropS L i = (L, 17) := by unfold dropS; rw [if_neg hin]
            by_cases hneg : i < 0
            · refine WC.skip (thenQ.normal ?_)
              refine WC.seq ?_
              refine WC.block ?_
              refine WC.seqR rfl ?_
              refine WL.y rfl (Y.move) ?_
              refine WL.y rfl (Y.move) ?_
              refine WL.yex rfl (Y.idxE 0 Try.underlying23 ti3 ((hd.bel hb2)) rfl (by omega) (by omega)) ?_
              rintro _ ⟨b55, o55, rfl, hp55⟩
              simp only [Int.toNat_natCast, hi] at hp55
              refine WL.y rfl (Y.load1 Try.underlying3 rfl rfl (hp55)) ?_
              refine WL.y rfl (Y.assign) ?_
              refine WL.nil ?_
              refine WC.seqR rfl ?_
              refine WL.y rfl (Y.move) ?_
              refine WL.y rfl (Y.move) ?_
              refine WL.call rfl (C.func go11) (ord_drop hO2 i) ?_
              rintro _ w59 ⟨rfl, hO59, hq59⟩
              rw [hdr] at hO59
              have k59 := hb2.trans hq59
              refine WL.y rfl (Y.assign) ?_
              refine WL.nil ?_
              refine WC.seq ?_
              refine WC.seqR rfl ?_
              refine WL.y rfl (Y.move) ?_
              refine WL.y rfl (Y.dT (Y.lss rfl rfl) (by omega)) ?_
              refine WL.y rfl (Y.move) ?_
              refine WL.off rfl ?_
              refine WL.off rfl ?_
              refine WL.off rfl ?_
              refine WL.off rfl ?_
              refine WL.y rfl (Y.pickT rfl) ?_
              refine WL.nil ?_
              refine WC.condT (rfl) ?_
              refine WC.seq ?_
              refine WC.seqR rfl ?_
              refine WL.y rfl (Y.move) ?_
              refine WL.y rfl (Y.dF (Y.nei rfl rfl) ((by rw [hdr]; simp))) ?_
              refine WL.nil ?_
              refine WC.condF (rfl) ?_
              refine WC.skip (thenQ.normal ?_)
              refine WC.exit (thenQ.exit (inBlockQ.hit (thenQ.normal ?_)))
              refine WC.region rfl ?_
              refine WL.y rfl (Y.move) ?_
              refine WL.y rfl (Y.add64 rfl rfl (by omega)) ?_
              refine WL.y rfl (Y.assign) ?_
              refine WL.nil (thenQ.normal ?_)
              exact ⟨k + 1, by omega, by omega, rfl, k59, ⟨v6, L, rfl, hO59, hR, hL60⟩, _, ov_mk ⟨rfl, rfl, rfl, rfl, trivial⟩⟩
            · have hge : (L.length : Int) ≤ i := by
                rcases Int.lt_or_le i (L.length : Int) with h | h
                · exact absurd ⟨by omega, h⟩ hin
                · exact h
              refine WC.skip (thenQ.normal ?_)
              refine WC.seq ?_
              refine WC.block ?_
              refine WC.seqR rfl ?_
              refine WL.y rfl (Y.move) ?_
              refine WL.y rfl (Y.move) ?_
              refine WL.yex rfl (Y.idxE 0 Try.underlying23 ti3 ((hd.bel hb2)) rfl (by omega) (by omega)) ?_
              rintro _ ⟨b55, o55, rfl, hp55⟩
              simp only [Int.toNat_natCast, hi] at hp55
              refine WL.y rfl (Y.load1 Try.underlying3 rfl rfl (hp55)) ?_
              refine WL.y rfl (Y.assign) ?_
              refine WL.nil ?_
              refine WC.seqR rfl ?_
              refine WL.y rfl (Y.move) ?_
              refine WL.y rfl (Y.move) ?_
              refine WL.call rfl (C.func go11) (ord_drop hO2 i) ?_
              rintro _ w59 ⟨rfl, hO59, hq59⟩
              rw [hdr] at hO59
              have k59 := hb2.trans hq59
              refine WL.y rfl (Y.assign) ?_
              refine WL.nil ?_
              refine WC.seq ?_
              refine WC.seqR rfl ?_
              refine WL.y rfl (Y.move) ?_
              refine WL.y rfl (Y.dF (Y.lss rfl rfl) (by omega)) ?_
              refine WL.y rfl (Y.move) ?_
              refine WL.y rfl (Y.move) ?_
              refine WL.y rfl (Y.move) ?_
              refine WL.y rfl (Y.lenSl Try.underlying22 (hO59.sl) _) ?_
              refine WL.y rfl (Y.dT (Y.geq rfl rfl) ((by simp; omega))) ?_
              refine WL.y rfl (Y.pickF rfl) ?_
              refine WL.nil ?_
              refine WC.condT (rfl) ?_
              refine WC.seq ?_
              refine WC.seqR rfl ?_
              refine WL.y rfl (Y.move) ?_
              refine WL.y rfl (Y.dF (Y.nei rfl rfl) ((by rw [hdr]; simp))) ?_
              refine WL.nil ?_
              refine WC.condF (rfl) ?_
              refine WC.skip (thenQ.normal ?_)
              refine WC.exit (thenQ.exit (inBlockQ.hit (thenQ.normal ?_)))
              refine WC.region rfl ?_
              refine WL.y rfl (Y.move) ?_
              refine WL.y rfl (Y.add64 rfl rfl (by omega)) ?_
              refine WL.y rfl (Y.assign) ?_
              refine WL.nil (thenQ.normal ?_)
              exact ⟨k + 1, by omega, by omega, rfl, k59, ⟨v6, L, rfl, hO59, hR, hL60⟩, _, ov_mk ⟨rfl, rfl, rfl, rfl, trivial⟩⟩
        · refine WC.exit (thenQ.exit (thenQ.exit (inBlockQ.hit (thenQ.normal ?_))))
          refine WC.seqR rfl ?_
          refine WL.y rfl (Y.move) ?_
          refine WL.call rfl (C.func go12) (ord_all hO2 (by omega)) ?_
          rintro v82 w82 ⟨⟨qs, hs82, hm82, hq82⟩, hb82⟩
          have k82 := Below.step hb2 hb82
          have hO82 := hO2.bel hb82
          have hml : (L.map LS.to).length = L.length := List.length_map _
          have hql : qs.length = L.length := by rw [← hm82, List.length_map]
          refine WL.y rfl (Y.assign) ?_
          refine WL.nil ?_
          refine WC.seq ?_
          refine WC.seqR rfl ?_
          refine WL.y rfl (Y.move) ?_
          refine WL.y rfl (Y.lenSl Try.underlying26 (hs82) _) ?_
          refine WL.y rfl (Y.move) ?_
          refine WL.y rfl (Y.lenSl Try.underlying22 (hO82.sl) _) ?_
          refine WL.y rfl (Y.dF (Y.nei rfl rfl) ((by simp; omega))) ?_
          refine WL.nil ?_
          refine WC.condF (rfl) ?_
          refine WC.skip (thenQ.normal ?_)
          refine WC.seq ?_
          refine WC.seqR rfl ?_
          refine WL.y rfl (Y.assign) ?_
          refine WL.nil ?_
          refine WC.block ?_
          have kk := k82
          refine WC.loop (fun i => qs.length - i) (fun i f ds w' => i ≤ qs.length ∧ ds = [] ∧ Below w82.heap.size w82 w' ∧ ∃ J, f = ov J [(4, .bool false), (6, v6), (11, v82), (12, .int .i64 (i : Int))]) 0 ?_ ?_
          · exact ⟨by omega, rfl, Below.refl _ _, _, ov_mk ⟨rfl, rfl, rfl, rfl, trivial⟩⟩
          · rintro i _ _ w3 ⟨hi, rfl, hb3, J, rfl⟩
            have hs3 := hs82.bel hb3
            have hO3 := hO82.bel hb3
            have kk3 := Below.step kk hb3
            have get : ∀ i (h : i < qs.length), qs.getD i zeroL = qs[i] := fun i h => by simp [h]
            have fst : ∀ i (h : i < qs.length), qs[i].1 = L[i]'(by omega) := fun i h => by
              have : (qs.map Prod.fst)[i]? = L[i]? := by rw [hm82]
              simp only [List.getElem?_map, List.getElem?_eq_getElem h, List.getElem?_eq_getElem (show i < L.length by omega), Option.map_some, Option.some.injEq] at this
              exact this
            refine WC.seq ?_
            refine WC.seqR rfl ?_
            refine WL.y rfl (Y.move) ?_
            refine WL.y rfl (Y.move) ?_
            refine WL.y rfl (Y.lenSl Try.underlying26 (hs3) _) ?_
            refine WL.y rfl (Y.lss rfl rfl) ?_
            refine WL.nil ?_
            refine WC.condD rfl (fun hlt => ?_) (fun hlt => ?_)
            · have hil : i < qs.length := by omega
              have hb0 := hR.2 _ (List.getElem_mem (show i < L.length by omega))
              by_cases hpos : 0 < i
              · obtain ⟨p, rfl⟩ : ∃ p, i = p + 1 := ⟨i - 1, by omega⟩
                have hpl : p < qs.length := by omega
                have hbp := hR.2 _ (List.getElem_mem (show p < L.length by omega))
                have hrs := rise_lt hR p (by omega)
                have hBi := (hq82 (p + 1) hil).bel hb3
                have hBp := (hq82 p hpl).bel hb3
                rw [get _ hil, fst _ hil] at hBi
                rw [get _ hpl, fst _ hpl] at hBp
                refine WC.skip (thenQ.normal ?_)
                refine WC.seq ?_
                refine WC.block ?_
                refine WC.seq ?_
                refine WC.regionB (fun _ => false) [(0, .any), (1, .any), (2, .any), (3, .any), (4, .held), (5, .any), (6, .any), (7, .any), (8, .held), (9, .any), (10, .any), (11, .any), (12, .any), (13, .any), (14, .any), (15, .any), (16, .any), (17, .any), (18, .held), (19, .any), (20, .held), (21, .any), (22, .any), (23, .any), (24, .any), (25, .any), (26, .held), (27, .any), (28, .held), (29, .any), (30, .any), (31, .any)] mixed (by kernel_rfl) (fun wr28 hS28 hheap => ?_)
                have kr28 := Below.step kk3 hS28
                refine RL.any rfl rfl (fun _ => Y.move) ?_
                refine RL.any rfl rfl (fun _ => Y.move) ?_
                refine RL.yex rfl rfl (Y.idxF (enc := encL) zeroL encL_len (by decide) Try.underlying26 ti36 hs3 rfl (by omega) (by omega)) ?_
                rintro _ ⟨b96, o96, rfl, hc96⟩
                simp only [Int.toNat_natCast] at hc96
                rw [get _ hil] at hc96
                refine RL.any rfl rfl (fun _ => Y.fieldAddr fi36f0 ti31 (by decide) rfl (rfl) _) ?_
                refine RL.held rfl rfl hS28 (fun _ hb9 => Y.load1 Try.underlying31 rfl rfl ((hc96.bel hb9) 0 (.int .u64 qs[p + 1].1.to) rfl)) ?_
                refine RL.any rfl rfl (fun _ => Y.move) ?_
                refine RL.any rfl rfl (fun _ => Y.move) ?_
                refine RL.yex rfl rfl (Y.idxE 0 Try.underlying22 ti31 (hO3.sl) rfl (by omega) (by omega)) ?_
                rintro _ ⟨b101, o101, rfl, hp101⟩
                simp only [Int.toNat_natCast] at hp101
                refine RL.held rfl rfl hS28 (fun _ hb9 => Y.load1 Try.underlying31 rfl rfl (cell_bel hp101 hb9)) ?_
                refine RL.any rfl rfl (fun _ => Y.dF (Y.nei rfl rfl) ((by rw [fst _ hil]; simp [show p + 1 < L.length by omega]))) ?_
                refine RL.any rfl rfl (fun _ => Y.move) ?_
                refine RL.any rfl rfl (fun _ => Y.move) ?_
                refine RL.any rfl rfl (fun _ => Y.dT (Y.gtr rfl rfl) (by omega)) ?_
                refine RL.any rfl rfl (fun _ => Y.move) ?_
                refine RL.any rfl rfl (fun _ => Y.move) ?_
                refine RL.any rfl rfl (fun _ => Y.move) ?_
                refine RL.yex rfl rfl (Y.idxF (enc := encL) zeroL encL_len (by decide) Try.underlying26 ti36 hs3 rfl (by omega) (by omega)) ?_
                rintro _ ⟨b110, o110, rfl, hc110⟩
                simp only [Int.toNat_natCast] at hc110
                rw [get _ hil] at hc110
                refine RL.any rfl rfl (fun _ => Y.fieldAddr fi36f1 ti32 (by decide) rfl (rfl) _) ?_
                refine RL.held rfl rfl hS28 (fun _ hb9 => Y.load1 Try.underlying32 rfl rfl ((hc110.bel hb9) 1 qs[p + 1].2 rfl)) ?_
                refine RL.yex rfl rfl (Y.idxE 0 Try.underlying32 ti5 (hBi) rfl (by omega) (by rw [hb0]; decide)) ?_
                rintro _ ⟨b113, o113, rfl, hp113⟩
                refine RL.held rfl rfl hS28 (fun _ hb9 => Y.load1 Try.underlying5 rfl rfl (cell_bel hp113 hb9)) ?_
                refine RL.any rfl rfl (fun _ => Y.move) ?_
                refine RL.any rfl rfl (fun _ => Y.move) ?_
                refine RL.any rfl rfl (fun _ => Y.sub64 rfl rfl (by omega)) ?_
                refine RL.yex rfl rfl (Y.idxF (enc := encL) zeroL encL_len (by decide) Try.underlying26 ti36 hs3 rfl (by omega) (by omega)) ?_
                rintro _ ⟨b118, o118, rfl, hc118⟩
                simp only [show (((p + 1 : Nat) : Int) - 1).toNat = p by omega] at hc118
                rw [get _ hpl] at hc118
                refine RL.any rfl rfl (fun _ => Y.fieldAddr fi36f1 ti32 (by decide) rfl (rfl) _) ?_
                refine RL.held rfl rfl hS28 (fun _ hb9 => Y.load1 Try.underlying32 rfl rfl ((hc118.bel hb9) 1 qs[p].2 rfl)) ?_
                refine RL.yex rfl rfl (Y.idxE 0 Try.underlying32 ti5 (hBp) rfl (by omega) (by rw [hbp]; decide)) ?_
                rintro _ ⟨b121, o121, rfl, hp121⟩
                refine RL.held rfl rfl hS28 (fun _ hb9 => Y.load1 Try.underlying5 rfl rfl (cell_bel hp121 hb9)) ?_
                refine RL.any rfl rfl (fun _ => Y.dF (Y.leq rfl rfl) ((by simp only [Int.toNat_zero]; omega))) ?_
                refine RL.any rfl rfl (fun _ => Y.pickT rfl) ?_
                refine RL.any rfl rfl (fun _ => Y.pickF rfl) ?_
                refine RL.nil (thenQ.normal ?_)
                refine WC.condF (rfl) ?_
                refine WC.skip (inBlockQ.normal (thenQ.normal ?_))
                refine WC.region rfl ?_
                refine WL.y rfl (Y.move) ?_
                refine WL.y rfl (Y.add64 rfl rfl (by omega)) ?_
                refine WL.y rfl (Y.assign) ?_
                refine WL.nil (thenQ.normal ?_)
                exact ⟨p + 1 + 1, by omega, by omega, rfl, Below.step hb3 hS28, _, ov_mk ⟨rfl, rfl, rfl, rfl, trivial⟩⟩
              · obtain rfl : i = 0 := by omega
                refine WC.skip (thenQ.normal ?_)
                refine WC.seq ?_
                refine WC.block ?_
                refine WC.seq ?_
                refine WC.regionB (fun _ => false) [(0, .any), (1, .any), (2, .any), (3, .any), (4, .held), (5, .any), (6, .any), (7, .any), (8, .held), (9, .any), (10, .any), (11, .any), (12, .any), (13, .any), (14, .any), (15, .any), (16, .any), (17, .any), (18, .held), (19, .any), (20, .held), (21, .any), (22, .any), (23, .any), (24, .any), (25, .any), (26, .held), (27, .any), (28, .held), (29, .any), (30, .any), (31, .any)] mixed (by kernel_rfl) (fun wr28 hS28 hheap => ?_)
                have kr28 := Below.step kk3 hS28
                refine RL.any rfl rfl (fun _ => Y.move) ?_
                refine RL.any rfl rfl (fun _ => Y.move) ?_
                refine RL.yex rfl rfl (Y.idxF (enc := encL) zeroL encL_len (by decide) Try.underlying26 ti36 hs3 rfl (by omega) (by omega)) ?_
                rintro _ ⟨b96, o96, rfl, hc96⟩
                simp only [Int.toNat_natCast] at hc96
                rw [get _ hil] at hc96
                refine RL.any rfl rfl (fun _ => Y.fieldAddr fi36f0 ti31 (by decide) rfl (rfl) _) ?_
                refine RL.held rfl rfl hS28 (fun _ hb9 => Y.load1 Try.underlying31 rfl rfl ((hc96.bel hb9) 0 (.int .u64 qs[0].1.to) rfl)) ?_
                refine RL.any rfl rfl (fun _ => Y.move) ?_
                refine RL.any rfl rfl (fun _ => Y.move) ?_
                refine RL.yex rfl rfl (Y.idxE 0 Try.underlying22 ti31 (hO3.sl) rfl (by omega) (by omega)) ?_
                rintro _ ⟨b101, o101, rfl, hp101⟩
                simp only [Int.toNat_natCast] at hp101
                refine RL.held rfl rfl hS28 (fun _ hb9 => Y.load1 Try.underlying31 rfl rfl (cell_bel hp101 hb9)) ?_
                refine RL.any rfl rfl (fun _ => Y.dF (Y.nei rfl rfl) ((by rw [fst _ hil]; simp [show 0 < L.length by omega]))) ?_
                refine RL.any rfl rfl (fun _ => Y.move) ?_
                refine RL.any rfl rfl (fun _ => Y.move) ?_
                refine RL.any rfl rfl (fun _ => Y.dF (Y.gtr rfl rfl) (by omega)) ?_
                refine RL.any rfl rfl (fun _ => Y.move) ?_
                refine RL.off rfl rfl ?_
                refine RL.off rfl rfl ?_
                refine RL.off rfl rfl ?_
                refine RL.off rfl rfl ?_
                refine RL.offH rfl rfl hS28 ?_
                refine RL.off rfl rfl ?_
                refine RL.offH rfl rfl hS28 ?_
                refine RL.off rfl rfl ?_
                refine RL.off rfl rfl ?_
                refine RL.off rfl rfl ?_
                refine RL.off rfl rfl ?_
                refine RL.off rfl rfl ?_
                refine RL.offH rfl rfl hS28 ?_
                refine RL.off rfl rfl ?_
                refine RL.offH rfl rfl hS28 ?_
                refine RL.off rfl rfl ?_
                refine RL.any rfl rfl (fun _ => Y.pickF rfl) ?_
                refine RL.any rfl rfl (fun _ => Y.pickF rfl) ?_
                refine RL.nil (thenQ.normal ?_)
                refine WC.condF (rfl) ?_
                refine WC.skip (inBlockQ.normal (thenQ.normal ?_))
                refine WC.region rfl ?_
                refine WL.y rfl (Y.move) ?_
                refine WL.y rfl (Y.add64 rfl rfl (by omega)) ?_
                refine WL.y rfl (Y.assign) ?_
                refine WL.nil (thenQ.normal ?_)
                exact ⟨0 + 1, by omega, by omega, rfl, Below.step hb3 hS28, _, ov_mk ⟨rfl, rfl, rfl, rfl, trivial⟩⟩
            · refine WC.exit (thenQ.exit (thenQ.exit (inBlockQ.hit (thenQ.normal ?_))))
              refine WC.seqR rfl ?_
              refine WL.call rfl (C.func go9) (known_ret _) ?_
              rintro _ w126 ⟨rfl, hb126⟩
              have k126 := Below.step kk3 hb126
              refine WL.y rfl (Y.assign) ?_
              refine WL.nil ?_
              refine WC.ret (endQ.one (.inr rfl) ?_)
              exact ⟨rfl, k126⟩
end Go.Proofs.Ytjlclaimpepgiaa
