/-
  A net that was copied goes on apart.
-/
import Derived.Test.YtjlclaimpepgiaaNet9
namespace Go.Proofs.Ytjlclaimpepgiaa
open Go Go.RowKit Go.Cx
set_option linter.unusedVariables false
open Crc
/-- an old net, its copy, and the document's -/
def CopyAt (w : World) (M : Nat → Prop) (B bo bn bw : Nat) (lsN lsR : List LS) : Prop :=
  ∃ ol bl psO psN psR, (∀ b, M b → B ≤ b) ∧ (bo ≠ bn ∧ bo ≠ bl ∧ ol ≠ bn ∧ ol ≠ bl) ∧ (bw ≠ bo ∧ bw ≠ ol ∧ bw ≠ bn ∧ bw ≠ bl) ∧ psO.length ≤ 1000000 ∧ NetAt w M bo ol psO ∧ NetAt w M bn bl psN ∧ RefAt w M bw psR ∧ psN.map Prod.fst = lsN ∧ psR.map Prod.fst = lsR
section
variable {w w' : World} {M : Nat → Prop} {B bo bn bw : Nat} {lsN lsR : List LS}
theorem copy_step {ol bl : Nat} {psO psN psR psO' : List (LS × Value)} (h1 : ∀ b, M b → B ≤ b) (h2 : bo ≠ bn ∧ bo ≠ bl ∧ ol ≠ bn ∧ ol ≠ bl) (h3 : bw ≠ bo ∧ bw ≠ ol ∧ bw ≠ bn ∧ bw ≠ bl) (ho : psO'.length ≤ 1000000) (h4 : NetAt w M bo ol psO) (h5 : NetAt w M bn bl psN) (h6 : RefAt w M bw psR)
    (h7 : NetAt w' M bo ol psO') (hk : Kept (NB bo ol) w w') : CopyAt w' M B bo bn bw (psN.map Prod.fst) (psR.map Prod.fst) ∧ Kept M w w' := by
  have hmn := h4.2.choose_spec.2.2.1
  have hml := h4.2.choose_spec.2.2.2.1
  exact ⟨⟨ol, bl, psO', psN, psR, h1, h2, h3, ho, h7, h5.kept hk (NB_lt hmn hml) (fun h => by rcases h with h | h; exact h2.1 h.symm; exact h2.2.2.1 h.symm) (fun h => by rcases h with h | h; exact h2.2.1 h.symm; exact h2.2.2.2 h.symm), h6.kept hk (NB_lt hmn hml) (fun h => by rcases h with h | h; exact h3.1 h; exact h3.2.1 h), rfl, rfl⟩, hk.mono (NB_lt hmn hml)⟩
theorem copy_bel (h : CopyAt w M B bo bn bw lsN lsR) (hb : Below w.heap.size w w') : CopyAt w' M B bo bn bw lsN lsR := by
  obtain ⟨ol, bl, psO, psN, psR, h1, h2, h3, ho, h4, h5, h6, h7⟩ := h
  exact ⟨ol, bl, psO, psN, psR, h1, h2, h3, ho, h4.bel hb, h5.bel hb, h6.bel hb, h7⟩
theorem cop_copy (h : PairAt w M B bn bw lsN lsR) (hps : lsN.length ≤ 1000000) : Ret Try.prog 26 [.pointer (some ⟨bn, 0, none⟩)].toArray w fun v w' => ∃ b M', v = .pointer (some ⟨b, 0, none⟩) ∧ CopyAt w' M' B bn b bw lsN lsR ∧ Below w.heap.size w w' ∧ ∀ k, M' k → M k ∨ w.heap.size ≤ k := by
  have hlow := h.low
  obtain ⟨bl, psN, psR, h1, h2, h3, h4, h5, rfl, rfl⟩ := h
  refine (copy_ret w M bn bl psN h4 (by simpa using hps)).mono ?_
  rintro v w' ⟨⟨b, b2, rfl, hb1, hb2, hb3, hb4, hN⟩, hbel⟩
  have hmn := h4.2.choose_spec.2.2.1
  have hml := h4.2.choose_spec.2.2.2.1
  have hmw := h5.2.choose_spec.2.1
  have hMs := h4.1
  have q1 := hMs bn hmn
  have q2 := hMs bl hml
  have q3 := hMs bw hmw
  have hsub : ∀ k, (M k ∨ k = b ∨ k = b2) → k < w.heap.size → M k := fun k hk hs => by
    rcases hk with hk | rfl | rfl
    · exact hk
    · omega
    · omega
  refine ⟨b, _, rfl, ⟨bl, b2, psN, psN, psR, ?_, ⟨by omega, by omega, by omega, by omega⟩, ⟨h2, h3, by omega, by omega⟩, by simpa using hps, h4.widen hbel hsub hN.1 (.inl hmn) (.inl hml), hN, h5.widen hbel hsub hN.1 (.inl hmw), rfl, rfl⟩, hbel, ?_⟩
  · intro k hk
    rcases hk with hk | rfl | rfl
    · exact h1 k hk
    · omega
    · omega
  · intro k hk
    rcases hk with hk | rfl | rfl
    · exact .inl hk
    · exact .inr hb1
    · exact .inr hb2
theorem cop_spoil (h : CopyAt w M B bo bn bw lsN lsR) (at' : Int) (m : UInt8) : Ret Try.prog 16 [.pointer (some ⟨bo, 0, none⟩), .int .i64 0, .int .i64 at', u8v m].toArray w fun v w' => CopyAt w' M B bo bn bw lsN lsR ∧ Kept M w w' := by
  have h' := h
  have hqq := h'
  obtain ⟨ol, bl, psO, psN, psR, h1, h2, h3, ho, h4, h5, h6, rfl, rfl⟩ := hqq
  by_cases hi : 0 < psO.length
  · have hlen := (h4.2.choose_spec.2.2.2.2 psO[0] (List.getElem_mem hi)).2
    rcases hsp : spoilOf psO[0].1.bs at' m with ⟨xs, c⟩
    by_cases hc : c = 0
    · subst hc
      by_cases hs : psO[0].1.sp = true
      · exact (nspoil_spoilt w M bo ol psO h4 0 hi hs at' m hsp).mono fun v w' ⟨_, hb⟩ => ⟨copy_bel h hb, Kept.of_bel hb⟩
      · have hs' : psO[0].1.sp = false := by simpa using hs
        have hxl := spoilOf_len hsp
        refine (nspoil_ok w M bo ol psO h4 0 hi hs' at' m hsp (by omega)).mono ?_
        rintro v w' ⟨_, fv, hn, hk⟩
        exact copy_step h1 h2 h3 (by simpa using ho) h4 h5 h6 hn hk
    · exact (nspoil_err hc w M bo ol psO h4 0 hi at' m hsp).mono fun v w' ⟨_, hb⟩ => ⟨copy_bel h hb, Kept.of_bel hb⟩
  · exact (nspoil_out w M bo ol psO h4 0 (by omega) at' m).mono fun v w' ⟨_, hb⟩ => ⟨copy_bel h hb, Kept.of_bel hb⟩
theorem cop_drop (h : CopyAt w M B bo bn bw lsN lsR) : Ret Try.prog 11 [.pointer (some ⟨bo, 0, none⟩), .int .i64 0].toArray w fun v w' => CopyAt w' M B bo bn bw lsN lsR ∧ Kept M w w' := by
  have h' := h
  have hqq := h'
  obtain ⟨ol, bl, psO, psN, psR, h1, h2, h3, ho, h4, h5, h6, rfl, rfl⟩ := hqq
  by_cases hi : 0 < psO.length
  · refine (drop_in w M bo ol psO h4 0 hi).mono ?_
    rintro v w' ⟨_, hn, hk⟩
    exact copy_step h1 h2 h3 (by have := (List.eraseIdx_sublist psO 0).length_le; omega) h4 h5 h6 hn hk
  · exact (drop_out w M bo ol psO h4 0 (by omega)).mono fun v w' ⟨_, hb⟩ => ⟨copy_bel h hb, Kept.of_bel hb⟩
theorem cop_send (h : CopyAt w M B bo bn bw lsN lsR) (to : Int) (bv : Value) (l : List UInt8) (hs : Bs w bv l) (hl : l.length ≤ 140737488355328) : Ret Try.prog 10 [.pointer (some ⟨bo, 0, none⟩), .int .u64 to, bv].toArray w fun v w' => PairAt w' M B bn bw lsN lsR ∧ Kept M w w' := by
  obtain ⟨ol, bl, psO, psN, psR, h1, h2, h3, ho, h4, h5, h6, rfl, rfl⟩ := h
  refine (send_ret w M bo ol psO h4 ho to bv l hs hl).mono ?_
  rintro v w' ⟨_, fv, ol', hol, hn, hk⟩
  have hmn := h4.2.choose_spec.2.2.1
  have hml := h4.2.choose_spec.2.2.2.1
  exact ⟨⟨bl, psN, psR, h1, h3.2.2.1, h3.2.2.2, h5.kept hk (NB_lt hmn hml) (fun h => by rcases h with h | h; exact h2.1 h.symm; exact h2.2.2.1 h.symm) (fun h => by rcases h with h | h; exact h2.2.1 h.symm; exact h2.2.2.2 h.symm), h6.kept hk (NB_lt hmn hml) (fun h => by rcases h with h | h; exact h3.1 h; exact h3.2.1 h), rfl, rfl⟩, hk.mono (NB_lt hmn hml)⟩
end
/-- an act, as it is read -/
structure AS where
  kind : Int
  to : Int
  bs : List UInt8
  at_ : Int
  n : Int
  mask : UInt8
def encA (p : AS × Value) : List Value := [.int .i64 p.1.kind, .int .u64 p.1.to, p.2, .int .i64 p.1.at_, .int .i64 p.1.n, u8v p.1.mask]
theorem encA_len (p : AS × Value) : (encA p).length = 6 := rfl
def doS (a : AS) (ls : List LS) : List LS :=
  if a.kind = 1 then ls ++ [⟨a.to, a.bs, false⟩] else if a.kind = 2 then (dropS ls a.at_).1 else if a.kind = 3 then (dropS ls a.at_).1 else if a.kind = 4 then (doubleS ls a.at_).1 else if a.kind = 5 then (spoilS ls a.at_ a.n a.mask).1 else ls
theorem doS_len (a : AS) (ls : List LS) : (doS a ls).length ≤ ls.length + 1 := by
  have h1 : (dropS ls a.at_).1.length ≤ ls.length + 1 := by
    unfold dropS; split
    · have := (List.eraseIdx_sublist ls a.at_.toNat).length_le; simp only; omega
    · simp
  unfold doS
  split
  · simp
  · split
    · exact h1
    · split
      · exact h1
      · split
        · unfold doubleS; split <;> simp
        · split
          · unfold spoilS; split
            · split <;> simp
            · simp
          · simp
end Go.Proofs.Ytjlclaimpepgiaa
