/-
  strings.Builder's own methods: walks.
-/
import Derived.Test.YtgdemkchfemmpaaDoorQt2
import Derived.Test.YtgdemkchfemmpaaDoorBase15
import Derived.Test.YtgdemkchfemmpaaDoorShelf
import Derived.Shelf.Unicode.ValidAny
import Derived.Shelf.Strings.BuilderK
import Derived.Shelf.Utf8.AppendRunePlain
import Derived.Shelf.Small.Utf8
import Derived.Shelf.Unicode.DecodeAny
import Derived.Lib.RuneBytes
namespace Go.Proofs.YtgdemkchfemmpaaDoor
open Go Go.RowKit Go.Cx
set_option linter.unusedVariables false
set_option maxHeartbeats 4000000
abbrev BdA (w : World) (B b : Nat) (l : List UInt8) : Prop := Bd 51 5 w B b l
abbrev WrA (B b : Nat) (w w' : World) : Prop := Wr 5 B b w w'
def slf (b : Nat) : Value := .pointer (some ⟨b, 0, none⟩)
theorem copyCheck_ret (w : World) (b : Nat) (p v : Value) (hp : p = .pointer none ∨ p = slf b) (hB : Blk w b 51 [p, v]) :
    Ret Tryd.prog 38 [slf b].toArray w fun _ w' => Blk w' b 51 [slf b, v] ∧ w.grownBy w' (some b) := by
  rcases hp with rfl | rfl
  · refine Ret.of (n := 20) (rs := #[]) Tryd.func38 rfl rfl rfl (by simp) ?_
    refine WC.seqR rfl ?_
    refine WL.y rfl (Y.move) ?_
    refine WL.y rfl (Y.nilCheck rfl) ?_
    refine WL.y rfl (Y.fieldAddr fi51f0 ti48 (by decide) rfl (rfl) _) ?_
    refine WL.y rfl (Y.load1 Tryd.underlying48 rfl rfl (hB.cell 0)) ?_
    refine WL.y rfl (Y.eqpn Tryd.underlying48 rfl rfl) ?_
    refine WL.nil ?_
    refine WC.condT (rfl) ?_
    refine WC.region rfl ?_
    refine WL.y rfl (Y.move) ?_
    refine WL.y rfl (Y.move) ?_
    refine WL.y rfl (Y.toUnsafe Tryd.underlying48 Tryd.underlying82 ti51 (by decide) rfl hB (by simp)) ?_
    refine WL.y rfl (Y.noEscape Tryd.func44 (by kernel_rfl) (by kernel_rfl) (by kernel_rfl) (by kernel_rfl) rfl) ?_
    refine WL.y rfl (Y.fromUnsafe Tryd.underlying82 Tryd.underlying48 ti51 rfl hB (by kernel_rfl)) ?_
    refine WL.y rfl (Y.nilCheck rfl) ?_
    refine WL.y rfl (Y.fieldAddr fi51f0 ti48 (by decide) rfl (rfl) _) ?_
    refine WL.eex rfl (E.storeX (u := slf b) (vs := [.pointer none, v]) ti48 rfl rfl rfl hB (by simp)) ?_
    rintro _ w2 ⟨hB2, hg2, -⟩
    refine WL.nil (endQ.zero (.inl rfl) ?_)
    exact ⟨hB2, hg2⟩
  · refine Ret.of (n := 20) (rs := #[]) Tryd.func38 rfl rfl rfl (by simp) ?_
    refine WC.seqR rfl ?_
    refine WL.y rfl (Y.move) ?_
    refine WL.y rfl (Y.nilCheck rfl) ?_
    refine WL.y rfl (Y.fieldAddr fi51f0 ti48 (by decide) rfl (rfl) _) ?_
    refine WL.y rfl (Y.load1 Tryd.underlying48 rfl rfl (hB.cell 0)) ?_
    refine WL.y rfl (Y.eqpn Tryd.underlying48 rfl rfl) ?_
    refine WL.nil ?_
    refine WC.condF (rfl) ?_
    refine WC.seqR rfl ?_
    refine WL.y rfl (Y.move) ?_
    refine WL.y rfl (Y.nilCheck rfl) ?_
    refine WL.y rfl (Y.fieldAddr fi51f0 ti48 (by decide) rfl (rfl) _) ?_
    refine WL.y rfl (Y.load1 Tryd.underlying48 rfl rfl (hB.cell 0)) ?_
    refine WL.y rfl (Y.move) ?_
    refine WL.y rfl (Y.nepSame Tryd.underlying48 ti51 rfl rfl) ?_
    refine WL.nil ?_
    refine WC.condF (rfl) ?_
    refine WC.skip (endQ.zero (.inl rfl) ?_)
    exact ⟨hB, ⟨rfl, rfl, rfl, Nat.le_refl _, fun _ _ _ => rfl⟩⟩
theorem Bd.keep {T T8 : TypeId} {w w' : World} {b : Nat} {v : Value} {n B : Nat} {xs : List Value} (ho : w.ownsRow B T8 1 v n xs) (hg : w.grownBy w' (some b)) (hne : v.ownBlock ≠ some b) : w'.ownsRow B T8 1 v n xs :=
  ho.kept hg (by
    cases hv : v.ownBlock with
    | none => exact .inl rfl
    | some q => exact .inr (fun e => hne (hv.trans e)))
theorem Bd.own {T T8 : TypeId} {w : World} {B b : Nat} {l : List UInt8} (h : Bd T T8 w B b l) : b < w.heap.size := by
  obtain ⟨_, p, v, _, hB, _⟩ := h
  exact hB.lt
theorem wr_end {w w1 w2 w3 w4 : World} {B b : Nat} {v : Value} {n : Nat} {xs : List Value} (k1 : WrA B b w w1) (hb : Below w1.heap.size w1 w2) (ho : w2.ownsRow B 5 1 v n xs) (hg : w2.grownBy w3 v.ownBlock) (hg4 : w3.grownBy w4 (some b)) (hB : B ≤ b) (hs : B ≤ w.heap.size) : WrA B b w w4 := by
  have s1 := k1.1.size
  have s2 := hb.size
  have s3 := hg.size
  exact ((k1.trans (Wr.of_below hb (by omega))).trans (Wr.of_row hg ho (by omega))).trans (Wr.of_self hg4 hB (by omega))
theorem bd_end {w2 w3 w4 : World} {B b : Nat} {p v v' : Value} {n : Nat} {xs : List Value} {l l' : List UInt8} (hBb : B ≤ b) (hB2 : Blk w2 b 51 [slf b, v]) (hne : v.ownBlock ≠ some b) (hg : w2.grownBy w3 v.ownBlock) (ho : w3.ownsRow B 5 1 v' n xs)
    (hB4 : Blk w3 b 51 [slf b, v] → Blk w4 b 51 [slf b, v'] ∧ w3.grownBy w4 (some b)) (hn : n = l'.length) (hx : xs = l'.map u8v) : BdA w4 B b l' := by
  have hB3 : Blk w3 b 51 [slf b, v] := hB2.grownR hg (fun r e h => hne (by rw [e, h]))
  have hqq := hB4 hB3
  obtain ⟨hB4, hg4⟩ := hqq
  have hne' : v'.ownBlock ≠ some b := by
    intro e
    rcases ho.2 with ⟨rfl, _⟩ | ⟨g, cap, cur, rfl, _, hg, _⟩
    · simp [Value.ownBlock] at e
    · simp [Value.ownBlock] at e
      subst e
      rw [show w3.heap[g]? = _ from hB3] at hg
      have := (Obj.cells.inj (Option.some.inj hg)).2.1
      exact absurd this (by decide)
  subst hn; subst hx
  exact ⟨hBb, _, _, .inr rfl, hB4, Bd.keep (T := 0) ho hg4 hne', hne'⟩
theorem writeByte_ret (w : World) (B b : Nat) (l : List UInt8) (c : UInt8) (h : BdA w B b l) (hl : l.length + 1 ≤ 140737488355328) (hs : B ≤ w.heap.size) :
    Ret Tryd.prog 23 [slf b, u8v c].toArray w fun _ w' => BdA w' B b (l ++ [c]) ∧ WrA B b w w' := by
  obtain ⟨hBb, p, v, hp, hB, ho, hne⟩ := h
  have hlt := hB.lt
  refine Ret.of (n := 17) (rs := #[.tmp 4]) Tryd.func23 rfl rfl rfl (by simp) ?_
  refine WC.seqR rfl ?_
  refine WL.y rfl (Y.assign) ?_
  refine WL.nil ?_
  refine WC.seqR rfl ?_
  refine WL.y rfl (Y.move) ?_
  refine WL.call rfl (C.func go38) (copyCheck_ret _ b p v hp hB) ?_
  rintro _ w1 ⟨hB1, hg1⟩
  have ho1 := Bd.keep (T := 0) ho hg1 hne
  have k1 : WrA B b w w1 := Wr.of_self hg1 hBb hs
  have hsz1 := hg1.size
  refine WL.nil ?_
  refine WC.seqR rfl ?_
  refine WL.y rfl (Y.move) ?_
  refine WL.y rfl (Y.move) ?_
  refine WL.y rfl (Y.nilCheck rfl) ?_
  refine WL.y rfl (Y.fieldAddr fi51f1 ti49 (by decide) rfl (rfl) _) ?_
  refine WL.y rfl (Y.load1 Tryd.underlying49 rfl rfl (hB1.cell 1)) ?_
  refine WL.y rfl (Y.move) ?_
  refine WL.eex rfl (E.build1 Tryd.underlying49 ti5 rfl rfl rfl) ?_
  rintro v13 w13 ⟨hs13, hb13, _⟩
  refine WL.eex rfl (E.append Tryd.underlying49 ti5 rfl (by decide) (news := [u8v c]) (ownsRow_bel ho1 hb13) hs13 (by intro u hu; simp only [List.mem_singleton] at hu; subst hu; rfl) (by omega) (by unfold maxLen; omega) (by have := hb13.size; omega)) ?_
  rintro v14 w14 ⟨ho14, hb14, hg14⟩
  have hB13 : Blk w14 b 51 [slf b, v] := (hB1.bel hb13).grownR hg14 (fun r e h => hne (by rw [← h]; exact e))
  refine WL.y rfl (Y.nilCheck rfl) ?_
  refine WL.y rfl (Y.fieldAddr fi51f1 ti49 (by decide) rfl (rfl) _) ?_
  refine WL.eex rfl (E.storeX (u := v14) (vs := [slf b, v]) ti49 rfl rfl (ownsRow_sl ho14).one hB13 (by simp)) ?_
  rintro _ w15 ⟨hB15, hg15, -⟩
  refine WL.nil ?_
  refine WC.seqR rfl ?_
  refine WL.y rfl (Y.assign) ?_
  refine WL.nil ?_
  refine WC.ret (endQ.one (.inr rfl) ?_)
  exact ⟨bd_end (l := l) (p := p) hBb (hB1.bel hb13) hne hg14 ho14 (fun _ => ⟨hB15, hg15⟩) (by simp) (by simp), wr_end k1 hb13 (ownsRow_bel ho1 hb13) hg14 hg15 hBb hs⟩
theorem writeString_ret (w : World) (B b : Nat) (l s : List UInt8) (h : BdA w B b l) (hl : l.length + s.length ≤ 140737488355328) (hs : B ≤ w.heap.size) :
    Ret Tryd.prog 27 [slf b, strv s].toArray w fun _ w' => BdA w' B b (l ++ s) ∧ WrA B b w w' := by
  obtain ⟨hBb, p, v, hp, hB, ho, hne⟩ := h
  have hlt := hB.lt
  refine Ret.of (n := 19) (rs := #[.tmp 4, .tmp 5]) Tryd.func27 rfl rfl rfl (by simp) ?_
  refine WC.seqR rfl ?_
  refine WL.y rfl (Y.assign) ?_
  refine WL.y rfl (Y.assign) ?_
  refine WL.nil ?_
  refine WC.seqR rfl ?_
  refine WL.y rfl (Y.move) ?_
  refine WL.call rfl (C.func go38) (copyCheck_ret _ b p v hp hB) ?_
  rintro _ w1 ⟨hB1, hg1⟩
  have ho1 := Bd.keep (T := 0) ho hg1 hne
  have k1 : WrA B b w w1 := Wr.of_self hg1 hBb hs
  have hsz1 := hg1.size
  refine WL.nil ?_
  refine WC.seqR rfl ?_
  refine WL.y rfl (Y.move) ?_
  refine WL.y rfl (Y.move) ?_
  refine WL.y rfl (Y.nilCheck rfl) ?_
  refine WL.y rfl (Y.fieldAddr fi51f1 ti49 (by decide) rfl (rfl) _) ?_
  refine WL.y rfl (Y.load1 Tryd.underlying49 rfl rfl (hB1.cell 1)) ?_
  refine WL.y rfl (Y.move) ?_
  refine WL.eex rfl (E.appendS Tryd.underlying49 Tryd.underlying9 ti5 ho1 rfl hl (by omega)) ?_
  rintro v14 w14 ⟨ho14, hb14, hg14⟩
  have hB13 : Blk w14 b 51 [slf b, v] := hB1.grownR hg14 (fun r e h => hne (by rw [← h]; exact e))
  refine WL.y rfl (Y.nilCheck rfl) ?_
  refine WL.y rfl (Y.fieldAddr fi51f1 ti49 (by decide) rfl (rfl) _) ?_
  refine WL.eex rfl (E.storeX (u := v14) (vs := [slf b, v]) ti49 rfl rfl (ownsRow_sl ho14).one hB13 (by simp)) ?_
  rintro _ w15 ⟨hB15, hg15, -⟩
  refine WL.nil ?_
  refine WC.seqR rfl ?_
  refine WL.y rfl (Y.move) ?_
  refine WL.y rfl (Y.lenS Tryd.underlying9 rfl _) ?_
  refine WL.y rfl (Y.assign) ?_
  refine WL.y rfl (Y.assign) ?_
  refine WL.nil ?_
  refine WC.ret (endQ.two (.inr rfl) ?_)
  exact ⟨bd_end (l := l) (p := p) hBb hB1 hne hg14 ho14 (fun _ => ⟨hB15, hg15⟩) (by simp) (by simp), wr_end k1 (Below.refl _ _) ho1 hg14 hg15 hBb hs⟩
theorem writeRune_ret (w : World) (B b : Nat) (l : List UInt8) (r : Nat) (h : BdA w B b l) (hr : r ≤ 1114111) (hl : l.length + 4 ≤ 140737488355328) (hs : B ≤ w.heap.size) :
    Ret Tryd.prog 25 [slf b, .int .i32 (r : Int)].toArray w fun _ w' => BdA w' B b (l ++ Lib.encodeRune (r : Int)) ∧ WrA B b w w' := by
  obtain ⟨hBb, p, v, hp, hB, ho, hne⟩ := h
  have hlt := hB.lt
  have hrl := Lib.runeCells_le (r : Int)
  have hre : Lib.runeCells (r : Int) = (Lib.encodeRune (r : Int)).map u8v := (Lib.byteCells_encodeRune (r : Int)).symm
  refine Ret.of (n := 30) (rs := #[.tmp 4, .tmp 5]) Tryd.func25 rfl rfl rfl (by simp) ?_
  refine WC.seqR rfl ?_
  refine WL.y rfl (Y.assign) ?_
  refine WL.y rfl (Y.assign) ?_
  refine WL.nil ?_
  refine WC.seqR rfl ?_
  refine WL.y rfl (Y.move) ?_
  refine WL.call rfl (C.func go38) (copyCheck_ret _ b p v hp hB) ?_
  rintro _ w1 ⟨hB1, hg1⟩
  have ho1 := Bd.keep (T := 0) ho hg1 hne
  have k1 : WrA B b w w1 := Wr.of_self hg1 hBb hs
  have hsz1 := hg1.size
  refine WL.nil ?_
  refine WC.seqR rfl ?_
  refine WL.y rfl (Y.move) ?_
  refine WL.y rfl (Y.nilCheck rfl) ?_
  refine WL.y rfl (Y.fieldAddr fi51f1 ti49 (by decide) rfl (rfl) _) ?_
  refine WL.y rfl (Y.load1 Tryd.underlying49 rfl rfl (hB1.cell 1)) ?_
  refine WL.y rfl (Y.lenSl Tryd.underlying49 (ownsRow_sl ho1) _) ?_
  refine WL.y rfl (Y.assign) ?_
  refine WL.nil ?_
  refine WC.seqR rfl ?_
  refine WL.y rfl (Y.move) ?_
  refine WL.y rfl (Y.move) ?_
  refine WL.y rfl (Y.nilCheck rfl) ?_
  refine WL.y rfl (Y.fieldAddr fi51f1 ti49 (by decide) rfl (rfl) _) ?_
  refine WL.y rfl (Y.load1 Tryd.underlying49 rfl rfl (hB1.cell 1)) ?_
  refine WL.y rfl (Y.move) ?_
  refine WL.call rfl (C.func go39) ((Calls.mono (Any.utf8_AppendRune_plain Tryd.laysAR (by kernel_rfl) B v l.length (l.map u8v) (r : Int) (by omega) (by omega) w1 ho1 (by omega) (by omega)) (fun e w' h => by obtain ⟨v', rfl, h2⟩ := h; exact ⟨v', rfl, h2⟩) : Ret _ _ _ _ fun v' w' => w'.ownsRow B 5 1 v' (l.length + (Lib.runeCells (r : Int)).length) (l.map u8v ++ Lib.runeCells (r : Int)) ∧ ∃ o, (w1.alloc o).grownBy w' v.ownBlock)) ?_
  rintro v14 w14 ⟨ho14, o14, hg14⟩
  have hb13 : Below w1.heap.size w1 (w1.alloc o14) := (Below.refl _ _).alloc (Nat.le_refl _) _
  have hB13 : Blk w14 b 51 [slf b, v] := (hB1.bel hb13).grownR hg14 (fun r e h => hne (by rw [← h]; exact e))
  refine WL.y rfl (Y.nilCheck rfl) ?_
  refine WL.y rfl (Y.fieldAddr fi51f1 ti49 (by decide) rfl (rfl) _) ?_
  refine WL.eex rfl (E.storeX (u := v14) (vs := [slf b, v]) ti49 rfl rfl (ownsRow_sl ho14).one hB13 (by simp)) ?_
  rintro _ w15 ⟨hB15, hg15, -⟩
  refine WL.nil ?_
  refine WC.seqR rfl ?_
  refine WL.y rfl (Y.move) ?_
  refine WL.y rfl (Y.nilCheck rfl) ?_
  refine WL.y rfl (Y.fieldAddr fi51f1 ti49 (by decide) rfl (rfl) _) ?_
  refine WL.y rfl (Y.load1 Tryd.underlying49 rfl rfl (hB15.cell 1)) ?_
  refine WL.y rfl (Y.lenSl Tryd.underlying49 (ownsRow_sl ho14) _) ?_
  refine WL.y rfl (Y.move) ?_
  refine WL.y rfl (Y.sub64 rfl rfl (by omega)) ?_
  refine WL.y rfl (Y.assign) ?_
  refine WL.y rfl (Y.assign) ?_
  refine WL.nil ?_
  refine WC.ret (endQ.two (.inr rfl) ?_)
  exact ⟨bd_end (l := l) (p := p) hBb (hB1.bel hb13) hne hg14 ho14 (fun _ => ⟨hB15, hg15⟩) (by rw [hre]; simp) (by rw [hre]; simp), wr_end k1 hb13 (ownsRow_bel ho1 hb13) hg14 hg15 hBb hs⟩
theorem extraS : Builder.Extra Tryd.prog Tryd.laysS_ren where
  sizeBuilder := by kernel_rfl
  liesBuilder := by kernel_rfl
  t5 := Tryd.underlying5
  a5 := Tryd.isAgg5
  z5 := Tryd.sizeOf5
  v5 := Tryd.zeroValue5
  infoByte := by kernel_rfl
  cellsByte := by kernel_rfl
  sizeByte := by kernel_rfl
  neB5 := by decide
theorem builderString_ret (w : World) (B b : Nat) (l : List UInt8) (h : BdA w B b l) (hs : B ≤ w.heap.size) :
    Ret Tryd.prog 28 [slf b].toArray w fun v w' => v = strv l ∧ WrA B b w w' := by
  obtain ⟨hBb, p, v, hp, hB, ho, hne⟩ := h
  have hA : Lib.BuilderAt 51 5 B b p (Lib.byteCells l) w := ⟨hBb, v, hB, by rw [Lib.byteCells_length]; exact ho, hne⟩
  have hI : Lib.IsBuilder 51 5 B b (Lib.byteCells l) w := by
    rcases hp with rfl | rfl
    · exact .inl hA
    · exact .inr hA
  refine Calls.mono (Any.Builder_String_any_k Tryd.laysS extraS B b l w (Lib.IsBuilderF.of hI) hs) ?_
  rintro e w' ⟨rfl, _, hb⟩
  exact ⟨_, rfl, rfl, hb⟩
end Go.Proofs.YtgdemkchfemmpaaDoor
