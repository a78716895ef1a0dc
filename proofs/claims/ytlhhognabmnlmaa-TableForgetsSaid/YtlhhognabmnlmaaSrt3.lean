/-
  slices.Sort at uint64: medianAdjacent, choosePivot; bits.Len, nextPowerOfTwo: walks.
-/
import Derived.Test.YtlhhognabmnlmaaSrt2
import Derived.Test.YtlhhognabmnlmaaBase21
namespace Go.Proofs.Ytlhhognabmnlmaa
open Go Go.RowKit Go.Cx
set_option linter.unusedVariables false
set_option maxHeartbeats 8000000
set_option maxRecDepth 20000
open Go.Sort
theorem median_lt {d : Array Int} {a b c sw N : Nat} (ha : a < N) (hb : b < N) (hc : c < N) : (median ltI d a b c sw).1 < N ∧ (median ltI d a b c sw).2 ≤ sw + 3 := by
  have hqq := order2_lt (d := d) (sw := sw) ha hb
  obtain ⟨b11, b12, b13⟩ := hqq
  have hqq := order2_lt (d := d) (sw := (order2 ltI d a b sw).2.2) b12 hc
  obtain ⟨b21, b22, b23⟩ := hqq
  have hqq := order2_lt (d := d) (sw := (order2 ltI d (order2 ltI d a b sw).2.1 c (order2 ltI d a b sw).2.2).2.2) b11 b21
  obtain ⟨b31, b32, b33⟩ := hqq
  exact ⟨b32, by show (order2 _ _ _ _ _).2.2 ≤ _; omega⟩
theorem madj_ret {w : World} {bl o N cap s : Nat} {d : Array Int} (a sw : Nat) {za : Int} (ea : za = (a : Int)) (h : SR w bl o N cap d) (hs : Blk w s 3 [.int .i64 (sw : Int)]) (ha : 0 < a) (hb : a + 1 < N) (hN : N ≤ 100000) (hw : sw ≤ 900) : Ret Try.prog 60 [.slice (some ⟨bl, o, none⟩) N cap, .int .i64 za, .pointer (some ⟨s, 0, none⟩)].toArray w fun v w' => v = .int .i64 ((medianAdjacent ltI d a sw).1 : Int) ∧ Blk w' s 3 [.int .i64 ((medianAdjacent ltI d a sw).2 : Int)] ∧ Kept (fun x => x = s) w w' := by
  subst ea
  refine Ret.of (n := 15) (rs := #[.tmp 6]) Try.func60 rfl rfl rfl (by simp) ?_
  refine WC.seqR rfl ?_
  refine WL.y rfl (Y.assign) ?_
  refine WL.nil ?_
  refine WC.seqR rfl ?_
  refine WL.y rfl (Y.move) ?_
  refine WL.y rfl (Y.move) ?_
  refine WL.y rfl (Y.sub64 rfl rfl (by omega)) ?_
  refine WL.y rfl (Y.move) ?_
  refine WL.y rfl (Y.move) ?_
  refine WL.y rfl (Y.add64 rfl rfl (by omega)) ?_
  refine WL.y rfl (Y.move) ?_
  refine WL.call rfl (C.func go61) (median_ret (a - 1) a (a + 1) sw (by omega) rfl (by omega) h hs (by omega) (by omega) (by omega) hw) ?_
  rintro _ w14 ⟨rfl, h14, k14⟩
  refine WL.y rfl (Y.assign) ?_
  refine WL.nil ?_
  refine WC.ret (endQ.one (.inr rfl) ?_)
  exact ⟨rfl, h14, k14⟩
/-- the pivot, and how many were exchanged -/
def rp (d : Array Int) (a b : Nat) : Nat × Nat :=
  if b - a ≥ 50 then
    median ltI d (medianAdjacent ltI d (a + (b - a) / 4 * 1) 0).1 (medianAdjacent ltI d (a + (b - a) / 4 * 2) (medianAdjacent ltI d (a + (b - a) / 4 * 1) 0).2).1 (medianAdjacent ltI d (a + (b - a) / 4 * 3) (medianAdjacent ltI d (a + (b - a) / 4 * 2) (medianAdjacent ltI d (a + (b - a) / 4 * 1) 0).2).2).1 (medianAdjacent ltI d (a + (b - a) / 4 * 3) (medianAdjacent ltI d (a + (b - a) / 4 * 2) (medianAdjacent ltI d (a + (b - a) / 4 * 1) 0).2).2).2
  else median ltI d (a + (b - a) / 4 * 1) (a + (b - a) / 4 * 2) (a + (b - a) / 4 * 3) 0
theorem cp_eq {d : Array Int} {a b : Nat} (h : 12 < b - a) : choosePivot ltI d a b = ((rp d a b).1, if (rp d a b).2 = 0 then .increasing else if (rp d a b).2 = 12 then .decreasing else .unknown) := by
  unfold choosePivot rp
  simp only [if_pos (show b - a ≥ 8 by omega)]
def hintI : Hint → Int
  | .unknown => 0
  | .increasing => 1
  | .decreasing => 2
theorem cp_ret {w : World} {bl o N cap : Nat} {d : Array Int} (a b : Nat) (h : SR w bl o N cap d) (hb : b ≤ N) (hN : N ≤ 100000) (hab : 12 < b - a) : Ret Try.prog 49 [.slice (some ⟨bl, o, none⟩) N cap, .int .i64 (a : Int), .int .i64 (b : Int)].toArray w fun v w' => v = .tuple #[.int .i64 ((choosePivot ltI d a b).1 : Int), .int .i64 (hintI (choosePivot ltI d a b).2)] ∧ Below w.heap.size w w' := by
  rw [cp_eq hab]
  have e1 : (a : Int) + ((b : Int) - (a : Int)) / 4 * 1 = ((a + (b - a) / 4 * 1 : Nat) : Int) := by omega
  have e2 : (a : Int) + ((b : Int) - (a : Int)) / 4 * 2 = ((a + (b - a) / 4 * 2 : Nat) : Int) := by omega
  have e3 : (a : Int) + ((b : Int) - (a : Int)) / 4 * 3 = ((a + (b - a) / 4 * 3 : Nat) : Int) := by omega
  generalize hi : a + (b - a) / 4 * 1 = i at *
  generalize hj : a + (b - a) / 4 * 2 = j at *
  generalize hk : a + (b - a) / 4 * 3 = k at *
  refine Ret.of (n := 57) (rs := #[.tmp 6, .tmp 7]) Try.func49 rfl rfl rfl (by simp) ?_
  refine WC.seqR rfl ?_
  refine WL.y rfl (Y.assign) ?_
  refine WL.y rfl (Y.assign) ?_
  refine WL.nil ?_
  refine WC.seqR rfl ?_
  refine WL.y rfl (Y.move) ?_
  refine WL.y rfl (Y.move) ?_
  refine WL.y rfl (Y.sub64 rfl rfl (by omega)) ?_
  refine WL.y rfl (Y.assign) ?_
  refine WL.nil ?_
  refine WC.seqR rfl ?_
  refine WL.eex rfl (E.allocX ti3) ?_
  rintro _ w9 ⟨rfl, hB9, hb9⟩
  refine WL.nil ?_
  have hB : Blk w9 w.heap.size 3 [.int .i64 ((0 : Nat) : Int)] := hB9
  have h9 := h.bel hb9
  have hne := h9.off (by omega) hB
  clear hB9
  have rpe : rp d a b = if b - a ≥ 50 then median ltI d (medianAdjacent ltI d i 0).1 (medianAdjacent ltI d j (medianAdjacent ltI d i 0).2).1 (medianAdjacent ltI d k (medianAdjacent ltI d j (medianAdjacent ltI d i 0).2).2).1 (medianAdjacent ltI d k (medianAdjacent ltI d j (medianAdjacent ltI d i 0).2).2).2 else median ltI d i j k 0 := by unfold rp; rw [hi, hj, hk]
  refine WC.seqR rfl ?_
  refine WL.y rfl (Y.move) ?_
  refine WL.y rfl (Y.move) ?_
  refine WL.y rfl (Y.quo64 rfl rfl (by omega) (by omega)) ?_
  refine WL.y rfl (Y.mul64 rfl rfl (by omega)) ?_
  refine WL.y rfl (Y.add64 rfl rfl (by omega)) ?_
  refine WL.y rfl (Y.assign) ?_
  refine WL.nil ?_
  refine WC.seqR rfl ?_
  refine WL.y rfl (Y.move) ?_
  refine WL.y rfl (Y.move) ?_
  refine WL.y rfl (Y.quo64 rfl rfl (by omega) (by omega)) ?_
  refine WL.y rfl (Y.mul64 rfl rfl (by omega)) ?_
  refine WL.y rfl (Y.add64 rfl rfl (by omega)) ?_
  refine WL.y rfl (Y.assign) ?_
  refine WL.nil ?_
  refine WC.seqR rfl ?_
  refine WL.y rfl (Y.move) ?_
  refine WL.y rfl (Y.move) ?_
  refine WL.y rfl (Y.quo64 rfl rfl (by omega) (by omega)) ?_
  refine WL.y rfl (Y.mul64 rfl rfl (by omega)) ?_
  refine WL.y rfl (Y.add64 rfl rfl (by omega)) ?_
  refine WL.y rfl (Y.assign) ?_
  refine WL.nil ?_
  refine WC.seq ?_
  refine WC.cut (fun f ds w' => ds = [] ∧ Below w.heap.size w w' ∧ Blk w' w.heap.size 3 [.int .i64 ((rp d a b).2 : Int)] ∧ ∃ J, f = Go.Cx.ov J [(9, .pointer (some ⟨w.heap.size, 0, none⟩)), (11, .int .i64 ((rp d a b).1 : Int))]) ?_ ?_
  · refine WC.seqR rfl ?_
    refine WL.y rfl (Y.move) ?_
    refine WL.y rfl (Y.dT (Y.geq rfl rfl) (by omega)) ?_
    refine WL.nil ?_
    refine WC.condT (rfl) ?_
    refine WC.seq ?_
    refine WC.seqR rfl ?_
    refine WL.y rfl (Y.move) ?_
    refine WL.y rfl (Y.geq rfl rfl) ?_
    refine WL.nil ?_
    refine WC.condD rfl (fun c50 => ?_) (fun c50 => ?_)
    · have c50' : b - a ≥ 50 := by omega
      rw [if_pos c50'] at rpe
      rw [rpe]
      have m1 := median_lt (d := d) (a := i - 1) (b := i) (c := i + 1) (sw := 0) (N := N) (by omega) (by omega) (by omega)
      have m2 := median_lt (d := d) (a := j - 1) (b := j) (c := j + 1) (sw := (medianAdjacent ltI d i 0).2) (N := N) (by omega) (by omega) (by omega)
      have m3 := median_lt (d := d) (a := k - 1) (b := k) (c := k + 1) (sw := (medianAdjacent ltI d j (medianAdjacent ltI d i 0).2).2) (N := N) (by omega) (by omega) (by omega)
      have m1' : (medianAdjacent ltI d i 0).1 < N ∧ (medianAdjacent ltI d i 0).2 ≤ 0 + 3 := m1
      have m2' : (medianAdjacent ltI d j (medianAdjacent ltI d i 0).2).1 < N ∧ (medianAdjacent ltI d j (medianAdjacent ltI d i 0).2).2 ≤ (medianAdjacent ltI d i 0).2 + 3 := m2
      have m3' : (medianAdjacent ltI d k (medianAdjacent ltI d j (medianAdjacent ltI d i 0).2).2).1 < N ∧ (medianAdjacent ltI d k (medianAdjacent ltI d j (medianAdjacent ltI d i 0).2).2).2 ≤ (medianAdjacent ltI d j (medianAdjacent ltI d i 0).2).2 + 3 := m3
      refine WC.seqR rfl ?_
      refine WL.y rfl (Y.move) ?_
      refine WL.y rfl (Y.move) ?_
      refine WL.call rfl (C.func go60) (madj_ret i 0 e1 h9 hB (by omega) (by omega) hN (by omega)) ?_
      rintro _ w37 ⟨rfl, h37, k37⟩
      refine WL.y rfl (Y.assign) ?_
      refine WL.nil ?_
      refine WC.seqR rfl ?_
      refine WL.y rfl (Y.move) ?_
      refine WL.y rfl (Y.move) ?_
      refine WL.call rfl (C.func go60) (madj_ret j _ e2 (h9.keep k37 hne) h37 (by omega) (by omega) hN (by omega)) ?_
      rintro _ w40 ⟨rfl, h40, k40⟩
      refine WL.y rfl (Y.assign) ?_
      refine WL.nil ?_
      refine WC.region rfl ?_
      refine WL.y rfl (Y.move) ?_
      refine WL.y rfl (Y.move) ?_
      refine WL.call rfl (C.func go60) (madj_ret k _ e3 ((h9.keep k37 hne).keep k40 hne) h40 (by omega) (by omega) hN (by omega)) ?_
      rintro _ w43 ⟨rfl, h43, k43⟩
      refine WL.y rfl (Y.assign) ?_
      refine WL.nil (thenQ.normal ?_)
      refine WC.region rfl ?_
      refine WL.y rfl (Y.move) ?_
      refine WL.y rfl (Y.move) ?_
      refine WL.y rfl (Y.move) ?_
      refine WL.y rfl (Y.move) ?_
      refine WL.call rfl (C.func go61) (median_ret _ _ _ _ rfl rfl rfl (((h9.keep k37 hne).keep k40 hne).keep k43 hne) h43 (by omega) (by omega) (by omega) (by omega)) ?_
      rintro _ w48 ⟨rfl, h48, k48⟩
      refine WL.y rfl (Y.assign) ?_
      refine WL.nil (thenQ.normal ?_)
      exact ⟨rfl, (hb9.trans ((((k37.trans k40).trans k43).trans k48).below (B := w.heap.size) (fun x hx => by omega) hb9.size)), h48, _, ov_mk ⟨rfl, rfl, trivial⟩⟩
    · rw [if_neg (by omega)] at rpe
      rw [rpe]
      refine WC.skip (thenQ.normal ?_)
      refine WC.region rfl ?_
      refine WL.y rfl (Y.move) ?_
      refine WL.y rfl (Y.move) ?_
      refine WL.y rfl (Y.move) ?_
      refine WL.y rfl (Y.move) ?_
      refine WL.call rfl (C.func go61) (median_ret i j k 0 e1 e2 e3 h9 hB (by omega) (by omega) (by omega) (by omega)) ?_
      rintro _ w48 ⟨rfl, h48, k48⟩
      refine WL.y rfl (Y.assign) ?_
      refine WL.nil (thenQ.normal ?_)
      exact ⟨rfl, hb9.trans (k48.below (B := w.heap.size) (fun x hx => by omega) hb9.size), h48, _, ov_mk ⟨rfl, rfl, trivial⟩⟩
  · rintro _ _ wC ⟨rfl, kC, hC, J, rfl⟩
    refine WC.seqR rfl ?_
    refine WL.y rfl (Y.load1 Try.underlying3 rfl rfl (hC.cell 0)) ?_
    refine WL.nil ?_
    refine WC.block ?_
    by_cases z0 : (rp d a b).2 = 0
    · rw [if_pos z0]
      refine WC.seqR rfl ?_
      refine WL.y rfl (Y.dT (Y.eqi rfl rfl) (by omega)) ?_
      refine WL.y rfl (Y.assign) ?_
      refine WL.nil ?_
      refine WC.condT (rfl) ?_
      refine WC.seqR rfl ?_
      refine WL.y rfl (Y.move) ?_
      refine WL.y rfl (Y.assign) ?_
      refine WL.y rfl (Y.assign) ?_
      refine WL.nil ?_
      refine WC.ret (inBlockQ.ret (endQ.two (.inr rfl) ?_))
      exact ⟨rfl, kC⟩
    · rw [if_neg z0]
      by_cases z12 : (rp d a b).2 = 12
      · rw [if_pos z12]
        refine WC.seqR rfl ?_
        refine WL.y rfl (Y.dF (Y.eqi rfl rfl) (by omega)) ?_
        refine WL.y rfl (Y.assign) ?_
        refine WL.nil ?_
        refine WC.condF (rfl) ?_
        refine WC.seqR rfl ?_
        refine WL.y rfl (Y.dT (Y.eqi rfl rfl) (by omega)) ?_
        refine WL.y rfl (Y.assign) ?_
        refine WL.nil ?_
        refine WC.condT (rfl) ?_
        refine WC.seqR rfl ?_
        refine WL.y rfl (Y.move) ?_
        refine WL.y rfl (Y.assign) ?_
        refine WL.y rfl (Y.assign) ?_
        refine WL.nil ?_
        refine WC.ret (inBlockQ.ret (endQ.two (.inr rfl) ?_))
        exact ⟨rfl, kC⟩
      · rw [if_neg z12]
        skip
        refine WC.seqR rfl ?_
        refine WL.y rfl (Y.dF (Y.eqi rfl rfl) (by omega)) ?_
        refine WL.y rfl (Y.assign) ?_
        refine WL.nil ?_
        refine WC.condF (rfl) ?_
        refine WC.seqR rfl ?_
        refine WL.y rfl (Y.dF (Y.eqi rfl rfl) (by omega)) ?_
        refine WL.y rfl (Y.assign) ?_
        refine WL.nil ?_
        refine WC.condF (rfl) ?_
        refine WC.seqR rfl ?_
        refine WL.y rfl (Y.move) ?_
        refine WL.y rfl (Y.assign) ?_
        refine WL.y rfl (Y.assign) ?_
        refine WL.nil ?_
        refine WC.ret (inBlockQ.ret (endQ.two (.inr rfl) ?_))
        exact ⟨rfl, kC⟩
theorem bitsLen_half {n : Nat} (h : 0 < n) : bitsLen n = bitsLen (n / 2) + 1 := by
  unfold bitsLen
  rw [if_neg (by omega)]
  by_cases h1 : n = 1
  · subst h1; rfl
  · rw [if_neg (by omega), Nat.log2_def, if_pos (by omega)]
theorem bitsLen_8 {n : Nat} (h : 256 ≤ n) : bitsLen n = bitsLen (n / 256) + 8 := by
  rw [bitsLen_half (by omega), bitsLen_half (n := n / 2) (by omega), bitsLen_half (n := n / 2 / 2) (by omega), bitsLen_half (n := n / 2 / 2 / 2) (by omega), bitsLen_half (n := n / 2 / 2 / 2 / 2) (by omega), bitsLen_half (n := n / 2 / 2 / 2 / 2 / 2) (by omega), bitsLen_half (n := n / 2 / 2 / 2 / 2 / 2 / 2) (by omega), bitsLen_half (n := n / 2 / 2 / 2 / 2 / 2 / 2 / 2) (by omega)]
  have : n / 2 / 2 / 2 / 2 / 2 / 2 / 2 / 2 = n / 256 := by omega
  rw [this]
def tabOk (tab : List UInt8) : Bool := (List.range 256).all (fun t => (tab.getD t 0).toNat == bitsLen t) && decide (tab.length = 256)
theorem Y.idxTab {P : Program} {f : Fr} {d : Option Tmp} {ty : TypeId} {pos : String} {aft : Array Edge} {g : Option (Nat × Bool)} {x y : Operand} {xt : TypeId} {ki : IntKind} {z : Int} {tab : List UInt8} (t : Nat) (ht : P.underlying xt = some .string) (hx : ev f x = strv tab) (hy : ev f y = .int ki z) (hz : z = (t : Int)) (h : t < 256) (hok : tabOk tab = true) (w' : World) :
    Y P ⟨d, .index xt x y, ty, pos, aft, g⟩ f w' (.int .u8 (bitsLen t : Int)) := by
  unfold tabOk at hok
  rw [Bool.and_eq_true, List.all_eq_true, decide_eq_true_eq] at hok
  have h1 := hok.1 t (List.mem_range.2 h)
  have h2 := Y.idxN (P := P) (d := d) (ty := ty) (pos := pos) (aft := aft) (g := g) t ht hx hy hz (by rw [hok.2]; exact h) w'
  have e : (tab.getD t 0).toNat = bitsLen t := by simpa using h1
  unfold u8v at h2
  rw [e] at h2
  exact h2
theorem bitsLen_le : ∀ t, t < 256 → bitsLen t ≤ 8 := by decide
theorem Y.shr8U64 {P : Program} {f : Fr} {w : World} {d : Option Tmp} {ty : TypeId} {pos : String} {aft : Array Edge} {g : Option (Nat × Bool)} {x y : Operand} {a : Nat} {xt yt : TypeId} {k : IntKind} (hx : ev f x = .int .u64 (a : Int)) (hy : ev f y = .int k 8) : Y P ⟨d, .binOp .shr xt x y yt, ty, pos, aft, g⟩ f w (.int .u64 ((a / 256 : Nat) : Int)) := by
  refine Y.bin_of hx hy (by simp [eqGuard]) ?_
  have h1 : (a : Int).fdiv (2 ^ min 8 64) = ((a / 256 : Nat) : Int) := by
    rw [show (2 : Int) ^ min 8 64 = 256 by decide, Int.fdiv_eq_ediv_of_nonneg _ (by decide)]
    omega
  show (pure (Value.int .u64 ((a : Int).fdiv (2 ^ min 8 64))) : Sem Value) = _
  rw [h1]
theorem len64_ret (w : World) (x : Nat) (hx : x < 65536) : Ret Try.prog 56 [.int .u64 (x : Int)].toArray w fun v w' => v = .int .i64 (bitsLen x : Int) ∧ w = w' := by
  refine Ret.of (n := 25) (rs := #[.tmp 2]) Try.func56 rfl rfl rfl (by simp) ?_
  refine WC.seqR rfl ?_
  refine WL.y rfl (Y.assign) ?_
  refine WL.nil ?_
  refine WC.seq ?_
  refine WC.seqR rfl ?_
  refine WL.y rfl (Y.move) ?_
  refine WL.y rfl (Y.dF (Y.geq rfl rfl) (by omega)) ?_
  refine WL.nil ?_
  refine WC.condF (rfl) ?_
  refine WC.skip (thenQ.normal ?_)
  refine WC.seq ?_
  refine WC.seqR rfl ?_
  refine WL.y rfl (Y.move) ?_
  refine WL.y rfl (Y.dF (Y.geq rfl rfl) (by omega)) ?_
  refine WL.nil ?_
  refine WC.condF (rfl) ?_
  refine WC.skip (thenQ.normal ?_)
  refine WC.seq ?_
  by_cases c : 256 ≤ x
  · have hb := bitsLen_le (x / 256) (by omega)
    have he := bitsLen_8 c
    refine WC.seqR rfl ?_
    refine WL.y rfl (Y.move) ?_
    refine WL.y rfl (Y.dT (Y.geq rfl rfl) (by omega)) ?_
    refine WL.nil ?_
    refine WC.condT (rfl) ?_
    refine WC.seqR rfl ?_
    refine WL.y rfl (Y.move) ?_
    refine WL.y rfl (Y.shr8U64 rfl rfl) ?_
    refine WL.y rfl (Y.assign) ?_
    refine WL.nil ?_
    refine WC.region rfl ?_
    refine WL.y rfl (Y.move) ?_
    refine WL.y rfl (Y.add64 rfl rfl (by omega)) ?_
    refine WL.y rfl (Y.assign) ?_
    refine WL.nil (thenQ.normal ?_)
    refine WC.seqR rfl ?_
    refine WL.y rfl (Y.move) ?_
    refine WL.y rfl (Y.move) ?_
    refine WL.y rfl (Y.conviR Try.underlying22 Try.underlying5 rfl (by show (0 : Int) ≤ _ ∧ _ ≤ (255 : Int); omega)) ?_
    refine WL.y rfl (Y.idxTab (x / 256) Try.underlying9 rfl rfl rfl (by omega) (by kernel_rfl) _) ?_
    refine WL.y rfl (Y.conviR Try.underlying5 Try.underlying3 rfl (by simp only [IntKind.min, IntKind.max, IntKind.signed, IntKind.bits]; omega)) ?_
    refine WL.y rfl (Y.add64 rfl rfl (by omega)) ?_
    refine WL.y rfl (Y.assign) ?_
    refine WL.nil ?_
    refine WC.ret (endQ.one (.inr rfl) ?_)
    exact ⟨show Value.int .i64 (0 + 8 + (bitsLen (x / 256) : Int)) = _ by rw [he]; congr 1; omega, rfl⟩
  · have hb := bitsLen_le x (by omega)
    skip
    refine WC.seqR rfl ?_
    refine WL.y rfl (Y.move) ?_
    refine WL.y rfl (Y.dF (Y.geq rfl rfl) (by omega)) ?_
    refine WL.nil ?_
    refine WC.condF (rfl) ?_
    refine WC.skip (thenQ.normal ?_)
    refine WC.seqR rfl ?_
    refine WL.y rfl (Y.move) ?_
    refine WL.y rfl (Y.move) ?_
    refine WL.y rfl (Y.conviR Try.underlying22 Try.underlying5 rfl (by show (0 : Int) ≤ _ ∧ _ ≤ (255 : Int); omega)) ?_
    refine WL.y rfl (Y.idxTab x Try.underlying9 rfl rfl rfl (by omega) (by kernel_rfl) _) ?_
    refine WL.y rfl (Y.conviR Try.underlying5 Try.underlying3 rfl (by simp only [IntKind.min, IntKind.max, IntKind.signed, IntKind.bits]; omega)) ?_
    refine WL.y rfl (Y.add64 rfl rfl (by omega)) ?_
    refine WL.y rfl (Y.assign) ?_
    refine WL.nil ?_
    refine WC.ret (endQ.one (.inr rfl) ?_)
    exact ⟨show Value.int .i64 (0 + (bitsLen x : Int)) = _ by congr 1; omega, rfl⟩
theorem len_ret (w : World) (x : Nat) (hx : x < 65536) : Ret Try.prog 45 [.int .u64 (x : Int)].toArray w fun v w' => v = .int .i64 (bitsLen x : Int) ∧ w = w' := by
  refine Ret.of (n := 8) (rs := #[.tmp 2]) Try.func45 rfl rfl rfl (by simp) ?_
  refine WC.seqR rfl ?_
  refine WL.y rfl (Y.assign) ?_
  refine WL.nil ?_
  refine WC.seq ?_
  refine WC.condF (rfl) ?_
  refine WC.skip (thenQ.normal ?_)
  refine WC.seqR rfl ?_
  refine WL.y rfl (Y.move) ?_
  refine WL.call rfl (C.func go56) (len64_ret _ x hx) ?_
  rintro _ _ ⟨rfl, rfl⟩
  refine WL.y rfl (Y.assign) ?_
  refine WL.nil ?_
  refine WC.ret (endQ.one (.inr rfl) ?_)
  exact ⟨rfl, rfl⟩
theorem bitsLen_16 {x : Nat} (h : x < 65536) : bitsLen x ≤ 16 := by
  by_cases c : 256 ≤ x
  · rw [bitsLen_8 c]
    have := bitsLen_le (x / 256) (by omega)
    omega
  · have := bitsLen_le x (by omega)
    omega
theorem npt_ret (w : World) (x : Nat) {z : Int} (hz : z = (x : Int)) (hx : x < 65536) : Ret Try.prog 58 [.int .i64 z].toArray w fun v w' => v = u64w (1#64 <<< bitsLen x) ∧ w = w' := by
  subst hz
  have h16 := bitsLen_16 hx
  refine Ret.of (n := 7) (rs := #[.tmp 2]) Try.func58 rfl rfl rfl (by simp) ?_
  refine WC.seqR rfl ?_
  refine WL.y rfl (Y.assign) ?_
  refine WL.nil ?_
  refine WC.seqR rfl ?_
  refine WL.y rfl (Y.move) ?_
  refine WL.y rfl (Y.conviR Try.underlying3 Try.underlying80 rfl (by simp only [IntKind.min, IntKind.max, IntKind.signed, IntKind.bits]; omega)) ?_
  refine WL.call rfl (C.func go45) (len_ret _ x hx) ?_
  rintro _ _ ⟨rfl, rfl⟩
  refine WL.y rfl (Y.shlU64 (a := 1#64) (n := bitsLen x) rfl rfl (by omega)) ?_
  refine WL.y rfl (Y.assign) ?_
  refine WL.nil ?_
  refine WC.ret (endQ.one (.inr rfl) ?_)
  exact ⟨rfl, rfl⟩
/-- the next of a row of numbers drawn -/
def nx (r : BitVec 64) : BitVec 64 :=
  let r1 := r ^^^ (r <<< 13)
  let r2 := r1 ^^^ (r1 >>> 7)
  r2 ^^^ (r2 <<< 17)
theorem nx_eq (u : UInt64) : (xorNext u).toBitVec = nx u.toBitVec := by
  unfold xorNext nx
  simp [UInt64.toBitVec_xor, UInt64.toBitVec_shiftLeft, UInt64.toBitVec_shiftRight]
theorem next_ret (w : World) (s : Nat) (r : BitVec 64) (hs : Blk w s 96 [u64w r]) : Ret Try.prog 59 [.pointer (some ⟨s, 0, none⟩)].toArray w fun v w' => v = u64w (nx r) ∧ Blk w' s 96 [u64w (nx r)] ∧ Kept (fun x => x = s) w w' := by
  refine Ret.of (n := 33) (rs := #[.tmp 2]) Try.func59 rfl rfl rfl (by simp) ?_
  refine WC.seqR rfl ?_
  refine WL.y rfl (Y.assign) ?_
  refine WL.nil ?_
  refine WC.seq ?_
  refine WC.regionB (fun i => Nat.beq i 9) [(0, .any), (1, .any), (2, .held), (3, .any), (4, .any), (5, .held), (6, .any), (7, .any), (8, .any), (9, .seq)] mixed (by kernel_rfl) (fun w1x hS1 hheap => ?_)
  refine RL.any rfl rfl (fun _ => Y.move) ?_
  refine RL.any rfl rfl (fun _ => Y.nilCheck rfl) ?_
  refine RL.held rfl rfl hS1 (fun _ hb9 => Y.load1 Try.underlying96 rfl rfl (cell_bel (hs.cell 0) hb9)) ?_
  refine RL.any rfl rfl (fun _ => Y.move) ?_
  refine RL.any rfl rfl (fun _ => Y.nilCheck rfl) ?_
  refine RL.held rfl rfl hS1 (fun _ hb9 => Y.load1 Try.underlying96 rfl rfl (cell_bel (hs.cell 0) hb9)) ?_
  refine RL.any rfl rfl (fun _ => Y.shlU64 (n := 13) rfl rfl (by omega)) ?_
  refine RL.any rfl rfl (fun _ => Y.xorU64 rfl rfl) ?_
  refine RL.any rfl rfl (fun _ => Y.nilCheck rfl) ?_
  refine RL.eex rfl rfl (E.storeX (u := u64w (r ^^^ (r <<< 13))) ti96 rfl rfl rfl (hs.bel hS1) (by simp)) ?_ ?_
  · exact fun _ _ _ => .inl rfl
  rintro _ w1s ⟨hB1, hg1, -⟩
  refine RL.nil (thenQ.normal ?_)
  refine WC.seq ?_
  refine WC.regionB (fun i => Nat.beq i 9) [(0, .any), (1, .any), (2, .held), (3, .any), (4, .any), (5, .held), (6, .any), (7, .any), (8, .any), (9, .seq)] mixed (by kernel_rfl) (fun w2x hS2 hheap => ?_)
  refine RL.any rfl rfl (fun _ => Y.move) ?_
  refine RL.any rfl rfl (fun _ => Y.nilCheck rfl) ?_
  refine RL.held rfl rfl hS2 (fun _ hb9 => Y.load1 Try.underlying96 rfl rfl (cell_bel (hB1.cell 0) hb9)) ?_
  refine RL.any rfl rfl (fun _ => Y.move) ?_
  refine RL.any rfl rfl (fun _ => Y.nilCheck rfl) ?_
  refine RL.held rfl rfl hS2 (fun _ hb9 => Y.load1 Try.underlying96 rfl rfl (cell_bel (hB1.cell 0) hb9)) ?_
  refine RL.any rfl rfl (fun _ => Y.shrU64 (n := 7) rfl rfl) ?_
  refine RL.any rfl rfl (fun _ => Y.xorU64 rfl rfl) ?_
  refine RL.any rfl rfl (fun _ => Y.nilCheck rfl) ?_
  refine RL.eex rfl rfl (E.storeX (u := u64w ((r ^^^ (r <<< 13)) ^^^ ((r ^^^ (r <<< 13)) >>> 7))) ti96 rfl rfl rfl (hB1.bel hS2) (by simp)) ?_ ?_
  · exact fun _ _ _ => .inl rfl
  rintro _ w2s ⟨hB2, hg2, -⟩
  refine RL.nil (thenQ.normal ?_)
  refine WC.seq ?_
  refine WC.regionB (fun i => Nat.beq i 9) [(0, .any), (1, .any), (2, .held), (3, .any), (4, .any), (5, .held), (6, .any), (7, .any), (8, .any), (9, .seq)] mixed (by kernel_rfl) (fun w3x hS3 hheap => ?_)
  refine RL.any rfl rfl (fun _ => Y.move) ?_
  refine RL.any rfl rfl (fun _ => Y.nilCheck rfl) ?_
  refine RL.held rfl rfl hS3 (fun _ hb9 => Y.load1 Try.underlying96 rfl rfl (cell_bel (hB2.cell 0) hb9)) ?_
  refine RL.any rfl rfl (fun _ => Y.move) ?_
  refine RL.any rfl rfl (fun _ => Y.nilCheck rfl) ?_
  refine RL.held rfl rfl hS3 (fun _ hb9 => Y.load1 Try.underlying96 rfl rfl (cell_bel (hB2.cell 0) hb9)) ?_
  refine RL.any rfl rfl (fun _ => Y.shlU64 (n := 17) rfl rfl (by omega)) ?_
  refine RL.any rfl rfl (fun _ => Y.xorU64 rfl rfl) ?_
  refine RL.any rfl rfl (fun _ => Y.nilCheck rfl) ?_
  refine RL.eex rfl rfl (E.storeX (u := u64w (nx r)) ti96 rfl rfl rfl (hB2.bel hS3) (by simp)) ?_ ?_
  · exact fun _ _ _ => .inl rfl
  rintro _ w3s ⟨hB3, hg3, -⟩
  refine RL.nil (thenQ.normal ?_)
  refine WC.seqR rfl ?_
  refine WL.y rfl (Y.move) ?_
  refine WL.y rfl (Y.nilCheck rfl) ?_
  refine WL.y rfl (Y.load1 Try.underlying96 rfl rfl (hB3.cell 0)) ?_
  refine WL.y rfl (Y.assign) ?_
  refine WL.nil ?_
  refine WC.ret (endQ.one (.inr rfl) ?_)
  exact ⟨rfl, hB3, (((((Kept.of_bel (M := fun x => x = s) hS1).trans (Kept.of_grown hg1 rfl)).bel hS2).trans (Kept.of_grown hg2 rfl)).bel hS3).trans (Kept.of_grown hg3 rfl)⟩
end Go.Proofs.Ytlhhognabmnlmaa
