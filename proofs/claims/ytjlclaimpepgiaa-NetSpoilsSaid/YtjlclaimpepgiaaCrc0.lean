/-
  The sums of chapter 15 in plain Lean: registers as words of 32 bits. No program in sight.
-/
import Derived.Test.YtjlclaimpepgiaaBase1
namespace Go.Proofs.Ytjlclaimpepgiaa
open Go Go.RowKit Go.Cx
set_option linter.unusedVariables false
namespace Crc

def poly : BitVec 32 := 0xEDB88320#32
def step (r : BitVec 32) : BitVec 32 := bif r.getLsbD 0 then (r >>> 1) ^^^ poly else r >>> 1
def stepN : Nat → BitVec 32 → BitVec 32
  | 0, r => r
  | n + 1, r => stepN n (step r)
def w8 (c : UInt8) : BitVec 32 := c.toBitVec.setWidth 32
def byteStep (r : BitVec 32) (c : UInt8) : BitVec 32 := stepN 8 (r ^^^ w8 c)
def reg (r : BitVec 32) (l : List UInt8) : BitVec 32 := l.foldl byteStep r
def more (s : BitVec 32) (l : List UInt8) : BitVec 32 := ~~~ (reg (~~~ s) l)
def sum (l : List UInt8) : BitVec 32 := more 0 l

theorem step_xor (a b : BitVec 32) : step (a ^^^ b) = step a ^^^ step b := by
  unfold step
  rw [BitVec.getLsbD_xor, BitVec.ushiftRight_xor_distrib]
  cases a.getLsbD 0 <;> cases b.getLsbD 0 <;> simp
  · ac_rfl
  · ac_rfl
  · rw [show a >>> 1 ^^^ poly ^^^ (b >>> 1 ^^^ poly) = a >>> 1 ^^^ b >>> 1 ^^^ (poly ^^^ poly) by ac_rfl]; simp
theorem stepN_xor (n : Nat) (a b : BitVec 32) : stepN n (a ^^^ b) = stepN n a ^^^ stepN n b := by
  induction n generalizing a b with
  | zero => rfl
  | succ n ih => simp only [stepN, step_xor, ih]
theorem stepN_add (m n : Nat) (r : BitVec 32) : stepN (m + n) r = stepN n (stepN m r) := by
  induction m generalizing r with
  | zero => simp [stepN]
  | succ m ih => rw [Nat.succ_add]; simp only [stepN, ih]
theorem stepN_succ (n : Nat) (r : BitVec 32) : stepN (n + 1) r = step (stepN n r) := by rw [stepN_add]; rfl
theorem step_zero : step 0 = 0 := by decide
theorem stepN_zero (n : Nat) : stepN n 0 = 0 := by
  induction n with
  | zero => rfl
  | succ n ih => simp only [stepN, step_zero, ih]
theorem step_top (r : BitVec 32) : (step r).getLsbD 31 = r.getLsbD 0 := by
  unfold step
  cases h : r.getLsbD 0
  · simp
  · simp only [cond_true, BitVec.getLsbD_xor, BitVec.getLsbD_ushiftRight]
    rw [BitVec.getLsbD_of_ge r (1 + 31) (by omega)]
    decide
theorem step_inj0 (r : BitVec 32) (h : step r = 0) : r = 0 := by
  have h1 : false = r.getLsbD 0 := by rw [← step_top, h]; decide
  have h2 : r >>> 1 = 0 := by unfold step at h; rw [← h1] at h; simpa using h
  apply BitVec.eq_of_getLsbD_eq
  intro i hi
  cases i with
  | zero => rw [← h1]; simp
  | succ i =>
    have h3 : (r >>> 1).getLsbD i = false := by rw [h2]; simp
    rw [BitVec.getLsbD_ushiftRight, Nat.add_comm] at h3
    rw [h3]; simp
theorem xor_eq_zero {a b : BitVec 32} (h : a ^^^ b = 0) : a = b := by
  have : a ^^^ b ^^^ b = 0 ^^^ b := by rw [h]
  rw [BitVec.xor_assoc, BitVec.xor_self] at this
  simpa using this
theorem stepN_inj0 (n : Nat) (r : BitVec 32) (h : stepN n r = 0) : r = 0 := by
  induction n generalizing r with
  | zero => exact h
  | succ n ih => exact step_inj0 r (ih _ h)
theorem stepN_inj (n : Nat) (a b : BitVec 32) (h : stepN n a = stepN n b) : a = b := by
  apply xor_eq_zero
  apply stepN_inj0 n
  rw [stepN_xor, h, BitVec.xor_self]; rfl
/-- one step of a word whose lowest bit is clear -/
theorem step_even (r : BitVec 32) (h : r.getLsbD 0 = false) : step r = r >>> 1 := by unfold step; rw [h]; rfl
theorem stepN_even (n : Nat) (r : BitVec 32) (h : ∀ i, i < n → r.getLsbD i = false) : stepN n r = r >>> n := by
  induction n generalizing r with
  | zero => simp [stepN]
  | succ n ih =>
    rw [stepN, step_even r (h 0 (by omega)), ih]
    · rw [← BitVec.shiftRight_add, Nat.add_comm]
    · intro i hi
      rw [BitVec.getLsbD_ushiftRight, Nat.add_comm]; exact h (i + 1) (by omega)
/-- four bits at once -/
theorem nibble (r : BitVec 32) : stepN 4 r = (r >>> 4) ^^^ stepN 4 (r &&& 15#32) := by
  have h1 : r = (r &&& ~~~ 15#32) ^^^ (r &&& 15#32) := by
    apply BitVec.eq_of_getLsbD_eq
    intro i hi
    simp only [BitVec.getLsbD_xor, BitVec.getLsbD_and, BitVec.getLsbD_not, hi, decide_true, Bool.true_and]
    cases r.getLsbD i <;> cases (15#32).getLsbD i <;> rfl
  have h2 : stepN 4 (r &&& ~~~ 15#32) = r >>> 4 := by
    rw [stepN_even]
    · apply BitVec.eq_of_getLsbD_eq
      intro i hi
      simp only [BitVec.getLsbD_ushiftRight, BitVec.getLsbD_and, BitVec.getLsbD_not]
      have : (15#32).getLsbD (4 + i) = false := by
        rw [BitVec.getLsbD_ofNat]
        have : Nat.testBit 15 (4 + i) = false := Nat.testBit_lt_two_pow (by have := Nat.pow_le_pow_right (show 0 < 2 by omega) (show 4 ≤ 4 + i by omega); omega)
        simp [this]
      rw [this]
      by_cases h : 4 + i < 32
      · simp [h]
      · rw [BitVec.getLsbD_of_ge r (4 + i) (by omega)]; simp
    · intro i hi
      simp only [BitVec.getLsbD_and, BitVec.getLsbD_not]
      have : (15#32).getLsbD i = true := by
        have : i = 0 ∨ i = 1 ∨ i = 2 ∨ i = 3 := by omega
        rcases this with rfl | rfl | rfl | rfl <;> decide
      simp [this]
  conv => lhs; rw [h1, stepN_xor, h2]
theorem byteStep_nibbles (r : BitVec 32) (c : UInt8) :
    byteStep r c = ((((r ^^^ w8 c) >>> 4) ^^^ stepN 4 ((r ^^^ w8 c) &&& 15#32)) >>> 4) ^^^ stepN 4 ((((r ^^^ w8 c) >>> 4) ^^^ stepN 4 ((r ^^^ w8 c) &&& 15#32)) &&& 15#32) := by
  unfold byteStep
  rw [show (8 : Nat) = 4 + 4 from rfl, stepN_add, nibble (stepN 4 _), nibble (r ^^^ w8 c)]
theorem reg_nil (r : BitVec 32) : reg r [] = r := rfl
theorem reg_cons (r : BitVec 32) (c : UInt8) (l : List UInt8) : reg r (c :: l) = reg (byteStep r c) l := rfl
theorem reg_append (r : BitVec 32) (a b : List UInt8) : reg r (a ++ b) = reg (reg r a) b := by simp [reg]
theorem reg_snoc (r : BitVec 32) (l : List UInt8) (c : UInt8) : reg r (l ++ [c]) = byteStep (reg r l) c := by rw [reg_append]; rfl
theorem more_append (s : BitVec 32) (a b : List UInt8) : more (more s a) b = more s (a ++ b) := by
  unfold more; rw [BitVec.not_not, reg_append]
theorem byteStep_xor (r s : BitVec 32) (c e : UInt8) : byteStep (r ^^^ s) (c ^^^ e) = byteStep r c ^^^ byteStep s e := by
  unfold byteStep
  rw [← stepN_xor]
  congr 1
  have : w8 (c ^^^ e) = w8 c ^^^ w8 e := by
    unfold w8
    rw [UInt8.toBitVec_xor, BitVec.setWidth_xor]
  rw [this]; ac_rfl
theorem reg_xor : ∀ (a b : List UInt8) (r s : BitVec 32), a.length = b.length → reg (r ^^^ s) (List.zipWith (· ^^^ ·) a b) = reg r a ^^^ reg s b
  | [], [], r, s, _ => rfl
  | c :: a, e :: b, r, s, h => by
    simp only [List.zipWith_cons_cons, reg_cons, byteStep_xor]
    exact reg_xor a b _ _ (by simpa using h)
  | [], _ :: _, _, _, h => by simp at h
  | _ :: _, [], _, _, h => by simp at h
/-! the document's way: bit by bit -/
theorem half (z : BitVec 32) (h : z.getLsbD 31 = false) : step (z <<< 1) = z := by
  rw [step_even]
  · apply BitVec.eq_of_getLsbD_eq
    intro i hi
    rw [BitVec.getLsbD_ushiftRight, BitVec.getLsbD_shiftLeft]
    by_cases h31 : i = 31
    · subst h31
      have : z[31] = false := h
      simp [this]
    · have : 1 + i < 32 := by omega
      simp [this]
  · simp
theorem bit_round (r y : BitVec 32) (b : BitVec 32) (hb : b = y &&& 1#32) : step (r ^^^ b) ^^^ (y >>> 1) = step (r ^^^ y) := by
  have h1 : y = b ^^^ ((y >>> 1) <<< 1) := by
    subst hb
    apply BitVec.eq_of_getLsbD_eq
    intro i hi
    rw [BitVec.getLsbD_xor, BitVec.getLsbD_and, BitVec.getLsbD_shiftLeft]
    cases i with
    | zero => simp
    | succ i =>
      have : (1#32).getLsbD (i + 1) = false := by
        rw [BitVec.getLsbD_ofNat]
        have : Nat.testBit 1 (i + 1) = false := by simp [Nat.testBit_succ]
        simp [this]
      rw [this, BitVec.getLsbD_ushiftRight]
      simp [hi, Nat.add_comm]
  have h2 : step ((y >>> 1) <<< 1) = y >>> 1 := half _ (by rw [BitVec.getLsbD_ushiftRight, BitVec.getLsbD_of_ge y (1 + 31) (by omega)])
  conv => rhs; rw [h1, ← BitVec.xor_assoc, step_xor, h2]
/-- what is left of a byte behind k bits -/
def cq (c : UInt8) (k : Nat) : Nat := c.toNat / 2 ^ k
theorem cq_lt (c : UInt8) (k : Nat) : cq c k < 256 := Nat.lt_of_le_of_lt (Nat.div_le_self _ _) c.toNat_lt
theorem cq_zero (c : UInt8) : cq c 0 = c.toNat := by simp [cq]
theorem cq_succ (c : UInt8) (k : Nat) : cq c (k + 1) = cq c k / 2 := by unfold cq; rw [Nat.pow_succ, ← Nat.div_div_eq_div_mul]
/-- the register behind k of the bits of a byte, the document's way -/
def rk (r0 : BitVec 32) (c : UInt8) (k : Nat) : BitVec 32 := stepN k (r0 ^^^ w8 c) ^^^ BitVec.ofNat 32 (c.toNat / 2 ^ k)
theorem w8_ofNat (c : UInt8) : w8 c = BitVec.ofNat 32 c.toNat := by
  apply BitVec.eq_of_toNat_eq
  unfold w8
  rw [BitVec.toNat_setWidth, BitVec.toNat_ofNat]; rfl
theorem rk_zero (r0 : BitVec 32) (c : UInt8) : rk r0 c 0 = r0 := by
  unfold rk
  simp only [stepN, Nat.pow_zero, Nat.div_one]
  rw [← w8_ofNat, BitVec.xor_assoc, BitVec.xor_self]; simp
theorem ofNat_half (n : Nat) (h : n < 256) : (BitVec.ofNat 32 n) >>> 1 = BitVec.ofNat 32 (n / 2) := by
  apply BitVec.eq_of_toNat_eq
  rw [BitVec.toNat_ushiftRight, BitVec.toNat_ofNat, BitVec.toNat_ofNat, Nat.shiftRight_eq_div_pow, Nat.mod_eq_of_lt (by omega), Nat.mod_eq_of_lt (by omega)]
theorem ofNat_bit (n : Nat) (h : n < 256) : BitVec.ofNat 32 (n % 2) = BitVec.ofNat 32 n &&& 1#32 := by
  apply BitVec.eq_of_toNat_eq
  rw [BitVec.toNat_and, BitVec.toNat_ofNat, BitVec.toNat_ofNat, Nat.mod_eq_of_lt (by omega), Nat.mod_eq_of_lt (show n < 2 ^ 32 by omega)]
  exact (Nat.and_one_is_mod n).symm
theorem rk_succ (r0 : BitVec 32) (c : UInt8) (k : Nat) : step (rk r0 c k ^^^ BitVec.ofNat 32 (c.toNat / 2 ^ k % 2)) = rk r0 c (k + 1) := by
  have hc : c.toNat / 2 ^ k < 256 := Nat.lt_of_le_of_lt (Nat.div_le_self _ _) c.toNat_lt
  have h := bit_round (rk r0 c k) (BitVec.ofNat 32 (c.toNat / 2 ^ k)) _ (ofNat_bit _ hc)
  rw [ofNat_half _ hc] at h
  have h2 : rk r0 c k ^^^ BitVec.ofNat 32 (c.toNat / 2 ^ k) = stepN k (r0 ^^^ w8 c) := by
    unfold rk; rw [BitVec.xor_assoc, BitVec.xor_self]; simp
  rw [h2, ← stepN_succ] at h
  have h' : step (rk r0 c k ^^^ BitVec.ofNat 32 (c.toNat / 2 ^ k % 2)) = stepN (k + 1) (r0 ^^^ w8 c) ^^^ BitVec.ofNat 32 (c.toNat / 2 ^ k / 2) := by
    rw [← h, BitVec.xor_assoc, BitVec.xor_self]; simp
  rw [h']
  unfold rk
  rw [Nat.pow_succ, ← Nat.div_div_eq_div_mul]
theorem rk_eight (r0 : BitVec 32) (c : UInt8) : rk r0 c 8 = byteStep r0 c := by
  unfold rk byteStep
  have : c.toNat / 2 ^ 8 = 0 := Nat.div_eq_of_lt c.toNat_lt
  rw [this]; simp
theorem reg_take_succ (r : BitVec 32) (l : List UInt8) (i : Nat) (h : i < l.length) : reg r (l.take (i + 1)) = byteStep (reg r (l.take i)) (l.getD i 0) := by
  rw [List.take_succ_eq_append_getElem h, reg_snoc]
  simp [h]
/-! the lowest byte first -/
def sq (s : BitVec 32) (k : Nat) : Nat := s.toNat / 256 ^ k
theorem sq_zero (s : BitVec 32) : sq s 0 = s.toNat := by simp [sq]
theorem sq_succ (s : BitVec 32) (k : Nat) : sq s (k + 1) = sq s k / 256 := by unfold sq; rw [Nat.pow_succ, ← Nat.div_div_eq_div_mul]
theorem sq_lt (s : BitVec 32) (k : Nat) : sq s k < 4294967296 := Nat.lt_of_le_of_lt (Nat.div_le_self _ _) s.isLt
def leb (s : BitVec 32) (k : Nat) : UInt8 := UInt8.ofNat (sq s k)
def le4 (s : BitVec 32) : List UInt8 := [leb s 0, leb s 1, leb s 2, leb s 3]
theorem leb_toNat (s : BitVec 32) (k : Nat) : (leb s k).toNat = sq s k % 256 := by unfold leb; rw [UInt8.toNat_ofNat']
theorem leb_shr (s : BitVec 32) (k : Nat) : leb s k = UInt8.ofNat (s >>> (8 * k)).toNat := by
  unfold leb sq
  rw [BitVec.toNat_ushiftRight, Nat.shiftRight_eq_div_pow, Nat.pow_mul]
def sealed (l : List UInt8) : List UInt8 := l ++ le4 (sum l)
/-- the number of the first k bytes, the lowest first -/
def orUp (l : List UInt8) : Nat → BitVec 32
  | 0 => 0
  | k + 1 => orUp l k ||| (w8 (l.getD k 0) <<< (8 * k))
theorem w8_bit (c : UInt8) (i : Nat) : (w8 c).getLsbD i = c.toBitVec.getLsbD i := by
  unfold w8
  rw [BitVec.getLsbD_setWidth]
  by_cases h : i < 32
  · simp [h]
  · rw [BitVec.getLsbD_of_ge c.toBitVec i (by omega)]; simp
theorem orUp_bit (q : List UInt8) (K n : Nat) (hn : n < 32) : (orUp q K).getLsbD n = (decide (n / 8 < K) && (q.getD (n / 8) 0).toBitVec.getLsbD (n % 8)) := by
  induction K with
  | zero => simp [orUp]
  | succ K ih =>
    rw [orUp, BitVec.getLsbD_or, ih, BitVec.getLsbD_shiftLeft, w8_bit]
    by_cases h1 : n / 8 < K
    · have h2 : n < 8 * K := by omega
      have h3 : n / 8 < K + 1 := by omega
      simp [h1, h2, h3]
    · by_cases h2 : n / 8 = K
      · have h3 : ¬ n < 8 * K := by omega
        have h4 : n / 8 < K + 1 := by omega
        have h5 : n - 8 * K = n % 8 := by omega
        have h6 : ¬ n / 8 < K := by omega
        rw [h5, h2]
        simp [hn, h3]
      · have h3 : ¬ n < 8 * K := by omega
        have h4 : ¬ n / 8 < K + 1 := by omega
        rw [BitVec.getLsbD_of_ge _ (n - 8 * K) (by omega)]
        simp [h1, h4]
theorem leb_bit (s : BitVec 32) (k i : Nat) (hi : i < 8) : (leb s k).toBitVec.getLsbD i = s.getLsbD (8 * k + i) := by
  rw [leb_shr]
  show (BitVec.ofNat 8 (s >>> (8 * k)).toNat).getLsbD i = _
  rw [BitVec.getLsbD_ofNat]
  have : (s >>> (8 * k)).toNat.testBit i = (s >>> (8 * k)).getLsbD i := rfl
  rw [this, BitVec.getLsbD_ushiftRight]
  simp [hi]
theorem le4_getD (s : BitVec 32) (k : Nat) (h : k < 4) : (le4 s).getD k 0 = leb s k := by
  have : k = 0 ∨ k = 1 ∨ k = 2 ∨ k = 3 := by omega
  rcases this with rfl | rfl | rfl | rfl <;> rfl
theorem orUp_le4 (s : BitVec 32) : orUp (le4 s) 4 = s := by
  apply BitVec.eq_of_getLsbD_eq
  intro n hn
  have h1 : n / 8 < 4 := by omega
  rw [orUp_bit _ _ _ hn, le4_getD _ _ h1, leb_bit _ _ _ (by omega), show 8 * (n / 8) + n % 8 = n by omega]
  simp [h1]
theorem le4_orUp (q : List UInt8) (h : q.length = 4) : le4 (orUp q 4) = q := by
  have key : ∀ k, k < 4 → leb (orUp q 4) k = q.getD k 0 := by
    intro k hk
    apply UInt8.toBitVec_inj.mp
    apply BitVec.eq_of_getLsbD_eq
    intro i hi
    rw [leb_bit _ _ _ hi, orUp_bit _ _ _ (by omega), show (8 * k + i) / 8 = k by omega, show (8 * k + i) % 8 = i by omega]
    simp [hk]
  match q, h with
  | [a, b, c, d], _ =>
    unfold le4
    rw [key 0 (by omega), key 1 (by omega), key 2 (by omega), key 3 (by omega)]
    rfl
def body (l : List UInt8) : List UInt8 := l.take (l.length - 4)
def IsSealed (l : List UInt8) : Prop := 4 ≤ l.length ∧ sealed (body l) = l
instance (l : List UInt8) : Decidable (IsSealed l) := inferInstanceAs (Decidable (_ ∧ _))
theorem isSealed_iff (l : List UInt8) (h : 4 ≤ l.length) : IsSealed l ↔ sum (body l) = orUp (l.drop (l.length - 4)) 4 := by
  have hq : (l.drop (l.length - 4)).length = 4 := by rw [List.length_drop]; omega
  have hl : body l ++ l.drop (l.length - 4) = l := List.take_append_drop _ _
  unfold IsSealed sealed
  constructor
  · rintro ⟨_, h2⟩
    have h3 : l.drop (l.length - 4) = le4 (sum (body l)) := by
      have h4 : body l ++ le4 (sum (body l)) = body l ++ l.drop (l.length - 4) := by rw [h2, hl]
      exact (List.append_cancel_left h4).symm
    rw [h3, orUp_le4]
  · intro h2
    refine ⟨h, ?_⟩
    rw [h2, le4_orUp _ hq, hl]
def opened (l : List UInt8) : List UInt8 := if IsSealed l then body l else []
theorem rk_succ' (r0 : BitVec 32) (c : UInt8) (k : Nat) : step (rk r0 c k ^^^ BitVec.ofNat 32 (cq c k % 2)) = rk r0 c (k + 1) := rk_succ r0 c k
theorem known_sum : sum [49, 50, 51, 52, 53, 54, 55, 56, 57] = 0xcbf43926#32 := by decide +kernel
theorem known_seal : sealed [] = [0, 0, 0, 0] := by decide +kernel
end Crc
end Go.Proofs.Ytjlclaimpepgiaa
