import Derived.Test.YthcppegkpkgnpaaDoorBase3
namespace Go.Cx
open Go Go.RowKit
variable {P : Program} {f : Fr} {w : World}
/-! ### words of 32 bits, bytes -/
abbrev u8v (c : UInt8) : Value := .int .u8 (c.toNat : Int)
abbrev u32v (r : BitVec 32) : Value := .int .u32 (r.toNat : Int)
theorem ofInt_toNat (r : BitVec 32) : BitVec.ofInt 32 (r.toNat : Int) = r := by
  apply BitVec.eq_of_toNat_eq
  rw [BitVec.toNat_ofInt]
  have := r.isLt
  omega
theorem wrap_bv (r : BitVec 32) : IntKind.u32.wrap (r.toNat : Int) = (r.toNat : Int) := by
  have := r.isLt
  exact wrap_id (k := .u32) ⟨by simp [IntKind.min, IntKind.signed], by simp [IntKind.max, IntKind.signed, IntKind.bits]; omega⟩
section
variable {d : Option Tmp} {ty : TypeId} {pos : String} {aft : Array Edge} {g : Option (Nat × Bool)} {x y : Operand} {xt yt : TypeId}
theorem Y.bin_of {op : BinOp} {u v r : Value} (hx : ev f x = u) (hy : ev f y = v) (hg : (eqGuard op xt x y u v).run P w = .ok () w) (hb : binOp op xt u v = pure r) : Y P ⟨d, .binOp op xt x y yt, ty, pos, aft, g⟩ f w r := by
  simp only [Y, execOp, hx, hy, hb, Sem.run_bind, hg, Result.andThen_ok, Sem.run_pure]
theorem Y.xorU32 {a b : BitVec 32} (hx : ev f x = u32v a) (hy : ev f y = u32v b) : Y P ⟨d, .binOp .xor xt x y yt, ty, pos, aft, g⟩ f w (u32v (a ^^^ b)) := by
  refine Y.bin_of hx hy (by simp [eqGuard]) ?_
  show (pure (Value.int .u32 (IntKind.u32.wrap ((BitVec.ofInt 32 (a.toNat : Int) ^^^ BitVec.ofInt 32 (b.toNat : Int)).toNat))) : Sem Value) = _
  rw [ofInt_toNat, ofInt_toNat, wrap_bv]
theorem Y.andU32 {a b : BitVec 32} (hx : ev f x = u32v a) (hy : ev f y = u32v b) : Y P ⟨d, .binOp .and xt x y yt, ty, pos, aft, g⟩ f w (u32v (a &&& b)) := by
  refine Y.bin_of hx hy (by simp [eqGuard]) ?_
  show (pure (Value.int .u32 (IntKind.u32.wrap ((BitVec.ofInt 32 (a.toNat : Int) &&& BitVec.ofInt 32 (b.toNat : Int)).toNat))) : Sem Value) = _
  rw [ofInt_toNat, ofInt_toNat, wrap_bv]
theorem Y.orU32 {a b : BitVec 32} (hx : ev f x = u32v a) (hy : ev f y = u32v b) : Y P ⟨d, .binOp .or xt x y yt, ty, pos, aft, g⟩ f w (u32v (a ||| b)) := by
  refine Y.bin_of hx hy (by simp [eqGuard]) ?_
  show (pure (Value.int .u32 (IntKind.u32.wrap ((BitVec.ofInt 32 (a.toNat : Int) ||| BitVec.ofInt 32 (b.toNat : Int)).toNat))) : Sem Value) = _
  rw [ofInt_toNat, ofInt_toNat, wrap_bv]
theorem Y.notU32 {a : BitVec 32} (hx : ev f x = u32v a) : Y P ⟨d, .unOp .xor xt x, ty, pos, aft, g⟩ f w (u32v (~~~ a)) := by
  have e : Op.unary .xor (u32v a) = (pure (u32v (~~~ a)) : Sem Value) := by
    show (pure (Value.int .u32 (IntKind.u32.wrap ((BitVec.ofInt 32 (IntKind.u32.max) ^^^ BitVec.ofInt 32 (a.toNat : Int)).toNat))) : Sem Value) = _
    have h2 : BitVec.ofInt 32 (IntKind.u32.max) = BitVec.allOnes 32 := by decide
    rw [ofInt_toNat, h2, BitVec.allOnes_xor, wrap_bv]
  simp only [Y, execOp, hx, e, Sem.run_bind, Sem.run_pure, Result.andThen_ok]
theorem Y.shrU32 {a : BitVec 32} {n : Nat} {k : IntKind} (hx : ev f x = u32v a) (hy : ev f y = .int k (n : Int)) : Y P ⟨d, .binOp .shr xt x y yt, ty, pos, aft, g⟩ f w (u32v (a >>> n)) := by
  have h0 : ¬ ((n : Int) < 0) := by omega
  have h1 : ((a.toNat : Int).fdiv (2 ^ min n 32)) = ((a >>> n).toNat : Int) := by
    rw [BitVec.toNat_ushiftRight, Nat.shiftRight_eq_div_pow]
    have hlt := a.isLt
    rcases Nat.le_total n 32 with h | h
    · rw [Nat.min_eq_left h, Int.fdiv_eq_ediv_of_nonneg _ (by exact Int.pow_nonneg (by omega))]
      norm_cast
    · rw [Nat.min_eq_right h, Int.fdiv_eq_ediv_of_nonneg _ (by decide)]
      have e1 : a.toNat / 2 ^ n = 0 := Nat.div_eq_of_lt (Nat.lt_of_lt_of_le hlt (Nat.pow_le_pow_right (by omega) h))
      rw [e1]
      have e2 : (a.toNat : Int) / 2 ^ 32 = 0 := Int.ediv_eq_zero_of_lt (by omega) (by exact_mod_cast hlt)
      rw [e2]; rfl
  refine Y.bin_of hx hy (by simp [eqGuard]) ?_
  show Op.shift .shr .u32 (a.toNat : Int) k (n : Int) = _
  unfold Op.shift
  rw [if_neg h0]
  show (pure (Value.int .u32 ((a.toNat : Int).fdiv (2 ^ min n 32))) : Sem Value) = _
  rw [h1]
theorem Y.shlU32 {a : BitVec 32} {n : Nat} {k : IntKind} (hx : ev f x = u32v a) (hy : ev f y = .int k (n : Int)) (hn : n ≤ 32) : Y P ⟨d, .binOp .shl xt x y yt, ty, pos, aft, g⟩ f w (u32v (a <<< n)) := by
  have h0 : ¬ ((n : Int) < 0) := by omega
  have h1 : IntKind.u32.wrap ((a.toNat : Int) * 2 ^ min n 32) = ((a <<< n).toNat : Int) := by
    rw [Nat.min_eq_left hn, BitVec.toNat_shiftLeft, Nat.shiftLeft_eq]
    simp only [IntKind.wrap, IntKind.signed, IntKind.bits, Bool.false_and, Bool.false_eq_true, if_false]
    norm_cast
  refine Y.bin_of hx hy (by simp [eqGuard]) ?_
  show Op.shift .shl .u32 (a.toNat : Int) k (n : Int) = _
  unfold Op.shift
  rw [if_neg h0]
  show (pure (Value.int .u32 (IntKind.u32.wrap ((a.toNat : Int) * 2 ^ min n 32))) : Sem Value) = _
  rw [h1]
theorem Y.toU32 {c : UInt8} {ds : TypeDesc} (hs : P.underlying xt = some ds) (ht : P.underlying yt = some (.int .u32)) (hx : ev f x = u8v c) : Y P ⟨d, .convert xt yt x, ty, pos, aft, g⟩ f w (u32v (c.toBitVec.setWidth 32)) := by
  have h : c.toNat < 256 := c.toNat_lt
  have e : (c.toBitVec.setWidth 32).toNat = c.toNat := by
    rw [BitVec.toNat_setWidth]; exact Nat.mod_eq_of_lt (Nat.lt_of_lt_of_le h (by decide))
  have := Y.conviR (P := P) (d := d) (ty := ty) (pos := pos) (aft := aft) (g := g) (w := w) hs ht hx (by
    have e1 : IntKind.u32.min = 0 := by decide
    have e2 : IntKind.u32.max = 4294967295 := by decide
    omega)
  unfold u32v
  rw [e]; exact this
theorem Y.toU8 {a : BitVec 32} {ds : TypeDesc} (hs : P.underlying xt = some ds) (ht : P.underlying yt = some (.int .u8)) (hx : ev f x = u32v a) : Y P ⟨d, .convert xt yt x, ty, pos, aft, g⟩ f w (u8v (UInt8.ofNat a.toNat)) := by
  have := Y.convi (P := P) (d := d) (ty := ty) (pos := pos) (aft := aft) (g := g) (w := w) hs ht hx
  have e : IntKind.u8.wrap (a.toNat : Int) = ((UInt8.ofNat a.toNat).toNat : Int) := by
    simp only [IntKind.wrap, IntKind.signed, IntKind.bits, Bool.false_and, Bool.false_eq_true, if_false, UInt8.toNat_ofNat']
    norm_cast
  rwa [e] at this
theorem Y.xorU8 {a b : UInt8} (hx : ev f x = u8v a) (hy : ev f y = u8v b) : Y P ⟨d, .binOp .xor xt x y yt, ty, pos, aft, g⟩ f w (u8v (a ^^^ b)) := by
  have h1 : ∀ c : UInt8, BitVec.ofInt 8 (c.toNat : Int) = c.toBitVec := by
    intro c
    apply BitVec.eq_of_toNat_eq
    rw [BitVec.toNat_ofInt]
    have := c.toNat_lt
    show _ = c.toNat
    omega
  have h3 : IntKind.u8.wrap (((a ^^^ b).toNat : Nat) : Int) = ((a ^^^ b).toNat : Int) := by
    have := (a ^^^ b).toNat_lt
    have e1 : IntKind.u8.min = 0 := by decide
    have e2 : IntKind.u8.max = 255 := by decide
    exact wrap_id (k := .u8) ⟨by omega, by omega⟩
  refine Y.bin_of hx hy (by simp [eqGuard]) ?_
  show (pure (Value.int .u8 (IntKind.u8.wrap ((BitVec.ofInt 8 (a.toNat : Int) ^^^ BitVec.ofInt 8 (b.toNat : Int)).toNat))) : Sem Value) = _
  rw [h1, h1]
  show (pure (Value.int .u8 (IntKind.u8.wrap (((a ^^^ b).toNat : Nat) : Int))) : Sem Value) = _
  rw [h3]
theorem Y.addU8 {a b : UInt8} (hx : ev f x = u8v a) (hy : ev f y = u8v b) : Y P ⟨d, .binOp .add xt x y yt, ty, pos, aft, g⟩ f w (u8v (a + b)) := by
  have := Y.add (P := P) (d := d) (ty := ty) (pos := pos) (aft := aft) (g := g) (xt := xt) (yt := yt) (w := w) hx hy
  have e : IntKind.u8.wrap ((a.toNat : Int) + (b.toNat : Int)) = ((a + b).toNat : Int) := by
    simp only [IntKind.wrap, IntKind.signed, IntKind.bits, Bool.false_and, Bool.false_eq_true, if_false, UInt8.toNat_add]
    norm_cast
  rwa [e] at this
theorem cell?_freeze (w : World) (a p : Addr) (n : Nat) : (w.freeze a n).cell? p = w.cell? p := by
  unfold World.freeze
  split
  · rfl
  · simp only [World.cell?, Array.getElem?_modify]
    by_cases h : a.block = p.block
    · rw [if_pos h]
      cases hh : w.heap[p.block]? with
      | none => simp
      | some o => cases o <;> simp
    · rw [if_neg h]
theorem freeze_grown (w : World) (a : Addr) (n : Nat) : w.grownBy (w.freeze a n) (some a.block) := by
  unfold World.freeze
  split
  · exact ⟨rfl, rfl, rfl, Nat.le_refl _, fun _ _ _ => rfl⟩
  · exact ⟨rfl, rfl, rfl, by simp, fun k hk hne => by
      simp only [Array.getElem?_modify]
      rw [if_neg (fun e => hne (by rw [e]))]⟩
/-- '[]byte(constant)' -/
theorem E.convB {t e : TypeId} {b o n c B : Nat} {cs : List Value} (ht : P.underlying t = some (.slice e)) (he : P.underlying e = some (.int .u8)) (hx : ev f x = .slice (some ⟨b, o, none⟩) n c) (h : SlK w 1 (.slice (some ⟨b, o, none⟩) n c) n cs) (hB : B ≤ b) (hBw : B ≤ w.heap.size) :
    ∃ v w', E P ⟨d, .convert t t x, ty, pos, aft, g⟩ f w v w' ∧ (SlK w' 1 v n cs ∧ Below B w w') := by
  have hmk : ∃ w', (markStringish ⟨b, o, none⟩).run P w = .ok () w' ∧ (∀ p, w'.cell? p = w.cell? p) ∧ w.grownBy w' (some b) := by
    cases hs : w.shape? b with
    | none => exact ⟨w, by simp [markStringish, shape, Sem.run, hs], fun _ => rfl, ⟨rfl, rfl, rfl, Nat.le_refl _, fun _ _ _ => rfl⟩⟩
    | some q =>
      obtain ⟨e', m⟩ := q
      exact ⟨w.freeze ⟨b, m, none⟩ 1, by simp [markStringish, shape, freeze, Sem.run, hs], fun p => cell?_freeze w _ p 1, freeze_grown w ⟨b, m, none⟩ 1⟩
  obtain ⟨w', h1, h2, h3⟩ := hmk
  refine ⟨.slice (some ⟨b, o, none⟩) n c, w', .inl ?_, ?_, below_of_grown h3 hBw (fun k e => by cases e; exact hB)⟩
  · simp [execOp, hx, convert, run_underlying ht, run_underlying he, h1]
  · obtain ⟨a1, a2, a, cap, hv, hn, hm, hc⟩ := h
    refine ⟨a1, a2, a, cap, hv, hn, hm, fun i u hu => ?_⟩
    obtain ⟨b', o', ha, hcell⟩ := hc i u hu
    exact ⟨b', o', ha, by rw [h2]; exact hcell⟩
end
end Go.Cx
