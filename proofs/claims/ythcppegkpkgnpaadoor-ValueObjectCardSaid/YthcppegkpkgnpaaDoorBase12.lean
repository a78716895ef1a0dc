/-
  Scopes without jumps.
-/
import Derived.Test.YthcppegkpkgnpaaDoorBase7
import Derived.ScopeJumps
namespace Go.Cx
set_option linter.unusedVariables false
open Go Go.RowKit
section
variable {F : Fence} {P : Program} {sz n : Nat} {b : Frame} {a : Act} {k : List Item} {cs : List Frame} {w : World} {Q : Exit → Act → World → Prop}
theorem stepR_scope {c : Code} : step P (lone (b.atR a (.code (.scope c) :: k)) cs w) = .next (lone (b.atR a (.code c :: .inScope c :: k)) cs w) :=
  step_lone_go (by simp [stepG, stepG.exec, Frame.atR])
theorem stepR_inScope {c : Code} : step P (lone (b.atR a (.inScope c :: k)) cs w) = .next (lone (b.atR a k) cs w) :=
  step_lone_go (by simp [stepG, stepG.exec, Frame.atR])
def noGotoQ (Q : Exit → Act → World → Prop) : Exit → Act → World → Prop
  | .goto _, _, _ => False
  | e, a, w => Q e a w
theorem wpIn_scope {c : Code} (h : c.wpIn F n P (noGotoQ Q) a w) : (Code.scope c).wpIn F n P Q a w := by
  intro b k cs hro hb hr
  have h0 : (lone (b.atR a (.code (.scope c) :: k)) cs w).fenced P F := fenced_calm hb hr rfl
  obtain ⟨e, a₁, w₁, hq, harr⟩ := h b (.inScope c :: k) cs hro hb hr
  cases e with
  | normal => exact ⟨.normal, a₁, w₁, hq, .head h0 stepR_scope (StepsIn.trans harr (.one (fenced_calm hb hr rfl) stepR_inScope))⟩
  | exit id' =>
    have hx : exitTo id' (.inScope c :: k) = exitTo id' k := by simp [exitTo]
    exact ⟨.exit id', a₁, w₁, hq, fun k' hk => .head h0 stepR_scope (harr.1 k' (by rw [hx]; exact hk)),
        fun hr' hk => let ⟨k₁, h1, h2⟩ := harr.2 hr' (by rw [hx]; exact hk); ⟨k₁, h1, .head h0 stepR_scope h2⟩⟩
  | goto l => exact hq.elim
  | ret => exact ⟨_, a₁, w₁, hq, .of_steps (.one h0 stepR_scope) harr⟩
  | panic ch => exact ⟨_, a₁, w₁, hq, .of_steps (.one h0 stepR_scope) harr⟩
  | outgrown => exact ⟨_, a₁, w₁, hq, .of_steps (.one h0 stepR_scope) harr⟩
def noJump (Q : Post) : Post
  | .goto _, _, _, _ => False
  | e, f, ds, w => Q e f ds w
theorem WC.scope {c : Code} {Q : Post} {f : Fr} {ds : List Deferred} (h : WC F P sz c (noJump Q) f ds w) : WC F P sz (.scope c) Q f ds w := by
  intro n a h1 h2 h3
  refine wpIn_scope (wpIn_mono (h n a h1 h2 h3) ?_)
  rintro e a' w' ⟨p, q⟩
  cases e <;> first | exact ⟨p, q⟩ | exact q
/-- what holds behind a piece of code is all that is kept for what follows -/
theorem WC.cut {c : Code} {Q : Post} {K : Fr → List Deferred → World → Prop} {f : Fr} {ds : List Deferred} (I : Fr → List Deferred → World → Prop) (h1 : WC F P sz c (thenQ I Q) f ds w) (h2 : ∀ f ds w, I f ds w → K f ds w) : WC F P sz c (thenQ K Q) f ds w := by
  refine WC.mono h1 ?_
  intro e f ds w q
  cases e <;> first | exact h2 _ _ _ q | exact q
theorem noJump.normal {Q : Post} {f : Fr} {ds : List Deferred} (h : Q .normal f ds w) : noJump Q .normal f ds w := h
theorem noJump.exit {Q : Post} {f : Fr} {ds : List Deferred} {id : Nat} (h : Q (.exit id) f ds w) : noJump Q (.exit id) f ds w := h
theorem noJump.ret {Q : Post} {f : Fr} {ds : List Deferred} (h : Q .ret f ds w) : noJump Q .ret f ds w := h
end
section
variable {P : Program} {f : Fr} {w : World} {d : Option Tmp} {ty : TypeId} {pos : String} {aft : Array Edge} {g : Option (Nat × Bool)} {x y l h : Operand} {xt yt : TypeId} {ki : IntKind} {z z' : Int} {a : List UInt8}
/-- a byte as an int -/
theorem Y.u8i {ds : TypeDesc} {c : UInt8} (hs : P.underlying xt = some ds) (ht : P.underlying yt = some (.int .i64)) (hx : ev f x = u8v c) : Y P ⟨d, .convert xt yt x, ty, pos, aft, g⟩ f w (.int .i64 (c.toNat : Int)) := by
  have := UInt8.toNat_lt c
  exact Y.conviR (a := (c.toNat : Int)) hs ht hx (by simp only [IntKind.min, IntKind.max, IntKind.signed, IntKind.bits]; omega)
theorem Y.idxN (i : Nat) (ht : P.underlying xt = some .string) (hx : ev f x = strv a) (hy : ev f y = .int ki z) (hz : z = i) (h1 : i < a.length) (w' : World) :
    Y P ⟨d, .index xt x y, ty, pos, aft, g⟩ f w' (u8v (a.getD i 0)) := by
  subst hz
  have := Y.idxS (P := P) (d := d) (ty := ty) (pos := pos) (aft := aft) (g := g) ht hx hy (by omega) (by omega) w'
  rwa [Int.toNat_natCast] at this
theorem Y.sliceToN (hi : Nat) (ht : P.underlying xt = some .string) (hx : ev f x = strv a) (hh : ev f h = .int ki z) (hz : z = hi) (h2 : hi ≤ a.length) (w' : World) :
    Y P ⟨d, .slice xt x none (some h) none, ty, pos, aft, g⟩ f w' (strv (a.take hi)) := by
  subst hz
  have := Y.sliceS (P := P) (d := d) (ty := ty) (pos := pos) (aft := aft) (g := g) (k1 := .i64) (k2 := ki) (lo := 0) (hi := hi) (ol := none) (oh := some h) ht hx rfl hh (by omega) h2 w'
  simpa using this
theorem Y.sliceFromN (lo : Nat) (ht : P.underlying xt = some .string) (hx : ev f x = strv a) (hl : ev f l = .int ki z) (hz : z = lo) (h2 : lo ≤ a.length) (w' : World) :
    Y P ⟨d, .slice xt x (some l) none none, ty, pos, aft, g⟩ f w' (strv (a.drop lo)) := by
  subst hz
  have := Y.sliceS (P := P) (d := d) (ty := ty) (pos := pos) (aft := aft) (g := g) (k1 := ki) (k2 := .i64) (lo := lo) (hi := a.length) (ol := some l) (oh := none) ht hx hl rfl h2 (by omega) w'
  rwa [List.take_of_length_le (by simp)] at this
theorem Y.sliceBothN {kj : IntKind} (lo hi : Nat) (ht : P.underlying xt = some .string) (hx : ev f x = strv a) (hl : ev f l = .int ki z) (hz : z = lo) (hh : ev f h = .int kj z') (hz' : z' = hi) (h1 : lo ≤ hi) (h2 : hi ≤ a.length) (w' : World) :
    Y P ⟨d, .slice xt x (some l) (some h) none, ty, pos, aft, g⟩ f w' (strv ((a.drop lo).take (hi - lo))) := by
  subst hz hz'
  exact Y.sliceS (P := P) (d := d) (ty := ty) (pos := pos) (aft := aft) (g := g) (k1 := ki) (k2 := kj) (lo := lo) (hi := hi) (ol := some l) (oh := some h) ht hx hl hh h1 h2 w'
end
end Go.Cx
