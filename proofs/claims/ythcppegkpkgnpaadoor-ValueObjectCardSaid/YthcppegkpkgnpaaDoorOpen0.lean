/-
  From an argument as the form reads it to what the walks ask.
-/
import Derived.Test.YthcppegkpkgnpaaDoorBase4
import Derived.ProofKit
import Derived.OpenShut
import Derived.ShutString
import Derived.ChangeOld
import Derived.SizedLaws
import Derived.Deep.CondSized
namespace Go.Cx
open Go Go.RowKit Go.ChangeShapes Go.WideShapes Go.ChangeAt
theorem int_range {k : IntKind} {n : Int} (h : (Lit.int k n).wf = true) : k.min ≤ n ∧ n ≤ k.max := by
  simpa [Lit.wf] using h
section
variable {H : Type} {enc : TypeId × Value → H} {P : Program} {W : World} {base : Nat} {spare : Nat → Bool} {held : Bool}
/-- a []byte -/
theorem open_bytes {t e : TypeId} {a : Option Addr} {len cap : Nat} {d : DataW H} {p : List MemPlace} (ht : P.underlying t = some (.slice e)) (he : P.underlying e = some (.int .u8)) (hc : P.cellsOf e = 1)
    (h : DataW.Trod enc P W base spare held t (.slice a len cap) d p) :
    ∃ l : List UInt8, SlK W 1 (.slice a len cap) l.length (l.map u8v) ∧ ((d = .nil ∧ l = []) ∨ ∃ elems rest, d = .slice elems rest ∧ elems.length = l.length) := by
  obtain ⟨fuel, hf⟩ := h
  rcases open_ints ht he hc hf with ⟨hcs, hd⟩ | ⟨x, ln, c, zs, hcs, _, hl, hm, hz, hd, hcell, hwz⟩
  · simp [Value.cells] at hcs
    obtain ⟨rfl, rfl, rfl⟩ := hcs
    exact ⟨[], SlK.nil, .inl ⟨by simpa using congrArg Prod.fst hd, rfl⟩⟩
  · simp [Value.cells] at hcs
    obtain ⟨rfl, rfl, rfl⟩ := hcs
    have hlz : len ≤ zs.length := by rw [hz]; split <;> omega
    have hmap : ((zs.take len).map fun z => UInt8.ofNat z.toNat).length = len := by simp [hlz]
    refine ⟨(zs.take len).map fun z => UInt8.ofNat z.toNat, ?_, .inr ⟨_, _, congrArg Prod.fst hd, ?_⟩⟩
    · rw [hmap]
      refine ⟨by simp [hlz], Nat.le_trans hl hm, some x, cap, rfl, hl, hm, fun i u hu => ?_⟩
      have hi : i < len := by
        rcases Nat.lt_or_ge i len with h | h
        · exact h
        · rw [List.getElem?_eq_none (by simp; omega)] at hu; cases hu
      have hc1 := hcell i (by omega)
      have hwi : (Lit.int .u8 (zs.getD i 0)).wf = true := hwz _ (by
        rw [List.getD_eq_getElem?_getD, List.getElem?_eq_getElem (show i < zs.length by omega), Option.getD_some]
        exact List.getElem_mem _)
      have hr := int_range hwi
      have e1 : IntKind.u8.min = 0 := rfl
      have e2 : IntKind.u8.max = 255 := rfl
      have hu2 : u = .int .u8 (zs.getD i 0) := by
        simp only [List.map_map, List.getElem?_map, List.getElem?_take, hi, if_true, List.getElem?_eq_getElem (show i < zs.length by omega), Option.map_some, Function.comp, Option.some.injEq] at hu
        rw [← hu]
        rw [List.getD_eq_getElem?_getD, List.getElem?_eq_getElem (show i < zs.length by omega), Option.getD_some] at hr ⊢
        apply int_eq
        rw [UInt8.toNat_ofNat']
        omega
      obtain ⟨b, off, spot⟩ := x
      have hsp : spot = none := by
        have h0 := hcell 0 (by omega)
        simpa [Addr.add] using World.cell?_spot h0
      subst hsp
      rw [add_addr] at hc1
      exact ⟨b, off, rfl, by rw [hu2]; exact hc1⟩
    · simp [lits, hlz]
theorem sized_bytes {ts : List TypeId} {ds : List (DataW H)} (h : (DataW.weightsEach P ts ds).all (· ≤ reachBytes) = true) {j : Nat} {t e : TypeId} {l : List UInt8} {d : DataW H} (ht : ts[j]? = some t) (hd : ds[j]? = some d) (hu : P.underlying t = some (.slice e)) (hb : P.bytesOf e = 1)
    (hl : (d = .nil ∧ l = []) ∨ ∃ elems rest, d = .slice elems rest ∧ elems.length = l.length) : l.length ≤ 140737488351232 := by
  rcases hl with ⟨_, rfl⟩ | ⟨elems, rest, rfl, hlen⟩
  · simp
  · have := sized_slice h ht hd hu
    rw [hb] at this
    unfold reachBytes at this
    omega
end
/-- a word of 32 bits -/
theorem u32_of {n : Int} (h : (Lit.int .u32 n).wf = true) : Value.int .u32 n = u32v (BitVec.ofInt 32 n) := by
  have hr := int_range h
  have e1 : IntKind.u32.min = 0 := rfl
  have e2 : IntKind.u32.max = 4294967295 := rfl
  apply int_eq
  rw [BitVec.toNat_ofInt]
  omega
end Go.Cx
