/-
  From an argument as the form reads it to what the walks ask: an array of bytes.
-/
import Derived.Test.YthcppegkpkgnpaaDoorOpen0
namespace Go.Cx
open Go Go.RowKit Go.ChangeShapes Go.WideShapes Go.ChangeAt
section
variable {H : Type} {enc : TypeId × Value → H} {P : Program} {W : World} {base : Nat} {spare : Nat → Bool} {held : Bool}
theorem open_barr {t e : TypeId} {n b0 : Nat} {r : Reach} {v : Value} {d : DataW H} {p : List MemPlace} (ht : P.underlying t = some (.array n e)) (he : P.underlying e = some (.int .u8)) (hc : P.cellsOf e = 1) (hct : P.cellsOf t = n)
    (hval : Value.okWide P W r b0 t v) (h : DataW.Trod enc P W base spare held t v d p) : ∃ l : List UInt8, l.length = n ∧ v = .agg (l.map u8v).toArray := by
  simp only [Value.okWide, ht] at hval
  obtain ⟨cs, rfl, hsz, _⟩ := hval
  rw [hct] at hsz
  obtain ⟨fuel, hf⟩ := h
  have hall : ∀ i, i < n → ∃ z, cs[i]? = some (.int .u8 z) ∧ (Lit.int .u8 z).wf = true := by
    cases fuel with
    | zero => simp [DataW.trod] at hf
    | succ m =>
      unfold DataW.trod at hf
      simp only [ht, Value.cells] at hf
      rw [if_pos (by rw [hct]; simpa using hsz)] at hf
      simp only [Option.map_eq_some_iff] at hf
      obtain ⟨ys, hy, _⟩ := hf
      intro i hi
      have hg := mapM_some_get hy i i (by simp [hi])
      have hlen := mapM_some_length hy
      rw [List.length_range] at hlen
      rw [List.getElem?_eq_getElem (show i < ys.length by omega)] at hg
      have hqq := DataW.trod_int he hg
      obtain ⟨z, hz, _, hw⟩ := hqq
      rw [hc, Nat.mul_one] at hz
      refine ⟨z, ?_, hw⟩
      have := congrArg (fun l : List Value => l[0]?) hz
      simpa [List.getElem?_take, List.getElem?_drop] using this
  refine ⟨cs.toList.map (fun v => match v with | .int _ z => UInt8.ofNat z.toNat | _ => 0), by simpa using hsz, ?_⟩
  congr 1
  apply Array.ext
  · simp
  · intro i h1 h2
    have hqq := hall i (by omega)
    obtain ⟨z, hz, hw⟩ := hqq
    have h3 : cs[i] = .int .u8 z := by rw [Array.getElem?_eq_getElem h1] at hz; exact Option.some.inj hz
    have hr := int_range hw
    have e1 : IntKind.u8.min = 0 := rfl
    have e2 : IntKind.u8.max = 255 := rfl
    simp only [List.getElem_toArray, List.getElem_map, Array.getElem_toList, h3]
    apply int_eq
    rw [UInt8.toNat_ofNat']
    omega
end
end Go.Cx
