/-
  From an argument as the form reads it: slices of structs, with what sizes the form names.
-/
import Derived.Test.YthcppegkpkgnpaaDoorOpen1
import Derived.Test.YthcppegkpkgnpaaDoorBase9
import Derived.ChangeArms
namespace Go.Cx
open Go Go.RowKit Go.ChangeShapes Go.WideShapes Go.ChangeAt
set_option linter.unusedVariables false
section
variable {H : Type} {enc : TypeId × Value → H} {P : Program} {W : World} {base : Nat} {spare : Nat → Bool} {held : Bool}
/-- every slice and string within is within the reach -/
def Sz (P : Program) (t : TypeId) (d : DataW H) : Prop := ∀ n ∈ d.weights P t, n ≤ reachBytes
theorem sz_top {ts : List TypeId} {ds : List (DataW H)} (h : (DataW.weightsEach P ts ds).all (· ≤ reachBytes) = true) {j : Nat} {t : TypeId} {d : DataW H} (ht : ts[j]? = some t) (hd : ds[j]? = some d) : Sz P t d := fun n hn => by
  have := List.all_eq_true.1 h _ (DataW.weights_mem_each ht hd n hn)
  simpa using this
theorem weights_mem_all {e : TypeId} {d : DataW H} {n : Nat} : ∀ {ds : List (DataW H)}, d ∈ ds → n ∈ d.weights P e → n ∈ DataW.weightsAll P e ds
  | d0 :: ds, hd, hn => by
    simp only [DataW.weightsAll, List.mem_append]
    rcases List.mem_cons.1 hd with rfl | hd
    · exact .inl hn
    · exact .inr (weights_mem_all hd hn)
theorem sz_slice {t e : TypeId} {elems sp : List (DataW H)} (hu : P.underlying t = some (.slice e)) (h : Sz P t (.slice elems sp)) : elems.length * P.bytesOf e ≤ reachBytes ∧ ∀ d ∈ elems, Sz P e d := by
  refine ⟨?_, fun d hd n hn => h n ?_⟩
  · have := h ((elems.length + sp.length) * P.bytesOf e) (by simp [DataW.weights, hu])
    exact Nat.le_trans (Nat.mul_le_mul_right _ (by omega)) this
  · simp only [DataW.weights, hu, List.mem_cons, List.mem_append]
    exact .inr (.inl (weights_mem_all hd hn))
theorem sz_struct {t : TypeId} {fs : Array Field} {parts : List (DataW H)} (hu : P.underlying t = some (.struct fs)) (h : Sz P t (.agg parts)) {i : Nat} {fl : Field} {d : DataW H} (hf : fs[i]? = some fl) (hd : parts[i]? = some d) : Sz P fl.type d := fun n hn => by
  refine h n ?_
  simp only [DataW.weights, hu]
  exact DataW.weights_mem_each (j := i) (by simp [hf]) hd n hn
theorem sz_string {t : TypeId} {b : List UInt8} (h : Sz P t (DataW.lit (H := H) (.string b))) : b.length ≤ reachBytes := h _ (by simp [DataW.weights])
/-- a slice, each of whose elements is decoded -/
theorem open_slice_of {α : Type} {encE : α → List Value} {Good : α → Prop} {t e : TypeId} {k : Nat} (ht : P.underlying t = some (.slice e)) (hk : P.cellsOf e = k) (hk0 : 0 < k) (henc : ∀ a, (encE a).length = k)
    {fuel : Nat} {cs : List Value} {x : DataW H × List MemPlace}
    (hdec : ∀ n, n < fuel → ∀ cs x, DataW.trod enc P W base spare held n e cs = some x → Sz P e x.1 → ∃ a, cs = encE a ∧ Good a) (h : DataW.trod enc P W base spare held fuel t cs = some x) (hsz : Sz P t x.1) :
    ∃ (v : Value) (l : List α), cs = [v] ∧ SlK W k v l.length (l.flatMap encE) ∧ (∀ a ∈ l, Good a) ∧ l.length * P.bytesOf e ≤ reachBytes := by
  subst hk
  rcases DataW.trod_slice ht h with ⟨rfl, rfl⟩ | ⟨a, len, cap, elems, rest, n, rfl, rfl, rfl, hb, hl, hm, hlen, hel, hsp, hns⟩
  · exact ⟨_, [], rfl, SlK.nil, (fun a ha => by cases ha), Nat.le_trans (Nat.le_of_eq (Nat.zero_mul _)) (Nat.zero_le _)⟩
  · have hsz2 := sz_slice ht hsz
    have hE : ∀ i : Fin len, ∃ ai : α, W.cells? base (a.add (i * P.cellsOf e)) (P.cellsOf e) = some (encE ai) ∧ Good ai := by
      intro i
      have h1 := hel i i.2
      have hil : (i : Nat) < elems.length := by omega
      rw [List.getElem?_eq_getElem hil] at h1
      simp only [Option.bind_eq_some_iff] at h1
      obtain ⟨ci, h2, h3⟩ := h1
      have hqq := hdec n (by omega) ci _ h3 (hsz2.2 _ (List.mem_map.2 ⟨_, List.getElem_mem hil, rfl⟩))
      obtain ⟨ai, rfl, hg⟩ := hqq
      exact ⟨ai, h2, hg⟩
    refine ⟨_, List.ofFn (fun i => Classical.choose (hE i)), rfl, ?_, ?_, ?_⟩
    · have hll : (List.ofFn (fun i => Classical.choose (hE i))).length = len := List.length_ofFn
      rw [hll]
      refine ⟨by rw [flat_len henc, hll], Nat.le_trans hl hm, some a, cap, rfl, hl, hm, fun q u hu => ?_⟩
      have hq : q < len * P.cellsOf e := by
        rcases Nat.lt_or_ge q (len * P.cellsOf e) with h | h
        · exact h
        · rw [List.getElem?_eq_none (by rw [flat_len henc, hll]; exact h)] at hu; cases hu
      have hqd : q / P.cellsOf e < len := (Nat.div_lt_iff_lt_mul hk0).2 hq
      have hqr : q % P.cellsOf e < P.cellsOf e := Nat.mod_lt _ hk0
      have eq : q = q / P.cellsOf e * P.cellsOf e + q % P.cellsOf e := by rw [Nat.mul_comm]; exact (Nat.div_add_mod q _).symm
      have h2 := (Classical.choose_spec (hE ⟨q / P.cellsOf e, hqd⟩)).1
      have hqq := World.cells?_some h2
      obtain ⟨_, _, h3⟩ := hqq
      have h4 := h3 _ hqr
      have h5 := flat_at henc (List.ofFn (fun i => Classical.choose (hE i))) (q / P.cellsOf e) (by rw [hll]; exact hqd)
      have h6 : (encE (Classical.choose (hE ⟨q / P.cellsOf e, hqd⟩)))[q % P.cellsOf e]? = some u := by
        rw [List.getElem_ofFn] at h5
        rw [← h5, List.getElem?_take, if_pos hqr, List.getElem?_drop, ← eq]
        exact hu
      rw [h6] at h4
      have hl0 : 0 < len := Nat.lt_of_le_of_lt (Nat.zero_le _) hqd
      have hsp : a.spot = none := by
        have hqq := World.cells?_some (Classical.choose_spec (hE ⟨0, hl0⟩)).1
        obtain ⟨_, _, g3⟩ := hqq
        have g4 := g3 0 hk0
        have g5 : (encE (Classical.choose (hE ⟨0, hl0⟩)))[0]? = some ((encE (Classical.choose (hE ⟨0, hl0⟩)))[0]'(by rw [henc]; exact hk0)) := by simp
        have g7 : ((a.add ((0 : Nat) * P.cellsOf e)).add 0).spot = none := World.cell?_spot (g4.trans g5)
        rw [Nat.zero_mul] at g7
        exact g7
      obtain ⟨b, off, spot⟩ := a
      simp only at hsp
      subst hsp
      rw [add_addr, add_addr, Nat.add_assoc] at h4
      rw [← eq] at h4
      exact ⟨b, off, rfl, h4⟩
    · intro ai hai
      have hqq := List.mem_iff_getElem.1 hai
      obtain ⟨i, hi, rfl⟩ := hqq
      rw [List.getElem_ofFn]
      exact (Classical.choose_spec (hE _)).2
    · rw [List.length_ofFn]
      have := hsz2.1
      rw [List.length_map, hlen] at this
      exact this
/-- the bytes of a part -/
theorem open_bytes_in {t e : TypeId} {fuel : Nat} {cs : List Value} {x : DataW H × List MemPlace} (ht : P.underlying t = some (.slice e)) (he : P.underlying e = some (.int .u8)) (hc : P.cellsOf e = 1) (hb : P.bytesOf e = 1)
    (h : DataW.trod enc P W base spare held fuel t cs = some x) (hsz : Sz P t x.1) : ∃ (v : Value) (l : List UInt8), cs = [v] ∧ SlK W 1 v l.length (l.map u8v) ∧ l.length ≤ 140737488351232 := by
  obtain ⟨v, l, h1, h2, -, h4⟩ := open_slice_of (α := UInt8) (encE := fun c => [u8v c]) (Good := fun _ => True) ht hc (by omega) (fun _ => rfl) (fun n _ cs x hx hs => by
    have hqq := DataW.trod_int he hx
    obtain ⟨z, rfl, -, hw⟩ := hqq
    have hr := int_range hw
    have e1 : IntKind.u8.min = 0 := rfl
    have e2 : IntKind.u8.max = 255 := rfl
    refine ⟨UInt8.ofNat z.toNat, ?_, trivial⟩
    congr 1
    apply int_eq
    rw [UInt8.toNat_ofNat']
    omega) h hsz
  refine ⟨v, l, h1, ?_, by rw [hb] at h4; unfold reachBytes at h4; omega⟩
  have : l.flatMap (fun c => [u8v c]) = l.map u8v := by
    clear h2 h4
    induction l with
    | nil => rfl
    | cons c l ih => rw [List.flatMap_cons, ih]; rfl
  rwa [this] at h2
/-- a field of a struct -/
theorem open_field {s t : TypeId} {k off : Nat} {fuel : Nat} {cs : List Value} {x : DataW H × List MemPlace} (hfi : FI P s k off t) (h : DataW.trod enc P W base spare held fuel s cs = some x) (hsz : Sz P s x.1) :
    ∃ n y, n < fuel ∧ DataW.trod enc P W base spare held n t ((cs.drop off).take (P.cellsOf t)) = some y ∧ Sz P t y.1 := by
  obtain ⟨fs, fl, hu, hk, rfl, rfl⟩ := hfi
  have hqq := DataW.trod_struct hu h
  obtain ⟨xs, n, rfl, rfl, hl, hx, hf⟩ := hqq
  have h1 := hf k fl hk
  have hi : k < xs.length := by
    have := (Array.getElem?_eq_some_iff.1 hk).1
    omega
  rw [List.getElem?_eq_getElem hi] at h1
  exact ⟨n, _, by omega, h1, sz_struct hu hsz hk (by simp [hi])⟩
theorem open_len {s : TypeId} {fs : Array Field} {fuel : Nat} {cs : List Value} {x : DataW H × List MemPlace} (hu : P.underlying s = some (.struct fs)) (h : DataW.trod enc P W base spare held fuel s cs = some x) : cs.length = P.cellsOf s := by
  have hqq := DataW.trod_struct hu h
  obtain ⟨xs, n, rfl, rfl, hl, hx, hf⟩ := hqq
  exact hl
/-- the parts of a struct -/
theorem open_part {t : TypeId} {fs : Array Field} {fuel : Nat} {cs : List Value} {x : DataW H × List MemPlace} (ht : P.underlying t = some (.struct fs)) (h : DataW.trod enc P W base spare held fuel t cs = some x) (hsz : Sz P t x.1) :
    ∃ n, fuel = n + 1 ∧ cs.length = P.cellsOf t ∧ ∀ (i : Nat) (fl : Field), fs[i]? = some fl → ∃ y, DataW.trod enc P W base spare held n fl.type ((cs.drop fl.offset).take (P.cellsOf fl.type)) = some y ∧ Sz P fl.type y.1 := by
  have hqq := DataW.trod_struct ht h
  obtain ⟨xs, n, rfl, rfl, hl, hx, hf⟩ := hqq
  refine ⟨n, rfl, hl, fun i fl hfl => ?_⟩
  have h1 := hf i fl hfl
  have hi : i < xs.length := by
    have := (Array.getElem?_eq_some_iff.1 hfl).1
    omega
  rw [List.getElem?_eq_getElem hi] at h1
  exact ⟨_, h1, sz_struct ht hsz hfl (by simp [hi])⟩
end
end Go.Cx
