/-
  sort.Slice over members, by the closure of value.Object.
-/
import Derived.Test.YthcppegkpkgnpaaDoorObj0
namespace Go.Proofs.YthcppegkpkgnpaaDoor
open Go Go.RowKit Go.Cx
set_option linter.unusedVariables false
set_option maxHeartbeats 8000000
open Go.Sort Go.Shelf
theorem flat_get {l : List MR} {t : Nat} (h : t < l.length * 7) : (l.flatMap mr)[t]? = some ((mr l.toArray[t / 7]!)[t % 7]!) := by
  have h1 : t / 7 < l.length := by omega
  have h2 := flat_at mr_len l (t / 7) h1
  have h3 : (((l.flatMap mr).drop (t / 7 * 7)).take 7)[t % 7]? = (l.flatMap mr)[t]? := by
    rw [List.getElem?_take_of_lt (by omega), List.getElem?_drop]
    congr 1
    omega
  rw [← h3, h2]
  have h4 : l.toArray[t / 7]! = l[t / 7] := by rw [getElem!_pos l.toArray _ (by simpa using h1)]; rfl
  have h5 : t % 7 < (mr l[t / 7]).length := by rw [mr_len]; omega
  rw [h4, List.getElem?_eq_getElem h5, getElem!_pos (mr l[t / 7]) (t % 7) h5]
theorem holds_of {w : World} {bl o cap : Nat} {t : TypeId} {l : List MR} (ho : OwnK w bl t 7 (.slice (some ⟨bl, o, none⟩) l.length cap) l.length (l.flatMap mr)) : HoldsK mr 7 w bl o l.toArray := by
  intro j hj
  rw [size_flatK, List.size_toArray] at hj
  refine ⟨?_, ?_⟩
  · rw [get_flatK mr 7 _ _ (by rw [List.size_toArray]; exact hj)]
    exact ho.cells j _ (flat_get hj)
  · rcases ho.2 with ⟨h, _⟩ | ⟨_, _, cur, hv, hb, _⟩
    · cases h
    · cases hv
      simp [World.frozen?, hb]
theorem flat_len (l : List MR) : (l.flatMap mr).length = l.length * 7 := by
  induction l with
  | nil => rfl
  | cons m l ih => rw [List.flatMap_cons, List.length_append, ih, mr_len, List.length_cons]; omega
/-- a world in which the row holds others -/
theorem row_world {w : World} {bl o cap : Nat} {t : TypeId} {l l2 : List MR} (ho : OwnK w bl t 7 (.slice (some ⟨bl, o, none⟩) l.length cap) l.length (l.flatMap mr)) (hl : l2.length = l.length) (m : Nat) (os : Array Obj) :
    SlK (grow (putRowK mr 7 (Sort.ahead w m) bl o l2.toArray) os) 7 (.slice (some ⟨bl, o, none⟩) l.length cap) l.length (l2.flatMap mr) ∧ Kept (fun x => x = bl) w (grow (putRowK mr 7 (Sort.ahead w m) bl o l2.toArray) os) := by
  have hH := holds_of ho
  have hsl := ho.sl
  have hbl : bl < w.heap.size := by
    rcases ho.2 with ⟨h, _⟩ | ⟨_, _, cur, hv, hb, _⟩
    · cases h
    · cases hv
      exact (Array.getElem?_eq_some_iff.1 hb).1
  have hH2 : HoldsK mr 7 (putRowK mr 7 (Sort.ahead w m) bl o l2.toArray) bl o l2.toArray := holdsK_putRowK mr 7 (Sort.ahead w m) bl o l.toArray l2.toArray (holdsK_ahead mr 7 w m bl o _ hH) (by simp [hl])
  have hsz : (putRowK mr 7 (Sort.ahead w m) bl o l2.toArray).heap.size = w.heap.size := size_putRow id (Sort.ahead w m) bl o (flatK mr 7 l2.toArray)
  have hH3 : HoldsK mr 7 (grow (putRowK mr 7 (Sort.ahead w m) bl o l2.toArray) os) bl o l2.toArray := holdsK_grow mr 7 _ os bl o _ (by rw [hsz]; exact hbl) hH2
  obtain ⟨h1, h2, a, c2, hv, hn, hm, _⟩ := hsl
  cases hv
  refine ⟨⟨by rw [flat_len, hl], h2, _, _, rfl, hn, hm, fun i u hu => ⟨bl, o, rfl, ?_⟩⟩, rfl, rfl, rfl, ?_, fun k hk hM => ?_⟩
  · have hi : i < l2.length * 7 := by
      have := (List.getElem?_eq_some_iff.1 hu).1
      rwa [flat_len] at this
    rw [flat_get hi] at hu
    have h3 := (hH3 i (by rw [size_flatK, List.size_toArray]; exact hi)).1
    rw [get_flatK mr 7 _ _ (by rw [List.size_toArray]; exact hi)] at h3
    rw [h3]
    exact hu
  · show w.heap.size ≤ ((putRowK mr 7 (Sort.ahead w m) bl o l2.toArray).heap ++ os).size
    rw [Array.size_append, hsz]
    omega
  · rw [heap_grow_old _ os (by rw [hsz]; exact hk)]
    show ((Sort.ahead w m).heap.modify bl _)[k]? = _
    rw [Array.getElem?_modify, if_neg (fun e => hM e.symm)]
    rfl
noncomputable def svT : TypeInfo := (Tryd.prog.info? 22).get (by kernel_rfl)
noncomputable def svE : TypeInfo := (Tryd.prog.info? 38).get (by kernel_rfl)
theorem svK (n : Nat) (h2 : 2 ≤ n) : Lib.swapperK n svE 25 = 9 := by
  have a : svE.hasPointers = true := by kernel_rfl
  have b : svE.bytes = 104 := by kernel_rfl
  have c : (n == 0) = false := by simp; omega
  have d : (n == 1) = false := by simp; omega
  simp [Lib.swapperK, a, b, c, d]
theorem svK0 : Lib.swapperK 0 svE 25 = 1 := rfl
theorem svK1 : Lib.swapperK 1 svE 25 = 2 := rfl
theorem mr_one (x : MR) : ∀ v ∈ mr x, v.oneCell' = true := by
  intro v hv
  rcases List.mem_cons.1 hv with rfl | hv
  · rfl
  · exact Go.Cx.One.one (x.one v hv)
theorem less_reads {w : World} {Bs bl o cap : Nat} {l : List MR} (hB : Blk w Bs 22 [.slice (some ⟨bl, o, none⟩) l.length cap]) (ho : OwnK w bl 38 7 (.slice (some ⟨bl, o, none⟩) l.length cap) l.length (l.flatMap mr)) (hne : Bs ≠ bl) : LessReadsK Tryd.prog 33 #[.pointer (some ⟨Bs, 0, none⟩)] mr 7 ltM bl o l.toArray.size w := by
  intro m os dk hs i j hi hj
  have hl : dk.toList.length = l.length := by rw [Array.length_toList, hs, List.size_toArray]
  have hqq := row_world (l2 := dk.toList) ho hl m os
  obtain ⟨h1, h2⟩ := hqq
  rw [Array.toArray_toList] at h1 h2
  show Calls _ _ _ (grow (putRowK mr 7 (Sort.ahead w m) bl o dk) os) _
  have hi' : i < dk.toList.length := by rw [Array.length_toList, hs]; exact hi
  have hj' : j < dk.toList.length := by rw [Array.length_toList, hs]; exact hj
  have h1' := h1
  rw [← hl] at h1'
  have hB2 : Blk (grow (putRowK mr 7 (Sort.ahead w m) bl o dk) os) Bs 22 [.slice (some ⟨bl, o, none⟩) l.length cap] := hB.kept h2 hne
  rw [← hl] at hB2
  refine Calls.mono (objless_ret i j hB2 h1' hi' hj') ?_
  rintro e w' ⟨v, rfl, rfl, rfl⟩
  refine ⟨?_, 1, rfl⟩
  unfold ltM
  rw [getElem!_pos dk i (by simpa using hi'), getElem!_pos dk j (by simpa using hj')]
  rfl
theorem slice_ret {w : World} {Bs bl o cap : Nat} {l : List MR} (hB : Blk w Bs 22 [.slice (some ⟨bl, o, none⟩) l.length cap]) (ho : OwnK w bl 38 7 (.slice (some ⟨bl, o, none⟩) l.length cap) l.length (l.flatMap mr)) (hne : Bs ≠ bl) (h2 : 2 ≤ l.length) (hlen : l.length ≤ 1353245080300) : Ret Tryd.prog 32 [.iface 22 (.slice (some ⟨bl, o, none⟩) l.length cap), .func (.func 33) #[] #[.pointer (some ⟨Bs, 0, none⟩)]].toArray w fun _ w' => ∃ l2 : List MR, l2.Perm l ∧ (∀ i j (hi : i < l2.length) (hj : j < l2.length), i < j → ¬ l2[j].key < l2[i].key) ∧ SlK w' 7 (.slice (some ⟨bl, o, none⟩) l.length cap) l.length (l2.flatMap mr) ∧ Kept (fun x => x = bl) w w' := by
  have hbl : bl < w.heap.size := by
    rcases ho.2 with ⟨h, _⟩ | ⟨_, _, cur, hv, hb, _⟩
    · cases h
    · cases hv
      exact (Array.getElem?_eq_some_iff.1 hb).1
  have hs : l.toArray.size = l.length := List.size_toArray
  have hc := Any.sort_Slice_cells_sorted Tryd.laysSl 22 38 svT svE (by kernel_rfl) (by kernel_rfl) (by kernel_rfl) (by kernel_rfl) 25 (fun _ => by kernel_rfl) mr 7 mr_len (by kernel_rfl) (fun _ => by kernel_rfl)
    mr_one ltM swo_ltM 33 #[.pointer (some ⟨Bs, 0, none⟩)]
    (enters_of Tryd.func33 (by kernel_rfl) rfl) bl o cap l.toArray (by omega) (by omega) 69 (by rw [svK _ (by omega)]; kernel_rfl) false
    (fun args W => run_callFunc_extern Tryd.func69 (by kernel_rfl) (by kernel_rfl) (by kernel_rfl) (e := Extern.ReflectliteSwapper.swap false) (by kernel_rfl) args W) w (less_reads hB ho hne) (holds_of ho) hbl
  rw [hs] at hc
  refine Calls.mono hc ?_
  rintro e w' ⟨rfl, d', n, os, hp, hsrt, rfl⟩
  have hd : d'.toList.length = l.length := by rw [Array.length_toList]; exact hp.1.trans hs
  have hqq := row_world (l2 := d'.toList) ho hd n os
  obtain ⟨h3, h4⟩ := hqq
  rw [Array.toArray_toList] at h3 h4
  refine ⟨_, rfl, d'.toList, ?_, sorted_get (n := l.length) hd.symm (by rw [Array.toArray_toList]; exact hsrt), h3, h4⟩
  have h5 := hp.2.2
  have e1 : d'.extract 0 l.length = d' := by
    have : l.length = d'.size := by rw [← hd, Array.length_toList]
    rw [this, Array.extract_size]
  have e2 : l.toArray.extract 0 l.length = l.toArray := by
    rw [← hs, Array.extract_size]
  rw [e1, e2] at h5
  simpa using h5
/-- none, or one: nothing turns -/
theorem slice_tiny {w : World} {p : Option Addr} {n cap : Nat} (h : n ≤ 1) (la lb : Array Value) (lf : Fn) : Ret Tryd.prog 32 [.iface 22 (.slice p n cap), .func lf la lb].toArray w fun _ w' => Below w.heap.size w w' := by
  have key : ∀ f, Tryd.prog.funcs.findIdx? (·.name == "internal/reflectlite" ++ ".Swapper$" ++ toString (Lib.swapperK n svE 25)) = some f → Ret Tryd.prog 32 [.iface 22 (.slice p n cap), .func lf la lb].toArray w fun _ w' => Below w.heap.size w w' := by
    intro f hf
    refine Calls.mono (Any.sort_Slice_tiny Tryd.laysSl 22 38 svT svE (by kernel_rfl) (by kernel_rfl) (by kernel_rfl) (by kernel_rfl) 25 (fun _ => by kernel_rfl) p n cap h f hf lf la lb w) ?_
    rintro e w' ⟨rfl, os, rfl⟩
    refine ⟨_, rfl, rfl, rfl, rfl, ?_, fun k hk => heap_grow_old w os hk⟩
    show w.heap.size ≤ (w.heap ++ os).size
    rw [Array.size_append]
    omega
  have hn : n = 0 ∨ n = 1 := by omega
  rcases hn with rfl | rfl
  · exact key 61 (by rw [svK0]; kernel_rfl)
  · exact key 62 (by rw [svK1]; kernel_rfl)
end Go.Proofs.YthcppegkpkgnpaaDoor
