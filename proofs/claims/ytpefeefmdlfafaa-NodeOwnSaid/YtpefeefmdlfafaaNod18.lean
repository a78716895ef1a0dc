/-
  law06: NodeInner: walk.
-/
import Derived.Test.YtpefeefmdlfafaaNod11
import Derived.LaidEqlPtr
import Derived.Lib.Builder
namespace Go.Proofs.Ytpefeefmdlfafaa
open Go Go.RowKit Go.Cx
set_option linter.unusedVariables false
set_option maxHeartbeats 8000000
set_option maxRecDepth 20000
theorem Y.nepS {P : Program} {f : Fr} {w : World} {d : Option Tmp} {ty : TypeId} {pos : String} {aft : Array Edge} {g : Option (Nat × Bool)} {x y : Operand} {tp te yt : TypeId} {z : Value} {n by' : Nat} {a : Addr} (hp : P.underlying tp = some (.pointer te)) (hi : TI P te z n by') (hx : ev f x = .pointer (some a)) (hy : ev f y = .pointer (some a)) :
    Y P ⟨d, .binOp .neq tp x y yt, ty, pos, aft, g⟩ f w (.bool false) := by
  have hqq := hi.info
  obtain ⟨j, hj, _⟩ := hqq
  have := Lib.run_neq_ptr_same w a hp hj
  simp [Y, execOp, hx, hy, eqGuard, this, Result.andThen]
theorem Y.eqpS {P : Program} {f : Fr} {w : World} {d : Option Tmp} {ty : TypeId} {pos : String} {aft : Array Edge} {g : Option (Nat × Bool)} {x y : Operand} {tp te yt : TypeId} {z : Value} {n by' : Nat} {a : Addr} (hp : P.underlying tp = some (.pointer te)) (hi : TI P te z n by') (hx : ev f x = .pointer (some a)) (hy : ev f y = .pointer (some a)) :
    Y P ⟨d, .binOp .eql tp x y yt, ty, pos, aft, g⟩ f w (.bool true) := by
  have hqq := hi.info
  obtain ⟨j, hj, _⟩ := hqq
  have := run_eql_ptr_same w a hp hj
  simp [Y, execOp, hx, hy, eqGuard, this, Result.andThen]
theorem flatL_sum {N : Nat} : ∀ {l : List Sh}, (∀ k ∈ l, (flatS k).length ≤ N) → (flatL l).length ≤ l.length * N
  | [], _ => by simp [flatL]
  | k :: l, h => by
    have h1 := h k (by simp)
    have h2 := flatL_sum (l := l) (N := N) (fun x hx => h x (List.mem_cons_of_mem _ hx))
    rw [flatL, List.length_append, List.length_cons, Nat.succ_mul]
    omega
theorem nodesL_sum {N : Nat} : ∀ {l : List Sh}, (∀ k ∈ l, nodesS k ≤ N) → nodesL l ≤ l.length * N
  | [], _ => by simp [nodesL]
  | k :: l, h => by
    have h1 := h k (by simp)
    have h2 := nodesL_sum (l := l) (N := N) (fun x hx => h x (List.mem_cons_of_mem _ hx))
    rw [nodesL, List.length_cons, Nat.succ_mul]
    omega
theorem elem1 {w : World} {b o j : Nat} {xs : List Value} {u : Value} (hx : xs[j]? = some u) (hc : Cells w b o ((xs.drop ((j : Int).toNat * 1)).take 1)) : w.cell? ⟨b, o, none⟩ = some u := by
  refine hc 0 u ?_
  rw [Int.toNat_natCast, Nat.mul_one, List.getElem?_take_of_lt (by omega), List.getElem?_drop, Nat.add_zero]
  exact hx
theorem EW0 {w : World} : EAt w [] (.slice none 0 0) := (EW.nil (M := fun _ => True)).at
theorem no_empty : ¬ innerOk [] := fun h => by have := h.1.1; simp at this
/-- nodes appended so far, or none yet -/
def PBo (w : World) (B : Nat) (l : List Sh) (j : Nat) (r : Value) (bl : Nat) (bs : List Nat) : Prop := (j = 0 ∧ r = .slice none 0 0 ∧ bs = [] ∧ bl = 0) ∨ PB w B l j r bl bs
theorem PBo.at {w : World} {B bl : Nat} {l : List Sh} {r : Value} {bs : List Nat} (h : PBo w B l l.length r bl bs) : PsAt w (fun b => B ≤ b) l bs r := by
  rcases h with ⟨h1, rfl, rfl, _⟩ | h
  · have : l = [] := List.eq_nil_of_length_eq_zero h1
    subst this
    exact ⟨rfl, (OwnK.nil (w := w) (bl := 0) (t := 0) (k := 1)).sl, fun j h => absurd h (by simp)⟩
  · exact h.at
theorem PBo.next {w w' : World} {B bl j : Nat} {l : List Sh} {r : Value} {bs : List Nat} (h : PBo w B l j r bl bs) (hb : Below w.heap.size w w') (h0 : 0 < w.heap.size) : PB w' B l j r bl bs ∧ bl < w.heap.size := by
  rcases h with ⟨rfl, rfl, rfl, rfl⟩ | h
  · exact ⟨PB.zero (by have := hb.size; omega), h0⟩
  · exact ⟨h.bel hb, h.2.1⟩
theorem sl_pos {w : World} {k n : Nat} {v : Value} {xs : List Value} (h : SlK w k v n xs) (hk : 0 < k) (hn : 0 < n) : 0 < w.heap.size := by
  obtain ⟨h1, _, a, cap, _, _, _, h2⟩ := h
  have hl : 0 < xs.length := by rw [h1]; exact Nat.mul_pos hn hk
  have hqq := h2 0 xs[0] (by simp [hl])
  obtain ⟨b, o, _, h3⟩ := hqq
  have := World.block_lt_of_cell? _ _ h3
  omega
theorem nodeInner_ret (w : World) (r : Value) (l : List Sh) (hl : SsAt w l r) : Ret Try.prog 5 [r].toArray w fun v w' => v = .bool true ∧ Below w.heap.size w w' := by
  obtain ⟨lc, h1, hs, h2, hn⟩ := hl
  have hmx : maxLen = 9223372036854775807 := rfl
  obtain ⟨ar, cr, rfl⟩ : ∃ a c, r = .slice a l.length c := by
    obtain ⟨_, _, a, c, e, _⟩ := hs
    exact ⟨a, c, e⟩
  by_cases hlong : 10 < l.length
  · refine Ret.of (n := 162) (rs := #[.tmp 2]) Try.func5 rfl rfl rfl (by simp) ?_
    refine WC.seqR rfl ?_
    refine WL.y rfl (Y.assign) ?_
    refine WL.nil ?_
    refine WC.seq ?_
    refine WC.seqR rfl ?_
    refine WL.y rfl (Y.move) ?_
    refine WL.y rfl (Y.lenSl Try.underlying23 (hs) _) ?_
    refine WL.y rfl (Y.dT (Y.gtr rfl rfl) (by omega)) ?_
    refine WL.nil ?_
    refine WC.condT (rfl) ?_
    refine WC.seqR rfl ?_
    refine WL.call rfl (C.func go11) (known_ret _) ?_
    rintro _ w19 ⟨rfl, hb19⟩
    refine WL.y rfl (Y.assign) ?_
    refine WL.nil ?_
    refine WC.ret (thenQ.ret (endQ.one (.inr rfl) ?_))
    exact ⟨rfl, hb19⟩
  · refine Ret.of (n := 162) (rs := #[.tmp 2]) Try.func5 rfl rfl rfl (by simp) ?_
    refine WC.seqR rfl ?_
    refine WL.y rfl (Y.assign) ?_
    refine WL.nil ?_
    refine WC.seq ?_
    refine WC.seqR rfl ?_
    refine WL.y rfl (Y.move) ?_
    refine WL.y rfl (Y.lenSl Try.underlying23 (hs) _) ?_
    refine WL.y rfl (Y.dF (Y.gtr rfl rfl) (by omega)) ?_
    refine WL.nil ?_
    refine WC.condF (rfl) ?_
    refine WC.skip (thenQ.normal ?_)
    refine WC.seqR rfl ?_
    refine WL.y rfl (Y.assign) ?_
    refine WL.nil ?_
    refine WC.seq ?_
    refine WC.seqR rfl ?_
    refine WL.y rfl (Y.assign) ?_
    refine WL.nil ?_
    refine WC.block ?_
    refine WC.loop (fun j => l.length - j) (fun j f ds w' => j ≤ l.length ∧ ds = [] ∧ Below w.heap.size w w' ∧ (∀ k ∈ l.take j, smallS 8 k ∧ OkS k) ∧ ∃ v3 bl bs J, PBo w' w.heap.size l j v3 bl bs ∧ f = Go.Cx.ov J [(0, .slice ar l.length cr), (3, v3), (4, .int .i64 (j : Int))]) 0 ?_ ?_
    · exact ⟨Nat.zero_le _, rfl, Below.refl _ _, fun k hk => absurd hk (by simp), _, 0, [], _, .inl ⟨rfl, rfl, rfl, rfl⟩, ov_mk ⟨rfl, rfl, rfl, trivial⟩⟩
    · rintro j _ _ wL ⟨hj, rfl, kL, hgood, v3, bl, bs, J, hPB, rfl⟩
      refine WC.seq ?_
      refine WC.seqR rfl ?_
      refine WL.y rfl (Y.move) ?_
      refine WL.y rfl (Y.move) ?_
      refine WL.y rfl (Y.lenSl Try.underlying23 (hs) _) ?_
      refine WL.y rfl (Y.lss rfl rfl) ?_
      refine WL.nil ?_
      refine WC.condD rfl (fun h0 => ?_) (fun h0 => ?_)
      · have hjl : j < l.length := by omega
        have hjc : j < lc.length := by omega
        have hsh := (h2 j hjl hjc).bel kL
        have hmay := ok_may (s := l[j])
        have hir := hs.bel kL
        have hpos := sl_pos hir (by omega) (by omega)
        refine WC.skip (thenQ.normal ?_)
        refine WC.seq ?_
        refine WC.block ?_
        refine WC.seq ?_
        by_cases hsm : smallS 8 l[j]
        · have hnn := small_nodes hsm
          have hff := small_flat 8 _ hsm
          by_cases hok : OkS l[j]
          · refine WC.seqR rfl ?_
            refine WL.y rfl (Y.move) ?_
            refine WL.y rfl (Y.move) ?_
            refine WL.yex rfl (Y.idx Try.underlying23 ti25 (by decide) (hir) rfl (by omega) (by omega)) ?_
            rintro _ ⟨b28, o28, rfl, hc28⟩
            refine WL.y rfl (Y.loadK Try.underlying25 rfl ti25 (lc[j].h) rfl (elem_sh hjc hc28)) ?_
            refine WL.call rfl (C.func go9) (smallT (d := 8) (by omega) hsh hsm) ?_
            rintro _ w30 ⟨rfl, hb30⟩
            refine WL.y rfl (Y.not rfl) ?_
            refine WL.y rfl (Y.move) ?_
            refine WL.y rfl (Y.move) ?_
            refine WL.y rfl (Y.move) ?_
            refine WL.yex rfl (Y.idx Try.underlying23 ti25 (by decide) (hir.bel hb30) rfl (by omega) (by omega)) ?_
            rintro _ ⟨b35, o35, rfl, hc35⟩
            refine WL.y rfl (Y.loadK Try.underlying25 rfl ti25 (lc[j].h) rfl (elem_sh hjc hc35)) ?_
            refine WL.call rfl (C.func go10) (rmayT (rmay_ret l[j]) (hmay.1 hok) _ _ _ (hsh.bel hb30) (Below.refl _ _) (by omega) (by omega)) ?_
            rintro _ w37 ⟨rfl, hb37⟩
            have k37 := Below.step hb30 hb37
            refine WL.y rfl (Y.not rfl) ?_
            refine WL.y rfl (Y.pickF rfl) ?_
            refine WL.nil ?_
            refine WC.condF (rfl) ?_
            refine WC.skip (thenQ.normal ?_)
            refine WC.seqR rfl ?_
            refine WL.y rfl (Y.move) ?_
            refine WL.y rfl (Y.move) ?_
            refine WL.yex rfl (Y.idx Try.underlying23 ti25 (by decide) (hir.bel k37) rfl (by omega) (by omega)) ?_
            rintro _ ⟨b44, o44, rfl, hc44⟩
            refine WL.y rfl (Y.loadK Try.underlying25 rfl ti25 (lc[j].h) rfl (elem_sh hjc hc44)) ?_
            refine WL.call rfl (C.func go12) (ofT _ _ (hsh.bel k37) (by omega) (by omega) hok) ?_
            rintro _ w46 ⟨⟨b, rfl, n46⟩, hb46⟩
            refine WL.y rfl (Y.move) ?_
            refine WL.y rfl (Y.extract rfl rfl) ?_
            refine WL.y rfl (Y.extract rfl rfl) ?_
            refine WL.y rfl (Y.assign) ?_
            refine WL.y rfl (Y.assign) ?_
            refine WL.nil ?_
            refine WC.seq ?_
            refine WC.seqR rfl ?_
            refine WL.y rfl (Y.move) ?_
            refine WL.y rfl (Y.dF (Y.nei rfl rfl) (fun h => h rfl)) ?_
            refine WL.y rfl (Y.move) ?_
            refine WL.y rfl (Y.move) ?_
            refine WL.y rfl (Y.bF (Y.eqpn Try.underlying29 rfl rfl) (rfl)) ?_
            refine WL.y rfl (Y.pickF rfl) ?_
            refine WL.nil ?_
            refine WC.condF (rfl) ?_
            refine WC.skip (thenQ.normal ?_)
            refine WC.region rfl ?_
            refine WL.y rfl (Y.move) ?_
            refine WL.y rfl (Y.move) ?_
            refine WL.eex rfl (E.build1 (u := ptr b) Try.underlying49 ti29 rfl rfl rfl) ?_
            rintro v57 w57 ⟨hs57, hb57, -⟩
            have bb : Below wL.heap.size wL w57 := Below.step (Below.step k37 hb46) hb57
            have hqq := hPB.next bb hpos
            obtain ⟨hPB', hbl0⟩ := hqq
            refine WL.eex rfl (E.appendN Try.underlying49 ti29 rfl (by decide) hPB'.2.2.2.1 hs57 (one_one rfl) (by omega) (by omega)) ?_
            rintro v58 w58 ⟨⟨bl', ho58, hbl'⟩, hg58⟩
            refine WL.y rfl (Y.assign) ?_
            refine WL.nil (inBlockQ.normal (thenQ.normal ?_))
            refine WC.region rfl ?_
            refine WL.y rfl (Y.move) ?_
            refine WL.y rfl (Y.add64 rfl rfl (by omega)) ?_
            refine WL.y rfl (Y.assign) ?_
            refine WL.nil (thenQ.normal ?_)
            have s37 := k37.size
            have s46 := hb46.size
            have s57 := hb57.size
            have s58 := hg58.size
            have sL := kL.size
            have hap := hPB'.apart
            have k58 : Below w.heap.size w w58 := (Below.step kL bb).trans (below_of_grown hg58 (by omega) (fun b e => by have := hap b e; omega))
            refine ⟨j + 1, by omega, by omega, rfl, k58, fun k hk => ?_, _, bl', bs ++ [b], _, .inr (hPB'.append (by omega) hjl ((n46.bel hb57).mono (fun b _ h => ⟨by omega, by omega⟩)) ho58 hbl' hg58), ov_mk ⟨rfl, rfl, rfl, trivial⟩⟩
            rw [List.take_succ_eq_append_getElem hjl, List.mem_append, List.mem_singleton] at hk
            rcases hk with hk | rfl
            · exact hgood k hk
            · exact ⟨hsm, hok⟩
          · refine WC.seqR rfl ?_
            refine WL.y rfl (Y.move) ?_
            refine WL.y rfl (Y.move) ?_
            refine WL.yex rfl (Y.idx Try.underlying23 ti25 (by decide) (hir) rfl (by omega) (by omega)) ?_
            rintro _ ⟨b28, o28, rfl, hc28⟩
            refine WL.y rfl (Y.loadK Try.underlying25 rfl ti25 (lc[j].h) rfl (elem_sh hjc hc28)) ?_
            refine WL.call rfl (C.func go9) (smallT (d := 8) (by omega) hsh hsm) ?_
            rintro _ w30 ⟨rfl, hb30⟩
            refine WL.y rfl (Y.not rfl) ?_
            refine WL.y rfl (Y.move) ?_
            refine WL.y rfl (Y.move) ?_
            refine WL.y rfl (Y.move) ?_
            refine WL.yex rfl (Y.idx Try.underlying23 ti25 (by decide) (hir.bel hb30) rfl (by omega) (by omega)) ?_
            rintro _ ⟨b35, o35, rfl, hc35⟩
            refine WL.y rfl (Y.loadK Try.underlying25 rfl ti25 (lc[j].h) rfl (elem_sh hjc hc35)) ?_
            refine WL.call rfl (C.func go10) (rmayF (rmay_ret l[j]) (fun h => hok (hmay.2 h)) _ _ _ (hsh.bel hb30) (Below.refl _ _) (by omega) (by omega)) ?_
            rintro _ w37 ⟨rfl, hb37⟩
            refine WL.y rfl (Y.not rfl) ?_
            refine WL.y rfl (Y.pickF rfl) ?_
            refine WL.nil ?_
            refine WC.condT (rfl) ?_
            refine WC.seqR rfl ?_
            refine WL.call rfl (C.func go11) (known_ret _) ?_
            rintro _ w40 ⟨rfl, hb40⟩
            refine WL.y rfl (Y.assign) ?_
            refine WL.nil ?_
            refine WC.ret (thenQ.ret (inBlockQ.ret (thenQ.ret (thenQ.ret (inBlockQ.ret (thenQ.ret (endQ.one (.inr rfl) ?_)))))))
            exact ⟨rfl, Below.step (Below.step (Below.step kL hb30) hb37) hb40⟩
        · skip
          skip
          refine WC.seqR rfl ?_
          refine WL.y rfl (Y.move) ?_
          refine WL.y rfl (Y.move) ?_
          refine WL.yex rfl (Y.idx Try.underlying23 ti25 (by decide) (hir) rfl (by omega) (by omega)) ?_
          rintro _ ⟨b28, o28, rfl, hc28⟩
          refine WL.y rfl (Y.loadK Try.underlying25 rfl ti25 (lc[j].h) rfl (elem_sh hjc hc28)) ?_
          refine WL.call rfl (C.func go9) (smallF (d := 8) (by omega) hsh hsm) ?_
          rintro _ w30 ⟨rfl, hb30⟩
          refine WL.y rfl (Y.not rfl) ?_
          refine WL.y rfl (Y.move) ?_
          refine WL.off rfl ?_
          refine WL.off rfl ?_
          refine WL.off rfl ?_
          refine WL.off rfl ?_
          refine WL.off rfl ?_
          refine WL.off rfl ?_
          refine WL.y rfl (Y.pickT rfl) ?_
          refine WL.nil ?_
          refine WC.condT (rfl) ?_
          refine WC.seqR rfl ?_
          refine WL.call rfl (C.func go11) (known_ret _) ?_
          rintro _ w40 ⟨rfl, hb40⟩
          refine WL.y rfl (Y.assign) ?_
          refine WL.nil ?_
          refine WC.ret (thenQ.ret (inBlockQ.ret (thenQ.ret (thenQ.ret (inBlockQ.ret (thenQ.ret (endQ.one (.inr rfl) ?_)))))))
          exact ⟨rfl, Below.step (Below.step kL hb30) hb40⟩
      · have hje : j = l.length := by omega
        rw [hje, List.take_length] at hgood
        rw [hje] at hPB
        have hA := hPB.at
        have hlb := hA.len
        have hfl : (flatL l).length ≤ l.length * 8000 := flatL_sum (fun k hk => by have := small_nodes (hgood k hk).1; have := small_flat 8 _ (hgood k hk).1; omega)
        have hnd : nodesL l ≤ l.length * 400 := nodesL_sum (fun k hk => small_nodes (hgood k hk).1)
        refine WC.exit (thenQ.exit (thenQ.exit (inBlockQ.hit (thenQ.normal ?_))))
        refine WC.seqR rfl ?_
        refine WL.y rfl (Y.move) ?_
        refine WL.eex rfl (E.append Try.underlying49 ti29 rfl (by decide) (World.ownsRow_nil _ _ _ _) hA.sl (ptr_ones bs) (by omega) (by omega) (Nat.le_refl _)) ?_
        rintro v60 w60 ⟨ho60, hb60, -⟩
        refine WL.y rfl (Y.assign) ?_
        refine WL.nil ?_
        rw [Nat.zero_add, List.nil_append] at ho60
        have hqq := OwnK.of_own ho60
        obtain ⟨bl7, hB7, hO7⟩ := hqq
        have hA60 := hA.bel hb60
        have hPo : PsAt w60 (fun b => w.heap.size ≤ b) l bs v60 := ⟨hlb, hO7.sl, fun j h h' => hA60.nd j h h'⟩
        have k60 := Below.step kL hb60
        have hfe : flatS (.mk [] l) = if l.length = 0 then [] else flatL l := flatS_eq _
        have hne : nodesS (.mk [] l) = 1 + nodesL l := nodesS_eq _
        have hfb : (flatS (.mk [] l)).length ≤ 1000000 := by
          rw [hfe]
          split
          · simp
          · omega
        have hshl : ShAt w (.mk [] l) [.slice none 0 0, .slice ar l.length cr] := ShAt.mk (s := .mk [] l) (lc := lc) EW0 (by simp [Sh.es]) h1 h2 hs hn
        have hmay := ok_may (s := .mk [] l)
        by_cases hio : innerOk l
        · have hl2 : 2 ≤ l.length := hio.1.1
          have hokE : OkS (.mk [] l) := (okS_inner (by omega)).2 ⟨rfl, fun k hk => (hgood k hk).2, hio⟩
          have hP : PB wL w.heap.size l l.length v3 bl bs := by
            rcases hPB with ⟨h, _⟩ | h
            · omega
            · exact h
          have lbl := hP.2.1
          have sL := kL.size
          have s60 := hb60.size
          have hOb := hP.2.2.2.1
          have hNd : ∀ (w' : World), Kept (fun b => wL.heap.size ≤ b) wL w' → PsAt w' (fun b => b < wL.heap.size) l bs v3 := fun w' hk => ⟨hlb, (hOb.kept hk (by omega)).sl, fun j h h' => NdR.kept hk (fun b hb => by omega) ((hA.nd j h h').mono (M' := fun b => b < wL.heap.size) (fun b hb _ => hb))⟩
          have hqq := hO7.form (by omega)
          obtain ⟨o7, cap7, e7, _, _, l7⟩ := hqq
          refine WC.seqR rfl ?_
          refine WL.y rfl (Y.move) ?_
          refine WL.call rfl (C.func go20) (innerT hPo (by omega) (by omega) (by omega) hio) ?_
          rintro _ w63 ⟨⟨nb, kv, nbl, rfl, q1, q2, hBn, hOn⟩, hb63⟩
          refine WL.y rfl (Y.move) ?_
          refine WL.y rfl (Y.extract rfl rfl) ?_
          refine WL.y rfl (Y.extract rfl rfl) ?_
          refine WL.y rfl (Y.assign) ?_
          refine WL.y rfl (Y.assign) ?_
          refine WL.nil ?_
          refine WC.seq ?_
          refine WC.seqR rfl ?_
          refine WL.y rfl (Y.move) ?_
          refine WL.y rfl (Y.build (cells := #[.slice none 0 0, .slice ar l.length cr]) (by kernel_rfl) _) ?_
          refine WL.call rfl (C.func go10) (rmayT (rmay_ret _) (hmay.1 hokE) _ _ _ (hshl.bel (Below.step k60 hb63)) (Below.refl _ _) hfb (by omega)) ?_
          rintro _ w68 ⟨rfl, hb68⟩
          refine WL.y rfl (Y.not rfl) ?_
          refine WL.y rfl (Y.move) ?_
          refine WL.y rfl (Y.move) ?_
          refine WL.y rfl (Y.lenSl Try.underlying23 (hs) _) ?_
          refine WL.y rfl (Y.dF (Y.eqi rfl rfl) (by omega)) ?_
          refine WL.y rfl (Y.pickF rfl) ?_
          refine WL.nil ?_
          refine WC.condF (rfl) ?_
          refine WC.skip (thenQ.normal ?_)
          refine WC.seq ?_
          refine WC.seqR rfl ?_
          refine WL.y rfl (Y.assign) ?_
          refine WL.nil ?_
          refine WC.block ?_
          have k68 : Below wL.heap.size wL w68 := Below.step (Below.step hb60 hb63) hb68
          have s63 := hb63.size
          have s68 := hb68.size
          have hO68 : OwnK w68 bl7 29 1 (.slice (some ⟨bl7, o7, none⟩) l.length cap7) l.length (bs.map ptr) := by rw [← e7]; exact (hO7.bel hb63).bel hb68
          refine WC.loop (fun j => l.length - j) (fun j f ds w' => j ≤ l.length ∧ ds = [] ∧ Kept (fun x => x = bl7) w68 w' ∧ ∃ xs J, OwnK w' bl7 29 1 (.slice (some ⟨bl7, o7, none⟩) l.length cap7) l.length xs ∧ f = Go.Cx.ov J [(3, v3), (7, .slice (some ⟨bl7, o7, none⟩) l.length cap7), (8, ptr nb), (9, .int .i64 0), (10, .int .i64 (j : Int))]) 0 ?_ ?_
          · exact ⟨Nat.zero_le _, rfl, Kept.refl _ _, _, _, hO68, ov_mk ⟨rfl, e7, rfl, rfl, rfl, trivial⟩⟩
          · rintro i _ _ wM ⟨hi, rfl, kM, xs, J, hOM, rfl⟩
            refine WC.seq ?_
            refine WC.seqR rfl ?_
            refine WL.y rfl (Y.move) ?_
            refine WL.y rfl (Y.move) ?_
            refine WL.y rfl (Y.lenSl Try.underlying49 (hOM.sl) _) ?_
            refine WL.y rfl (Y.lss rfl rfl) ?_
            refine WL.nil ?_
            refine WC.condD rfl (fun h5 => ?_) (fun h5 => ?_)
            · have hil : i < l.length := by omega
              refine WC.skip (thenQ.normal ?_)
              refine WC.seq ?_
              refine WC.block ?_
              refine WC.region rfl ?_
              refine WL.y rfl (Y.move) ?_
              refine WL.y rfl (Y.move) ?_
              refine WL.y rfl (Y.idxO (n := l.length) (cap := cap7) (j := i) Try.underlying49 ti29 rfl rfl rfl hil rfl _) ?_
              refine WL.eex rfl (E.storeK1 (u := .pointer none) (i := i) ti29 rfl rfl rfl hOM (by omega) rfl) ?_
              rintro _ w20 ⟨hO20, hg20⟩
              refine WL.nil (inBlockQ.normal (thenQ.normal ?_))
              refine WC.region rfl ?_
              refine WL.y rfl (Y.move) ?_
              refine WL.y rfl (Y.add64 rfl rfl (by omega)) ?_
              refine WL.y rfl (Y.assign) ?_
              refine WL.nil (thenQ.normal ?_)
              exact ⟨i + 1, by omega, by omega, rfl, kM.trans (Kept.of_grown hg20 rfl), _, _, hO20, ov_mk ⟨rfl, rfl, rfl, rfl, rfl, trivial⟩⟩
            · have kall : Kept (fun b => wL.heap.size ≤ b) wL wM := (Kept.of_bel k68).trans (kM.mono (fun b h _ => by omega))
              have hPs := hNd wM kall
              have hBnM := (hBn.bel hb68).kept kM (by omega)
              have hOnM := (hOn.bel hb68).kept kM (by omega)
              have sM := kM.size
              have lnb := hBnM.lt
              have lnbl : nbl < wM.heap.size := by
                have hqq := hOnM.form (by omega)
                obtain ⟨_, _, _, _, _, h⟩ := hqq
                exact h
              refine WC.exit (thenQ.exit (thenQ.exit (inBlockQ.hit (thenQ.normal ?_))))
              refine WC.seqR rfl ?_
              refine WL.y rfl (Y.move) ?_
              refine WL.call rfl (C.func go20) (innerT hPs (by omega) (by omega) (by omega) hio) ?_
              rintro _ w95 ⟨⟨mb, kv2, mbl, rfl, p1, p2, hBm, hOm⟩, hb95⟩
              refine WL.y rfl (Y.move) ?_
              refine WL.y rfl (Y.extract rfl rfl) ?_
              refine WL.y rfl (Y.extract rfl rfl) ?_
              refine WL.y rfl (Y.assign) ?_
              refine WL.y rfl (Y.assign) ?_
              refine WL.nil ?_
              refine WC.seqR rfl ?_
              refine WL.y rfl (Y.move) ?_
              refine WL.call rfl (C.func go21) (nkids_ret (M := fun _ => True) (hBnM.bel hb95) (hOnM.bel hb95) (show l.length ≤ 1000000 by omega)) ?_
              rintro v99 w99 ⟨⟨bla, hra, hOa⟩, hb99⟩
              refine WL.y rfl (Y.move) ?_
              refine WL.call rfl (C.func go21) (nkids_ret (M := fun _ => True) (hBm.bel hb99) (hOm.bel hb99) (show l.length ≤ 1000000 by omega)) ?_
              rintro v101 w101 ⟨⟨blb, hrb, hObb⟩, hb101⟩
              refine WL.y rfl (Y.assign) ?_
              refine WL.y rfl (Y.assign) ?_
              refine WL.nil ?_
              refine WC.seq ?_
              refine WC.seqR rfl ?_
              refine WL.y rfl (Y.move) ?_
              refine WL.y rfl (Y.dF (Y.nei rfl rfl) (fun h => h rfl)) ?_
              refine WL.y rfl (Y.move) ?_
              refine WL.y rfl (Y.move) ?_
              refine WL.y rfl (Y.dF (Y.nei rfl rfl) (fun h => h rfl)) ?_
              refine WL.y rfl (Y.pickF rfl) ?_
              refine WL.y rfl (Y.move) ?_
              refine WL.y rfl (Y.move) ?_
              refine WL.y rfl (Y.lenSl Try.underlying49 ((show SlK _ _ _ l.length _ from hOa.sl)) _) ?_
              refine WL.y rfl (Y.move) ?_
              refine WL.y rfl (Y.lenSl Try.underlying49 (hPs.sl) _) ?_
              refine WL.y rfl (Y.dF (Y.nei rfl rfl) (by omega)) ?_
              refine WL.y rfl (Y.pickF rfl) ?_
              refine WL.y rfl (Y.move) ?_
              refine WL.y rfl (Y.move) ?_
              refine WL.y rfl (Y.lenSl Try.underlying49 ((show SlK _ _ _ l.length _ from hObb.sl)) _) ?_
              refine WL.y rfl (Y.move) ?_
              refine WL.y rfl (Y.lenSl Try.underlying49 (hPs.sl) _) ?_
              refine WL.y rfl (Y.dF (Y.nei rfl rfl) (by omega)) ?_
              refine WL.y rfl (Y.pickF rfl) ?_
              refine WL.nil ?_
              refine WC.condF (rfl) ?_
              refine WC.skip (thenQ.normal ?_)
              refine WC.seq ?_
              refine WC.seqR rfl ?_
              refine WL.y rfl (Y.assign) ?_
              refine WL.nil ?_
              refine WC.block ?_
              have hOa : OwnK w99 bla 29 1 v99 l.length (bs.map ptr) := hOa
              have hObb : OwnK w101 blb 29 1 v101 l.length (bs.map ptr) := hObb
              have hqq := hOa.form (by omega)
              obtain ⟨oa, capa, ea, _, _, la⟩ := hqq
              have hqq := hObb.form (by omega)
              obtain ⟨ob, capb, eb, _, _, lb⟩ := hqq
              have ha1 : w95.heap.size ≤ bla := hra.elim (fun h => by rw [ea] at h; cases h) id
              have hb1 : w99.heap.size ≤ blb := hrb.elim (fun h => by rw [eb] at h; cases h) id
              have s95 := hb95.size
              have s99 := hb99.size
              have s101 := hb101.size
              have kx : Kept (fun b => wL.heap.size ≤ b) wL w101 := kall.trans (Kept.of_bel (Below.step (Below.step hb95 hb99) hb101))
              have hOa' : OwnK w101 bla 29 1 (.slice (some ⟨bla, oa, none⟩) l.length capa) l.length (bs.map ptr) := by rw [← ea]; exact hOa.bel hb101
              have hpt : ∀ i (h : i < l.length), (bs.map ptr)[i]? = some (ptr (bs[i]'(by omega))) := fun i h => by rw [List.getElem?_map, List.getElem?_eq_getElem (by omega)]; rfl
              refine WC.loop (fun j => l.length - j) (fun j f ds w' => j ≤ l.length ∧ ds = [] ∧ Kept (fun x => x = bla) w101 w' ∧ ∃ ys J, OwnK w' bla 29 1 (.slice (some ⟨bla, oa, none⟩) l.length capa) l.length ys ∧ (∀ i, j ≤ i → ys[i]? = (bs.map ptr)[i]?) ∧ f = Go.Cx.ov J [(3, v3), (8, ptr nb), (13, .slice (some ⟨bla, oa, none⟩) l.length capa), (14, v101), (15, .int .i64 (j : Int))]) 0 ?_ ?_
              · exact ⟨Nat.zero_le _, rfl, Kept.refl _ _, _, _, hOa', fun _ _ => rfl, ov_mk ⟨rfl, rfl, ea, rfl, rfl, trivial⟩⟩
              · rintro i2 _ _ wN ⟨hi2, rfl, kN, ys, J2, hON, hys, rfl⟩
                have kN2 : Kept (fun b => wL.heap.size ≤ b) wL wN := kx.trans (kN.mono (fun b h _ => by omega))
                have hPn := hNd wN kN2
                have hObN := hObb.kept kN (by omega)
                refine WC.seq ?_
                refine WC.seqR rfl ?_
                refine WL.y rfl (Y.move) ?_
                refine WL.y rfl (Y.move) ?_
                refine WL.y rfl (Y.lenSl Try.underlying49 (hPn.sl) _) ?_
                refine WL.y rfl (Y.lss rfl rfl) ?_
                refine WL.nil ?_
                refine WC.condD rfl (fun h6 => ?_) (fun h6 => ?_)
                · have hil2 : i2 < l.length := by omega
                  have hy := (hys i2 (Nat.le_refl _)).trans (hpt i2 hil2)
                  refine WC.skip (thenQ.normal ?_)
                  refine WC.seq ?_
                  refine WC.block ?_
                  refine WC.seq ?_
                  refine WC.seq ?_
                  refine WC.regionB (fun _ => false) [(0, .any), (1, .any), (2, .any), (3, .held), (4, .any), (5, .any), (6, .any), (7, .held), (8, .any), (9, .any), (10, .any), (11, .any), (12, .any), (13, .held), (14, .any), (15, .any), (16, .any), (17, .held), (18, .any), (19, .any)] mixed (by kernel_rfl) (fun w28 hS28 hheap => ?_)
                  refine RL.any rfl rfl (fun _ => Y.move) ?_
                  refine RL.any rfl rfl (fun _ => Y.move) ?_
                  refine RL.yex rfl rfl (Y.idx Try.underlying49 ti29 (by decide) (hON.sl) rfl (by omega) (by omega)) ?_
                  rintro _ ⟨b130, o130, rfl, hc130⟩
                  refine RL.held rfl rfl hS28 (fun _ hb9 => Y.load1 Try.underlying29 rfl rfl (cell_bel (elem1 hy hc130) hb9)) ?_
                  refine RL.any rfl rfl (fun _ => Y.move) ?_
                  refine RL.any rfl rfl (fun _ => Y.move) ?_
                  refine RL.yex rfl rfl (Y.idx Try.underlying49 ti29 (by decide) (hPn.sl) rfl (by omega) (by omega)) ?_
                  rintro _ ⟨b134, o134, rfl, hc134⟩
                  refine RL.held rfl rfl hS28 (fun _ hb9 => Y.load1 Try.underlying29 rfl rfl (cell_bel (elem1 (hpt i2 hil2) hc134) hb9)) ?_
                  refine RL.any rfl rfl (fun _ => (Y.nepS Try.underlying29 ti61 rfl rfl)) ?_
                  refine RL.any rfl rfl (fun _ => Y.move) ?_
                  refine RL.any rfl rfl (fun _ => Y.move) ?_
                  refine RL.any rfl rfl (fun _ => Y.move) ?_
                  refine RL.yex rfl rfl (Y.idx Try.underlying49 ti29 (by decide) (hObN.sl) rfl (by omega) (by omega)) ?_
                  rintro _ ⟨b140, o140, rfl, hc140⟩
                  refine RL.held rfl rfl hS28 (fun _ hb9 => Y.load1 Try.underlying29 rfl rfl (cell_bel (elem1 (hpt i2 hil2) hc140) hb9)) ?_
                  refine RL.any rfl rfl (fun _ => Y.move) ?_
                  refine RL.any rfl rfl (fun _ => Y.move) ?_
                  refine RL.yex rfl rfl (Y.idx Try.underlying49 ti29 (by decide) (hPn.sl) rfl (by omega) (by omega)) ?_
                  rintro _ ⟨b144, o144, rfl, hc144⟩
                  refine RL.held rfl rfl hS28 (fun _ hb9 => Y.load1 Try.underlying29 rfl rfl (cell_bel (elem1 (hpt i2 hil2) hc144) hb9)) ?_
                  refine RL.any rfl rfl (fun _ => (Y.nepS Try.underlying29 ti61 rfl rfl)) ?_
                  refine RL.any rfl rfl (fun _ => Y.pickF rfl) ?_
                  refine RL.nil (thenQ.normal ?_)
                  refine WC.condF (rfl) ?_
                  refine WC.skip (thenQ.normal ?_)
                  refine WC.region rfl ?_
                  refine WL.y rfl (Y.move) ?_
                  refine WL.y rfl (Y.move) ?_
                  refine WL.y rfl (Y.idxO (n := l.length) (cap := capa) (j := i2) Try.underlying49 ti29 rfl rfl rfl hil2 rfl _) ?_
                  refine WL.eex rfl (E.storeK1 (u := .pointer none) (i := i2) ti29 rfl rfl rfl (hON.bel hS28) (by omega) rfl) ?_
                  rintro _ w30 ⟨hO30, hg30⟩
                  refine WL.nil (inBlockQ.normal (thenQ.normal ?_))
                  refine WC.region rfl ?_
                  refine WL.y rfl (Y.move) ?_
                  refine WL.y rfl (Y.add64 rfl rfl (by omega)) ?_
                  refine WL.y rfl (Y.assign) ?_
                  refine WL.nil (thenQ.normal ?_)
                  refine ⟨i2 + 1, by omega, by omega, rfl, (kN.bel hS28).trans (Kept.of_grown hg30 rfl), _, _, hO30, fun q hq => ?_, ov_mk ⟨rfl, rfl, rfl, rfl, rfl, trivial⟩⟩
                  rw [List.getElem?_set_ne (by omega)]
                  exact hys q (by omega)
                · have sN := kN.size
                  have hBn3 := ((hBnM.bel (Below.step (Below.step hb95 hb99) hb101))).kept kN (by omega)
                  have hOn3 := ((hOnM.bel (Below.step (Below.step hb95 hb99) hb101))).kept kN (by omega)
                  have kW : Below w.heap.size w wN := (Below.step kL (Below.refl _ _)).trans ((kN2.below (B := wL.heap.size) (fun b h => h) (Nat.le_refl _)).mono sL)
                  have h02 : 0 < l.length := by omega
                  refine WC.exit (thenQ.exit (thenQ.exit (inBlockQ.hit (thenQ.normal ?_))))
                  refine WC.seq ?_
                  refine WC.regionB (fun i => Nat.beq i 9) [(0, .any), (4, .any), (5, .any), (6, .held), (1, .seq), (2, .any), (3, .seq), (7, .any), (8, .any), (9, .seq), (10, .any), (11, .any)] mixed (by kernel_rfl) (fun w31 hS31 hheap => ?_)
                  refine RL.any rfl rfl (fun _ => Y.move) ?_
                  refine RL.any rfl rfl (fun _ => Y.move) ?_
                  refine RL.yex rfl rfl (Y.idx Try.underlying49 ti29 (by decide) (hPn.sl) rfl (by omega) (by omega)) ?_
                  rintro _ ⟨b156, o156, rfl, hc156⟩
                  refine RL.held rfl rfl hS31 (fun _ hb9 => Y.load1 Try.underlying29 rfl rfl (cell_bel (elem1 (hpt 0 h02) hc156) hb9)) ?_
                  refine RL.call rfl rfl (C.func go21) (nkids_ret (M := fun _ => True) (hBn3.bel hS31) (hOn3.bel hS31) (show l.length ≤ 1000000 by omega)) ?_
                  rintro v152 w152 ⟨⟨blc, hrc, hOc⟩, hb152⟩
                  refine ⟨.inr (fun h => Below.step h hb152), ?_⟩
                  refine RL.yex rfl rfl (Y.idx Try.underlying49 ti29 (by decide) ((show SlK _ _ _ l.length _ from hOc.sl)) rfl (by omega) (by omega)) ?_
                  rintro _ ⟨b153, o153, rfl, hc153⟩
                  refine RL.y rfl rfl (Y.load1 Try.underlying29 rfl rfl (elem1 (hpt 0 h02) hc153)) ?_
                  refine RL.any rfl rfl (fun _ => (Y.eqpS Try.underlying29 ti61 rfl rfl)) ?_
                  refine RL.any rfl rfl (fun _ => Y.move) ?_
                  refine RL.call rfl rfl (C.func go11) (known_ret _) ?_
                  rintro _ w160 ⟨rfl, hb160⟩
                  refine ⟨.inl rfl, ?_⟩
                  refine RL.any rfl rfl (fun _ => Y.pickT rfl) ?_
                  refine RL.any rfl rfl (fun _ => Y.assign) ?_
                  refine RL.nil (thenQ.normal ?_)
                  refine WC.ret (endQ.one (.inr rfl) ?_)
                  exact ⟨rfl, Below.step (Below.step (Below.step kW hS31) hb152) hb160⟩
        · by_cases h00 : l.length = 0
          · have hokE : OkS (.mk [] l) := by
              have : l = [] := List.eq_nil_of_length_eq_zero h00
              rw [this]
              exact okS_leaf.2 ⟨by simp, fun i hi => absurd hi (by simp)⟩
            refine WC.seqR rfl ?_
            refine WL.y rfl (Y.move) ?_
            refine WL.call rfl (C.func go20) (innerF hPo (by omega) (by omega) (by omega) hio) ?_
            rintro _ w63 ⟨rfl, hb63⟩
            refine WL.y rfl (Y.move) ?_
            refine WL.y rfl (Y.extract rfl rfl) ?_
            refine WL.y rfl (Y.extract rfl rfl) ?_
            refine WL.y rfl (Y.assign) ?_
            refine WL.y rfl (Y.assign) ?_
            refine WL.nil ?_
            refine WC.seq ?_
            refine WC.seqR rfl ?_
            refine WL.y rfl (Y.move) ?_
            refine WL.y rfl (Y.build (cells := #[.slice none 0 0, .slice ar l.length cr]) (by kernel_rfl) _) ?_
            refine WL.call rfl (C.func go10) (rmayT (rmay_ret _) (hmay.1 hokE) _ _ _ (hshl.bel (Below.step k60 hb63)) (Below.refl _ _) hfb (by omega)) ?_
            rintro _ w68 ⟨rfl, hb68⟩
            refine WL.y rfl (Y.not rfl) ?_
            refine WL.y rfl (Y.move) ?_
            refine WL.y rfl (Y.move) ?_
            refine WL.y rfl (Y.lenSl Try.underlying23 (hs) _) ?_
            refine WL.y rfl (Y.dT (Y.eqi rfl rfl) (by omega)) ?_
            refine WL.y rfl (Y.pickF rfl) ?_
            refine WL.nil ?_
            refine WC.condT (rfl) ?_
            refine WC.seqR rfl ?_
            refine WL.y rfl (Y.move) ?_
            refine WL.y rfl (Y.dT (Y.eqi rfl rfl) (rfl)) ?_
            refine WL.y rfl (Y.move) ?_
            refine WL.y rfl (Y.move) ?_
            refine WL.y rfl (Y.bT (Y.eqpn Try.underlying29 rfl rfl) (rfl)) ?_
            refine WL.y rfl (Y.pickT rfl) ?_
            refine WL.y rfl (Y.move) ?_
            refine WL.call rfl (C.func go11) (known_ret _) ?_
            rintro _ w82 ⟨rfl, hb82⟩
            refine WL.y rfl (Y.pickT rfl) ?_
            refine WL.y rfl (Y.assign) ?_
            refine WL.nil ?_
            refine WC.ret (thenQ.ret (endQ.one (.inr rfl) ?_))
            exact ⟨rfl, Below.step (Below.step (Below.step k60 hb63) hb68) hb82⟩
          · have hokE : ¬ OkS (.mk [] l) := fun h => hio ((okS_inner (by omega)).1 h).2.2
            skip
            refine WC.seqR rfl ?_
            refine WL.y rfl (Y.move) ?_
            refine WL.call rfl (C.func go20) (innerF hPo (by omega) (by omega) (by omega) hio) ?_
            rintro _ w63 ⟨rfl, hb63⟩
            refine WL.y rfl (Y.move) ?_
            refine WL.y rfl (Y.extract rfl rfl) ?_
            refine WL.y rfl (Y.extract rfl rfl) ?_
            refine WL.y rfl (Y.assign) ?_
            refine WL.y rfl (Y.assign) ?_
            refine WL.nil ?_
            refine WC.seq ?_
            refine WC.seqR rfl ?_
            refine WL.y rfl (Y.move) ?_
            refine WL.y rfl (Y.build (cells := #[.slice none 0 0, .slice ar l.length cr]) (by kernel_rfl) _) ?_
            refine WL.call rfl (C.func go10) (rmayF (rmay_ret _) (fun h => hokE (hmay.2 h)) _ _ _ (hshl.bel (Below.step k60 hb63)) (Below.refl _ _) hfb (by omega)) ?_
            rintro _ w68 ⟨rfl, hb68⟩
            refine WL.y rfl (Y.not rfl) ?_
            refine WL.y rfl (Y.move) ?_
            refine WL.off rfl ?_
            refine WL.off rfl ?_
            refine WL.off rfl ?_
            refine WL.y rfl (Y.pickT rfl) ?_
            refine WL.nil ?_
            refine WC.condT (rfl) ?_
            refine WC.seqR rfl ?_
            refine WL.y rfl (Y.move) ?_
            refine WL.y rfl (Y.dT (Y.eqi rfl rfl) (rfl)) ?_
            refine WL.y rfl (Y.move) ?_
            refine WL.y rfl (Y.move) ?_
            refine WL.y rfl (Y.bT (Y.eqpn Try.underlying29 rfl rfl) (rfl)) ?_
            refine WL.y rfl (Y.pickT rfl) ?_
            refine WL.y rfl (Y.move) ?_
            refine WL.call rfl (C.func go11) (known_ret _) ?_
            rintro _ w82 ⟨rfl, hb82⟩
            refine WL.y rfl (Y.pickT rfl) ?_
            refine WL.y rfl (Y.assign) ?_
            refine WL.nil ?_
            refine WC.ret (thenQ.ret (endQ.one (.inr rfl) ?_))
            exact ⟨rfl, Below.step (Below.step (Below.step k60 hb63) hb68) hb82⟩
end Go.Proofs.Ytpefeefmdlfafaa
