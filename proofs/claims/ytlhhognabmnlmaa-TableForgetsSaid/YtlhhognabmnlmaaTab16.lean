/-
  law20: TableOrder: walk.
-/
import Derived.Test.YtlhhognabmnlmaaTab15
namespace Go.Proofs.Ytlhhognabmnlmaa
open Go Go.RowKit Go.Cx
set_option linter.unusedVariables false
set_option maxHeartbeats 8000000
theorem St.list {F : Nat → Prop} {B : Nat} {w : World} {b bw : Nat} {L L2 : List Nt} {fl f2 : Int} (h : St F B w b L fl bw L2 f2) : ∃ rv, Blk w bw 47 [rv, .int .u64 f2] ∧ SlK w 3 rv L2.length (L2.flatMap nt3) := by
  obtain ⟨M, _, h2, _⟩ := h
  obtain ⟨_, rv, h3, h4⟩ := h2
  exact ⟨rv, h3, h4.sl⟩
theorem ofC_take {L : List Nt} (c : Int) {j : Nat} (h : j < L.length) : ofC c (L.take (j + 1)) = ofC c (L.take j) ++ (if L[j].c = c then [(L[j].v, L[j].i)] else []) := by
  rw [List.take_succ_eq_append_getElem h, ofC_append]
theorem id_at {L : List Nt} (hg : Good L) {j : Nat} (h : j < L.length) : L[j].i = ((ofC L[j].c (L.take j)).length : Int) + 1 := by
  have e : ofC L[j].c L = ofC L[j].c (L.take (j + 1)) ++ ofC L[j].c (L.drop (j + 1)) := by
    unfold ofC
    rw [← List.map_append, ← List.filter_append, List.take_append_drop]
  rw [ofC_take _ h, if_pos rfl] at e
  have hl : (ofC L[j].c (L.take j)).length < (ofC L[j].c L).length := by rw [e]; simp only [List.length_append, List.length_cons, List.length_nil]; omega
  have h1 := hg.ids L[j].c _ hl
  have h2 : (ofC L[j].c L)[(ofC L[j].c (L.take j)).length]? = some (L[j].v, L[j].i) := by rw [e]; simp
  rw [List.getElem?_eq_getElem hl] at h2
  rw [Option.some.inj h2] at h1
  exact h1
theorem tableOrder_ret (w : World) (r : Value) (l : List A4) (hl : AcsAt w l r) (c : Int) (hc : (Lit.int .u64 c).wf = true) : Ret Try.prog 5 [r, .int .u64 c].toArray w fun v w' => v = .bool true ∧ Below w.heap.size w w' := by
  obtain ⟨hs, hu⟩ := hl
  by_cases hlong : 200 < l.length
  · refine Ret.of (n := 102) (rs := #[.tmp 4]) Try.func5 rfl rfl rfl (by simp) ?_
    refine WC.seqR rfl ?_
    refine WL.y rfl (Y.assign) ?_
    refine WL.nil ?_
    refine WC.seq ?_
    refine WC.seqR rfl ?_
    refine WL.y rfl (Y.move) ?_
    refine WL.y rfl (Y.lenSl Try.underlying51 (hs) _) ?_
    refine WL.y rfl (Y.dT (Y.gtr rfl rfl) (by omega)) ?_
    refine WL.nil ?_
    refine WC.condT (rfl) ?_
    refine WC.seqR rfl ?_
    refine WL.call rfl (C.func go17) (known_ret _) ?_
    rintro _ w16 ⟨rfl, hb16⟩
    refine WL.y rfl (Y.assign) ?_
    refine WL.nil ?_
    refine WC.ret (thenQ.ret (endQ.one (.inr rfl) ?_))
    exact ⟨rfl, hb16⟩
  · refine Ret.of (n := 102) (rs := #[.tmp 4]) Try.func5 rfl rfl rfl (by simp) ?_
    refine WC.seqR rfl ?_
    refine WL.y rfl (Y.assign) ?_
    refine WL.nil ?_
    refine WC.seq ?_
    refine WC.seqR rfl ?_
    refine WL.y rfl (Y.move) ?_
    refine WL.y rfl (Y.lenSl Try.underlying51 (hs) _) ?_
    refine WL.y rfl (Y.dF (Y.gtr rfl rfl) (by omega)) ?_
    refine WL.nil ?_
    refine WC.condF (rfl) ?_
    refine WC.skip (thenQ.normal ?_)
    refine WC.seqR rfl ?_
    refine WL.y rfl (Y.build (cells := #[.map none, .slice none 0 0, .int .u64 0, .int .u64 0]) (by kernel_rfl) _) ?_
    refine WL.eex rfl (E.boxX) ?_
    rintro _ w18 ⟨rfl, hB18, hb18⟩
    refine WL.y rfl (Y.build (cells := #[.slice none 0 0, .int .u64 0]) (by kernel_rfl) _) ?_
    refine WL.eex rfl (E.boxX) ?_
    rintro _ w20 ⟨rfl, hB20, hb20⟩
    refine WL.y rfl (Y.assign) ?_
    refine WL.y rfl (Y.assign) ?_
    refine WL.nil ?_
    refine WC.seq ?_
    have hBt : Blk w18 w.heap.size 27 [.map none, .slice none 0 0, .int .u64 0, .int .u64 0] := hB18
    have lBt := hBt.lt
    have h0 : St (fun _ => False) w.heap.size w20 w.heap.size [] 0 w18.heap.size [] 0 := st_zero (w := w) (w1 := w) (w2 := w) (Nat.le_refl _) lBt (hBt.bel hb20) hB20
    have k20 : Below w.heap.size w w20 := Below.step hb18 hb20
    clear hB18 hB20
    refine WC.seqR rfl ?_
    refine WL.y rfl (Y.assign) ?_
    refine WL.nil ?_
    refine WC.cut (fun f ds w' => ds = [] ∧ Below w.heap.size w w' ∧ (∃ L, St (fun _ => False) w.heap.size w' w.heap.size L 0 w18.heap.size L 0 ∧ Good L ∧ L.length ≤ 200) ∧ ∃ J, f = Go.Cx.ov J [(1, .int .u64 c), (5, .pointer (some ⟨w.heap.size, 0, none⟩)), (6, .pointer (some ⟨w18.heap.size, 0, none⟩))]) ?_ ?_
    · refine WC.block ?_
      refine WC.loop (fun j => l.length - j) (fun j f ds w' => j ≤ l.length ∧ ds = [] ∧ Below w.heap.size w w' ∧ (∃ L, St (fun _ => False) w.heap.size w' w.heap.size L 0 w18.heap.size L 0 ∧ Good L ∧ L.length ≤ j) ∧ ∃ J, f = Go.Cx.ov J [(0, r), (1, .int .u64 c), (5, .pointer (some ⟨w.heap.size, 0, none⟩)), (6, .pointer (some ⟨w18.heap.size, 0, none⟩)), (7, .int .i64 (j : Int))]) 0 ?_ ?_
      · exact ⟨Nat.zero_le _, rfl, k20, ⟨[], h0, Good.nil, Nat.le_refl _⟩, _, ov_mk ⟨rfl, rfl, rfl, rfl, rfl, trivial⟩⟩
      · rintro j _ _ wL ⟨hj, rfl, kL, ⟨L, hS, hg, hL⟩, J, rfl⟩
        refine WC.seq ?_
        refine WC.seqR rfl ?_
        refine WL.y rfl (Y.move) ?_
        refine WL.y rfl (Y.move) ?_
        refine WL.y rfl (Y.lenSl Try.underlying51 (hs) _) ?_
        refine WL.y rfl (Y.lss rfl rfl) ?_
        refine WL.nil ?_
        refine WC.condD rfl (fun h1 => ?_) (fun h1 => ?_)
        · have hjl : j < l.length := by omega
          have hun := hu _ (List.getElem_mem hjl)
          have s := kL.size
          have hlen := actL_len (a := l[j]) (L := L)
          refine WC.skip (thenQ.normal ?_)
          refine WC.seq ?_
          refine WC.block ?_
          by_cases c1 : l[j].k = 1
          · have e2 : actF l[j] 0 = 0 := if_neg (by omega)
            refine WC.seqR rfl ?_
            refine WL.y rfl (Y.move) ?_
            refine WL.y rfl (Y.move) ?_
            refine WL.yex rfl (Y.idx Try.underlying51 ti53 (by decide) (hs.bel kL) rfl (by omega) (by omega)) ?_
            rintro _ ⟨b29, o29, rfl, hc29⟩
            refine WL.y rfl (Y.fieldAddr fi53f0 ti3 (by decide) rfl (rfl) _) ?_
            refine WL.y rfl (Y.load1 Try.underlying3 rfl rfl (cells_hd (elem_ac hjl hc29))) ?_
            refine WL.y rfl (Y.dT (Y.eqi rfl rfl) (by omega)) ?_
            refine WL.y rfl (Y.move) ?_
            refine WL.off rfl ?_
            refine WL.off rfl ?_
            refine WL.off rfl ?_
            refine WL.off rfl ?_
            refine WL.off rfl ?_
            refine WL.off rfl ?_
            refine WL.y rfl (Y.pickT rfl) ?_
            refine WL.nil ?_
            refine WC.condT (rfl) ?_
            refine WC.region rfl ?_
            refine WL.y rfl (Y.move) ?_
            refine WL.y rfl (Y.move) ?_
            refine WL.y rfl (Y.move) ?_
            refine WL.y rfl (Y.move) ?_
            refine WL.yex rfl (Y.idx Try.underlying51 ti53 (by decide) (hs.bel kL) rfl (by omega) (by omega)) ?_
            rintro _ ⟨b45, o45, rfl, hc45⟩
            refine WL.y rfl (Y.loadK Try.underlying53 rfl ti53 (rfl) rfl (elem_ac hjl hc45)) ?_
            refine WL.call rfl (C.func go20) (do_ret l[j] hun hg (by omega) hS) ?_
            rintro _ w47 ⟨⟨b', rfl, hb', h47⟩, k47⟩
            refine WL.nil (inBlockQ.normal (thenQ.normal ?_))
            refine WC.region rfl ?_
            refine WL.y rfl (Y.move) ?_
            refine WL.y rfl (Y.add64 rfl rfl (by omega)) ?_
            refine WL.y rfl (Y.assign) ?_
            refine WL.nil (thenQ.normal ?_)
            rw [hb' (by omega), e2] at h47
            exact ⟨j + 1, by omega, by omega, rfl, kL.trans (k47.below (fun x h => h.1) s), ⟨_, h47, actL_good hg, by omega⟩, _, ov_mk ⟨rfl, rfl, rfl, rfl, rfl, trivial⟩⟩
          · by_cases c2 : l[j].k = 2
            · have e2 : actF l[j] 0 = 0 := if_neg (by omega)
              refine WC.seqR rfl ?_
              refine WL.y rfl (Y.move) ?_
              refine WL.y rfl (Y.move) ?_
              refine WL.yex rfl (Y.idx Try.underlying51 ti53 (by decide) (hs.bel kL) rfl (by omega) (by omega)) ?_
              rintro _ ⟨b29, o29, rfl, hc29⟩
              refine WL.y rfl (Y.fieldAddr fi53f0 ti3 (by decide) rfl (rfl) _) ?_
              refine WL.y rfl (Y.load1 Try.underlying3 rfl rfl (cells_hd (elem_ac hjl hc29))) ?_
              refine WL.y rfl (Y.dF (Y.eqi rfl rfl) (by omega)) ?_
              refine WL.y rfl (Y.move) ?_
              refine WL.y rfl (Y.move) ?_
              refine WL.y rfl (Y.move) ?_
              refine WL.yex rfl (Y.idx Try.underlying51 ti53 (by decide) (hs.bel kL) rfl (by omega) (by omega)) ?_
              rintro _ ⟨b36, o36, rfl, hc36⟩
              refine WL.y rfl (Y.fieldAddr fi53f0 ti3 (by decide) rfl (rfl) _) ?_
              refine WL.y rfl (Y.load1 Try.underlying3 rfl rfl (cells_hd (elem_ac hjl hc36))) ?_
              refine WL.y rfl (Y.dT (Y.eqi rfl rfl) (by omega)) ?_
              refine WL.y rfl (Y.pickF rfl) ?_
              refine WL.nil ?_
              refine WC.condT (rfl) ?_
              refine WC.region rfl ?_
              refine WL.y rfl (Y.move) ?_
              refine WL.y rfl (Y.move) ?_
              refine WL.y rfl (Y.move) ?_
              refine WL.y rfl (Y.move) ?_
              refine WL.yex rfl (Y.idx Try.underlying51 ti53 (by decide) (hs.bel kL) rfl (by omega) (by omega)) ?_
              rintro _ ⟨b45, o45, rfl, hc45⟩
              refine WL.y rfl (Y.loadK Try.underlying53 rfl ti53 (rfl) rfl (elem_ac hjl hc45)) ?_
              refine WL.call rfl (C.func go20) (do_ret l[j] hun hg (by omega) hS) ?_
              rintro _ w47 ⟨⟨b', rfl, hb', h47⟩, k47⟩
              refine WL.nil (inBlockQ.normal (thenQ.normal ?_))
              refine WC.region rfl ?_
              refine WL.y rfl (Y.move) ?_
              refine WL.y rfl (Y.add64 rfl rfl (by omega)) ?_
              refine WL.y rfl (Y.assign) ?_
              refine WL.nil (thenQ.normal ?_)
              rw [hb' (by omega), e2] at h47
              exact ⟨j + 1, by omega, by omega, rfl, kL.trans (k47.below (fun x h => h.1) s), ⟨_, h47, actL_good hg, by omega⟩, _, ov_mk ⟨rfl, rfl, rfl, rfl, rfl, trivial⟩⟩
            · skip
              skip
              refine WC.seqR rfl ?_
              refine WL.y rfl (Y.move) ?_
              refine WL.y rfl (Y.move) ?_
              refine WL.yex rfl (Y.idx Try.underlying51 ti53 (by decide) (hs.bel kL) rfl (by omega) (by omega)) ?_
              rintro _ ⟨b29, o29, rfl, hc29⟩
              refine WL.y rfl (Y.fieldAddr fi53f0 ti3 (by decide) rfl (rfl) _) ?_
              refine WL.y rfl (Y.load1 Try.underlying3 rfl rfl (cells_hd (elem_ac hjl hc29))) ?_
              refine WL.y rfl (Y.dF (Y.eqi rfl rfl) (by omega)) ?_
              refine WL.y rfl (Y.move) ?_
              refine WL.y rfl (Y.move) ?_
              refine WL.y rfl (Y.move) ?_
              refine WL.yex rfl (Y.idx Try.underlying51 ti53 (by decide) (hs.bel kL) rfl (by omega) (by omega)) ?_
              rintro _ ⟨b36, o36, rfl, hc36⟩
              refine WL.y rfl (Y.fieldAddr fi53f0 ti3 (by decide) rfl (rfl) _) ?_
              refine WL.y rfl (Y.load1 Try.underlying3 rfl rfl (cells_hd (elem_ac hjl hc36))) ?_
              refine WL.y rfl (Y.dF (Y.eqi rfl rfl) (by omega)) ?_
              refine WL.y rfl (Y.pickF rfl) ?_
              refine WL.nil ?_
              refine WC.condF (rfl) ?_
              refine WC.skip (inBlockQ.normal (thenQ.normal ?_))
              refine WC.region rfl ?_
              refine WL.y rfl (Y.move) ?_
              refine WL.y rfl (Y.add64 rfl rfl (by omega)) ?_
              refine WL.y rfl (Y.assign) ?_
              refine WL.nil (thenQ.normal ?_)
              exact ⟨j + 1, by omega, by omega, rfl, kL, ⟨L, hS, hg, by omega⟩, _, ov_mk ⟨rfl, rfl, rfl, rfl, rfl, trivial⟩⟩
        · refine WC.exit (thenQ.exit (thenQ.exit (inBlockQ.hit (thenQ.normal ?_))))
          exact ⟨rfl, kL, ⟨L, hS, hg, by omega⟩, _, ov_mk ⟨rfl, rfl, rfl, trivial⟩⟩
    · rintro _ _ wC ⟨rfl, kC, ⟨L, hS, hg, hL⟩, J, rfl⟩
      have hqq := hS.list
      obtain ⟨rv, hR, hsR⟩ := hqq
      refine WC.seqR rfl ?_
      refine WL.y rfl (Y.assign) ?_
      refine WL.nil ?_
      refine WC.seq ?_
      refine WC.seqR rfl ?_
      refine WL.y rfl (Y.assign) ?_
      refine WL.nil ?_
      refine WC.block ?_
      refine WC.loop (fun j => L.length - j) (fun j f ds w' => j ≤ L.length ∧ ds = [] ∧ Below wC.heap.size wC w' ∧ ∃ J, f = Go.Cx.ov J [(1, .int .u64 c), (5, .pointer (some ⟨w.heap.size, 0, none⟩)), (6, .pointer (some ⟨w18.heap.size, 0, none⟩)), (8, .int .u64 (((ofC c (L.take j)).length : Int) + 1)), (9, .int .i64 (j : Int))]) 0 ?_ ?_
      · exact ⟨Nat.zero_le _, rfl, Below.refl _ _, _, ov_mk ⟨rfl, rfl, rfl, rfl, rfl, trivial⟩⟩
      · rintro j _ _ wL ⟨hj, rfl, kL, J, rfl⟩
        have hRL := hR.bel kL
        have hsL := hsR.bel kL
        have hSL := hS.bel kL
        refine WC.seq ?_
        refine WC.seqR rfl ?_
        refine WL.y rfl (Y.move) ?_
        refine WL.y rfl (Y.move) ?_
        refine WL.y rfl (Y.nilCheck rfl) ?_
        refine WL.y rfl (Y.fieldAddr fi47f0 ti45 (by decide) rfl (rfl) _) ?_
        refine WL.y rfl (Y.load1 Try.underlying45 rfl rfl (hRL.cell 0)) ?_
        refine WL.y rfl (Y.lenSl Try.underlying45 (hsL) _) ?_
        refine WL.y rfl (Y.lss rfl rfl) ?_
        refine WL.nil ?_
        refine WC.condD rfl (fun h3 => ?_) (fun h3 => ?_)
        · have hjl : j < L.length := by omega
          have hw : whoL 0 L[j].v L = some L[j] := who_get hg.rise (List.getElem_mem hjl) (by have := (hg.ok _ (List.getElem_mem hjl)).v; omega)
          have hid := id_at hg hjl
          have hle := ofC_len c (L.take j)
          rw [List.length_take] at hle
          have hot := ofC_take (L := L) c hjl
          refine WC.skip (thenQ.normal ?_)
          refine WC.seq ?_
          refine WC.block ?_
          refine WC.seqR rfl ?_
          refine WL.y rfl (Y.move) ?_
          refine WL.y rfl (Y.move) ?_
          refine WL.y rfl (Y.nilCheck rfl) ?_
          refine WL.y rfl (Y.fieldAddr fi47f0 ti45 (by decide) rfl (rfl) _) ?_
          refine WL.y rfl (Y.load1 Try.underlying45 rfl rfl (hRL.cell 0)) ?_
          refine WL.y rfl (Y.move) ?_
          refine WL.yex rfl (Y.idx Try.underlying45 ti43 (by decide) (hsL) rfl (by omega) (by omega)) ?_
          rintro _ ⟨b64, o64, rfl, hc64⟩
          refine WL.y rfl (Y.fieldAddr fi43f1 ti22 (by decide) rfl (rfl) _) ?_
          refine WL.y rfl (Y.load1 Try.underlying22 rfl rfl (cells_2 (elem_nt hjl hc64))) ?_
          refine WL.call rfl (C.func go11) (hSL.who2 L[j].v hg (by omega)) ?_
          rintro _ w67 ⟨rfl, hb67⟩
          refine WL.y rfl (Y.move) ?_
          refine WL.y rfl (Y.extract rfl rfl) ?_
          refine WL.y rfl (Y.extract rfl rfl) ?_
          refine WL.y rfl (Y.extract rfl rfl) ?_
          refine WL.y rfl (Y.assign) ?_
          refine WL.y rfl (Y.assign) ?_
          refine WL.y rfl (Y.assign) ?_
          refine WL.nil ?_
          refine WC.seq ?_
          refine WC.seqR rfl ?_
          refine WL.y rfl (Y.move) ?_
          refine WL.y rfl (Y.bF (Y.not rfl) (by rw [hw]; rfl)) ?_
          refine WL.y rfl (Y.move) ?_
          refine WL.y rfl (Y.move) ?_
          refine WL.y rfl (Y.move) ?_
          refine WL.y rfl (Y.nilCheck rfl) ?_
          refine WL.y rfl (Y.fieldAddr fi47f0 ti45 (by decide) rfl (rfl) _) ?_
          refine WL.y rfl (Y.load1 Try.underlying45 rfl rfl ((hRL.bel hb67).cell 0)) ?_
          refine WL.y rfl (Y.move) ?_
          refine WL.yex rfl (Y.idx Try.underlying45 ti43 (by decide) (hsL.bel hb67) rfl (by omega) (by omega)) ?_
          rintro _ ⟨b80, o80, rfl, hc80⟩
          refine WL.y rfl (Y.fieldAddr fi43f0 ti22 (by decide) rfl (rfl) _) ?_
          refine WL.y rfl (Y.load1 Try.underlying22 rfl rfl (cells_hd (elem_nt hjl hc80))) ?_
          refine WL.y rfl (Y.dF (Y.nei rfl rfl) (by rw [hw]; exact fun h => h rfl)) ?_
          refine WL.y rfl (Y.pickF rfl) ?_
          refine WL.nil ?_
          refine WC.condF (rfl) ?_
          refine WC.skip (thenQ.normal ?_)
          refine WC.seqR rfl ?_
          refine WL.y rfl (Y.move) ?_
          refine WL.y rfl (Y.move) ?_
          refine WL.y rfl (Y.eqi rfl rfl) ?_
          refine WL.nil ?_
          refine WC.condD rfl (fun c4 => ?_) (fun c4 => ?_)
          · have e4 : L[j].c = c := by rw [hw] at c4; exact c4
            rw [e4] at hid
            rw [if_pos e4] at hot
            refine WC.seq ?_
            refine WC.seqR rfl ?_
            refine WL.y rfl (Y.move) ?_
            refine WL.y rfl (Y.move) ?_
            refine WL.y rfl (Y.dF (Y.nei rfl rfl) (by rw [hw]; exact fun h => h hid)) ?_
            refine WL.nil ?_
            refine WC.condF (rfl) ?_
            refine WC.skip (thenQ.normal ?_)
            refine WC.region rfl ?_
            refine WL.y rfl (Y.move) ?_
            refine WL.y rfl (Y.addU64 rfl rfl (by omega)) ?_
            refine WL.y rfl (Y.assign) ?_
            refine WL.nil (inBlockQ.normal (thenQ.normal ?_))
            refine WC.region rfl ?_
            refine WL.y rfl (Y.move) ?_
            refine WL.y rfl (Y.add64 rfl rfl (by omega)) ?_
            refine WL.y rfl (Y.assign) ?_
            refine WL.nil (thenQ.normal ?_)
            refine ⟨j + 1, by omega, by omega, rfl, Below.step kL hb67, _, ov_mk ⟨rfl, rfl, rfl, (show Value.int .u64 (((ofC c (L.take j)).length : Int) + 1 + 1) = .int .u64 (((ofC c (L.take (j + 1))).length : Int) + 1) from by rw [hot, List.length_append]; rfl), rfl, trivial⟩⟩
          · have e4 : ¬ L[j].c = c := by rw [hw] at c4; exact c4
            rw [if_neg e4, List.append_nil] at hot
            refine WC.skip (inBlockQ.normal (thenQ.normal ?_))
            refine WC.region rfl ?_
            refine WL.y rfl (Y.move) ?_
            refine WL.y rfl (Y.add64 rfl rfl (by omega)) ?_
            refine WL.y rfl (Y.assign) ?_
            refine WL.nil (thenQ.normal ?_)
            refine ⟨j + 1, by omega, by omega, rfl, Below.step kL hb67, _, ov_mk ⟨rfl, rfl, rfl, (show Value.int .u64 (((ofC c (L.take j)).length : Int) + 1) = .int .u64 (((ofC c (L.take (j + 1))).length : Int) + 1) from by rw [hot]), rfl, trivial⟩⟩
        · have hje : j = L.length := by omega
          subst hje
          rw [List.take_length]
          have hll := last_len hg c
          have hol := ofC_len c L
          refine WC.exit (thenQ.exit (thenQ.exit (inBlockQ.hit (thenQ.normal ?_))))
          refine WC.seqR rfl ?_
          refine WL.y rfl (Y.move) ?_
          refine WL.y rfl (Y.move) ?_
          refine WL.call rfl (C.func go13) (hSL.last c) ?_
          rintro _ _ ⟨rfl, rfl⟩
          refine WL.y rfl (Y.move) ?_
          refine WL.y rfl (Y.subU64 rfl rfl (by omega)) ?_
          refine WL.y rfl (Y.dT (Y.eqi rfl rfl) (by omega)) ?_
          refine WL.y rfl (Y.move) ?_
          refine WL.call rfl (C.func go17) (known_ret _) ?_
          rintro _ w100 ⟨rfl, hb100⟩
          refine WL.y rfl (Y.pickT rfl) ?_
          refine WL.y rfl (Y.assign) ?_
          refine WL.nil ?_
          refine WC.ret (endQ.one (.inr rfl) ?_)
          exact ⟨rfl, Below.step (Below.step kC kL) hb100⟩
end Go.Proofs.Ytlhhognabmnlmaa
